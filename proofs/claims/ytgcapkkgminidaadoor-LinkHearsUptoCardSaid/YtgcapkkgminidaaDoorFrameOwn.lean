/-
  Contracts of the copies of one frame, and of link.packet, link.bare and the reference's packetAt.
-/
import Derived.Test.YtgcapkkgminidaaDoorRows
import Derived.Test.YtgcapkkgminidaaDoorRecV
import Derived.Test.YtgcapkkgminidaaDoorLinkC
namespace Go.Proofs.YtgcapkkgminidaaDoor
open Go.ChangeShapes Go.WideShapes Go.ChangeAt Go.RowKit
set_option maxRecDepth 100000
theorem five_cell {w : World} {B : Nat} {v0 v1 v2 v3 v4 : Value} {t : TypeId} (h : w.heap[B]? = some (.cells #[v0, v1, v2, v3, v4] t (0, 0))) :
    w.cell? ⟨B, 0, none⟩ = some v0 ∧ w.cell? ⟨B, 1, none⟩ = some v1 ∧ w.cell? ⟨B, 2, none⟩ = some v2 ∧ w.cell? ⟨B, 3, none⟩ = some v3 ∧ w.cell? ⟨B, 4, none⟩ = some v4 ∧
      w.frozen? ⟨B, 0, none⟩ = false ∧ w.frozen? ⟨B, 1, none⟩ = false ∧ w.frozen? ⟨B, 2, none⟩ = false ∧ w.frozen? ⟨B, 3, none⟩ = false ∧ w.frozen? ⟨B, 4, none⟩ = false ∧ B < w.heap.size :=
  ⟨by simp [World.cell?, h], by simp [World.cell?, h], by simp [World.cell?, h], by simp [World.cell?, h], by simp [World.cell?, h], by simp [World.frozen?, h], by simp [World.frozen?, h], by simp [World.frozen?, h], by simp [World.frozen?, h], by simp [World.frozen?, h], (Array.getElem?_eq_some_iff.1 h).1⟩
theorem any_set {w : World} {B : Nat} {vs : Array Value} {t : TypeId} (j : Nat) (x : Value) (h : w.heap[B]? = some (.cells vs t (0, 0))) : (w.setCell ⟨B, j, none⟩ x).heap[B]? = some (.cells (vs.setIfInBounds j x) t (0, 0)) := by
  rw [heap_setCell_same w B j _ _ _ h]
/-- The block of a frame's own five cells. -/
abbrev FrameAt (w : World) (X : Nat) (k h e : Int) (A : Option Addr) (n c : Nat) (s : ByteArray) : Prop := w.heap[X]? = some (.cells #[.int .i64 k, .int .i64 h, .int .i64 e, .slice A n c, .string s] 37 (0, 0))
/-- A call that hands back this frame, its operation in memory of its own. -/
def RetFrame (w : World) (f : FrameD) (e : Ending) (w' : World) : Prop :=
  ∃ A c, e = .returned (frameV f.kind f.heard f.epoch A f.op.length c f.text) ∧ OpIn (fun b => w.heap.size ≤ b ∧ b < w'.heap.size) w' A f.op ∧ Below w.heap.size w w'
set_option maxHeartbeats 1000000 in
theorem FrameCopy_c (w : World) (k h e : Int) (A : Option Addr) (c : Nat) (ps : List PartD) (s : ByteArray) (hs : OpIn (· < w.heap.size) w A ps) (hm : ps.length ≤ 1048576) :
    Calls Tryd.prog 67 #[frameV k h e A ps.length c s] w (RetFrame w ⟨k, h, e, ps, s⟩) := by
  obtain ⟨W1, hW1⟩ : ∃ W1, W1 = w.alloc (.cells #[.int .i64 k, .int .i64 h, .int .i64 e, .slice A ps.length c, .string s] 37) := ⟨_, rfl⟩
  obtain ⟨WA, hWA⟩ : ∃ WA, WA = W1.alloc (.cells #[.int .i64 0, .int .i64 0, .int .i64 0, .slice none 0 0, .string ⟨#[]⟩] 37) := ⟨_, rfl⟩
  have g1 : W1.heap.size = w.heap.size + 1 := by rw [hW1]; simp
  have g2 : WA.heap.size = W1.heap.size + 1 := by rw [hWA]; simp
  have k1 : Below w.heap.size w W1 := by rw [hW1]; exact bAlloc (Below.refl _ _) _
  have k2 : Below W1.heap.size W1 WA := by rw [hWA]; exact bAlloc (Below.refl _ _) _
  have HPA := Lib.hid (show FrameAt WA w.heap.size k h e A ps.length c s from (k2.block _ (by omega)).trans (by rw [hW1]; show (w.heap.push _)[w.heap.size]? = _; simp))
  have HRA := Lib.hid (show FrameAt WA W1.heap.size 0 0 0 none 0 0 ⟨#[]⟩ by rw [hWA]; show (W1.heap.push _)[W1.heap.size]? = _; simp)
  have HBA := Lib.hid (bThen k1 k2)
  have HW := Lib.hid (show (w.alloc (.cells #[.int .i64 k, .int .i64 h, .int .i64 e, .slice A ps.length c, .string s] 37)).alloc (.cells #[.int .i64 0, .int .i64 0, .int .i64 0, .slice none 0 0, .string ⟨#[]⟩] 37) = WA by rw [hWA, hW1])
  obtain ⟨R, hR⟩ : ∃ R, R = W1.heap.size := ⟨_, rfl⟩
  have HE := Lib.hid (show w.heap.size + 1 = R by omega)
  have hRB : w.heap.size < R := by omega
  have hRz : R < WA.heap.size := by omega
  have n1 : ¬ w.heap.size = R := by omega
  have n2 : ¬ R = w.heap.size := by omega
  rw [← hR] at HRA
  have HS := Lib.hid hs
  clear hR k1 k2 g1 g2 hWA hW1 hs
  go_enter Tryd.func67, Tryd.ntmps67
  go_wp2_with fail
  rw [HW.out, HE.out]
  refine (OpCopy_c _ A c ps (Sl.later HS.out HBA.out) hm).mono ?_
  rintro r w1 ⟨A1, c1, rfl, ho1, hb1⟩
  have hz1 := hb1.size
  have HP1 := Lib.hid (show FrameAt w1 w.heap.size k h e A ps.length c s from (hb1.block _ (by omega)).trans HPA.out)
  have HR1 := Lib.hid (show FrameAt w1 R 0 0 0 none 0 0 ⟨#[]⟩ from (hb1.block _ hRz).trans HRA.out)
  have HO1 := Lib.hid (show OpIn (fun b => R < b ∧ b < w1.heap.size) w1 A1 ps from (Sl.of_own _ ho1).moved fun b hb => ⟨⟨by omega, hb.2⟩, rfl⟩)
  have HB1 := Lib.hid (bThen HBA.out hb1)
  obtain ⟨p0, p1, p2, p3, p4, q0, q1, q2, q3, q4, hpz⟩ := five_cell HP1.out
  obtain ⟨r0, r1, r2, r3, r4, s0, s1, s2, s3, s4, hrz⟩ := five_cell HR1.out
  clear ho1 hb1
  go_wp2_with fail
  refine post_hide (fun G => FrameAt G R k h e A1 ps.length c1 s ∧ OpIn (fun b => w.heap.size ≤ b ∧ b < G.heap.size) G A1 ps ∧ Below w.heap.size w G) ⟨?_, ?_, ?_⟩ ?_
  · exact any_set 4 _ (any_set 3 _ (any_set 2 _ (any_set 1 _ (any_set 0 _ ((Below.heap_setCell _ _ _ _ n2).trans HR1.out)))))
  · exact HO1.out.moved fun b hb => ⟨⟨by omega, by simp [World.setCell]; omega⟩, have hR : b ≠ R := by omega
      have hP : b ≠ w.heap.size := by omega
      (Below.heap_setCell _ _ _ _ hR).trans ((Below.heap_setCell _ _ _ _ hR).trans ((Below.heap_setCell _ _ _ _ hR).trans ((Below.heap_setCell _ _ _ _ hR).trans ((Below.heap_setCell _ _ _ _ hR).trans (Below.heap_setCell _ _ _ _ hP)))))⟩
  · exact bSet (bSet (bSet (bSet (bSet (bSet HB1.out (p := ⟨w.heap.size, 3, none⟩) (Nat.le_refl _) _) (p := ⟨R, 0, none⟩) (Nat.le_of_lt hRB) _) (p := ⟨R, 1, none⟩) (Nat.le_of_lt hRB) _) (p := ⟨R, 2, none⟩) (Nat.le_of_lt hRB) _) (p := ⟨R, 3, none⟩) (Nat.le_of_lt hRB) _) (p := ⟨R, 4, none⟩) (Nat.le_of_lt hRB) _
  rintro G ⟨hR4, hO4, hF4⟩
  clear r0 r1 r2 r3 r4
  obtain ⟨r0, r1, r2, r3, r4, _, _, _, _, _, _⟩ := five_cell hR4
  refine bodyPost_ret (v := frameV k h e A1 ps.length c1 s) (by simp [results, Tryd.results67, go_sem, r0, r1, r2, r3, r4]) rfl ?_
  exact ⟨A1, c1, rfl, hO4, hF4⟩
set_option maxHeartbeats 1000000 in
theorem copyFrame_c (w : World) (k h e : Int) (A : Option Addr) (c : Nat) (ps : List PartD) (s : ByteArray) (hs : OpIn (· < w.heap.size) w A ps) (hm : ps.length ≤ 1048576) :
    Calls Tryd.prog 61 #[frameV k h e A ps.length c s] w (RetFrame w ⟨k, h, e, ps, s⟩) := by
  obtain ⟨W1, hW1⟩ : ∃ W1, W1 = w.alloc (.cells #[.int .i64 k, .int .i64 h, .int .i64 e, .slice A ps.length c, .string s] 37) := ⟨_, rfl⟩
  obtain ⟨WA, hWA⟩ : ∃ WA, WA = W1.alloc (.cells #[.int .i64 0, .int .i64 0, .int .i64 0, .slice none 0 0, .string ⟨#[]⟩] 37) := ⟨_, rfl⟩
  have g1 : W1.heap.size = w.heap.size + 1 := by rw [hW1]; simp
  have g2 : WA.heap.size = W1.heap.size + 1 := by rw [hWA]; simp
  have k1 : Below w.heap.size w W1 := by rw [hW1]; exact bAlloc (Below.refl _ _) _
  have k2 : Below W1.heap.size W1 WA := by rw [hWA]; exact bAlloc (Below.refl _ _) _
  have HPA := Lib.hid (show FrameAt WA w.heap.size k h e A ps.length c s from (k2.block _ (by omega)).trans (by rw [hW1]; show (w.heap.push _)[w.heap.size]? = _; simp))
  have HRA := Lib.hid (show FrameAt WA W1.heap.size 0 0 0 none 0 0 ⟨#[]⟩ by rw [hWA]; show (W1.heap.push _)[W1.heap.size]? = _; simp)
  have HBA := Lib.hid (bThen k1 k2)
  have HW := Lib.hid (show (w.alloc (.cells #[.int .i64 k, .int .i64 h, .int .i64 e, .slice A ps.length c, .string s] 37)).alloc (.cells #[.int .i64 0, .int .i64 0, .int .i64 0, .slice none 0 0, .string ⟨#[]⟩] 37) = WA by rw [hWA, hW1])
  obtain ⟨R, hR⟩ : ∃ R, R = W1.heap.size := ⟨_, rfl⟩
  have HE := Lib.hid (show w.heap.size + 1 = R by omega)
  have hRB : w.heap.size < R := by omega
  have hRz : R < WA.heap.size := by omega
  have n1 : ¬ w.heap.size = R := by omega
  have n2 : ¬ R = w.heap.size := by omega
  rw [← hR] at HRA
  have HS := Lib.hid hs
  clear hR k1 k2 g1 g2 hWA hW1 hs
  go_enter Tryd.func61, Tryd.ntmps61
  go_wp2_with fail
  rw [HW.out, HE.out]
  refine (CloneOp_c _ A c ps (Sl.later HS.out HBA.out) hm).mono ?_
  rintro r w1 ⟨A1, c1, rfl, ho1, hb1⟩
  have hz1 := hb1.size
  have HP1 := Lib.hid (show FrameAt w1 w.heap.size k h e A ps.length c s from (hb1.block _ (by omega)).trans HPA.out)
  have HR1 := Lib.hid (show FrameAt w1 R 0 0 0 none 0 0 ⟨#[]⟩ from (hb1.block _ hRz).trans HRA.out)
  have HO1 := Lib.hid (show OpIn (fun b => R < b ∧ b < w1.heap.size) w1 A1 ps from (Sl.of_own _ ho1).moved fun b hb => ⟨⟨by omega, hb.2⟩, rfl⟩)
  have HB1 := Lib.hid (bThen HBA.out hb1)
  obtain ⟨p0, p1, p2, p3, p4, q0, q1, q2, q3, q4, hpz⟩ := five_cell HP1.out
  obtain ⟨r0, r1, r2, r3, r4, s0, s1, s2, s3, s4, hrz⟩ := five_cell HR1.out
  clear ho1 hb1
  go_wp2_with fail
  refine post_hide (fun G => FrameAt G R k h e A1 ps.length c1 s ∧ OpIn (fun b => w.heap.size ≤ b ∧ b < G.heap.size) G A1 ps ∧ Below w.heap.size w G) ⟨?_, ?_, ?_⟩ ?_
  · exact any_set 4 _ (any_set 3 _ (any_set 2 _ (any_set 1 _ (any_set 0 _ ((Below.heap_setCell _ _ _ _ n2).trans HR1.out)))))
  · exact HO1.out.moved fun b hb => ⟨⟨by omega, by simp [World.setCell]; omega⟩, have hR : b ≠ R := by omega
      have hP : b ≠ w.heap.size := by omega
      (Below.heap_setCell _ _ _ _ hR).trans ((Below.heap_setCell _ _ _ _ hR).trans ((Below.heap_setCell _ _ _ _ hR).trans ((Below.heap_setCell _ _ _ _ hR).trans ((Below.heap_setCell _ _ _ _ hR).trans (Below.heap_setCell _ _ _ _ hP)))))⟩
  · exact bSet (bSet (bSet (bSet (bSet (bSet HB1.out (p := ⟨w.heap.size, 3, none⟩) (Nat.le_refl _) _) (p := ⟨R, 0, none⟩) (Nat.le_of_lt hRB) _) (p := ⟨R, 1, none⟩) (Nat.le_of_lt hRB) _) (p := ⟨R, 2, none⟩) (Nat.le_of_lt hRB) _) (p := ⟨R, 3, none⟩) (Nat.le_of_lt hRB) _) (p := ⟨R, 4, none⟩) (Nat.le_of_lt hRB) _
  rintro G ⟨hR4, hO4, hF4⟩
  clear r0 r1 r2 r3 r4
  obtain ⟨r0, r1, r2, r3, r4, _, _, _, _, _, _⟩ := five_cell hR4
  refine bodyPost_ret (v := frameV k h e A1 ps.length c1 s) (by simp [results, Tryd.results61, go_sem, r0, r1, r2, r3, r4]) rfl ?_
  exact ⟨A1, c1, rfl, hO4, hF4⟩
end Go.Proofs.YtgcapkkgminidaaDoor
