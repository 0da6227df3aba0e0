/-
  Contract of wherryref.SentOf.
-/
import Derived.Test.YtiooimnlkcpnnaaDoorRows
import Derived.Test.YtiooimnlkcpnnaaDoorSendP
namespace Go.Proofs.YtiooimnlkcpnnaaDoor
open Go.ChangeShapes Go.WideShapes Go.ChangeAt Go.RowKit
set_option maxRecDepth 100000
theorem SentOf_state (w : World) (s h : Int) (A : Option Addr) (c : Nat) (L : List OpV) (HT : Hid (Tabs w)) (HS : Hid (OpsIn w A L)) (HM : Hid (∀ o ∈ L, o.Small)) (B : Option Addr) (cc : Nat) (ps : List PartD) (HC : Hid (∀ W, Tabs W → OpsIn W A L → (∀ o ∈ L, o.Small) → Calls Tryd.prog 80 #[edgeV s h A L.length c] W fun r w' => r = .returned (.bool false) ∧ Below W.heap.size W w')) :
    Calls Tryd.prog 28 #[edgeV s h A L.length c, .slice B ps.length cc] w (RetSent w s h L ps 9) := by
  obtain ⟨W1, hW1⟩ : ∃ W1, W1 = w.alloc (.cells #[.int .i64 s, .int .i64 h, .slice A L.length c] 43) := ⟨_, rfl⟩
  obtain ⟨WA, hWA⟩ : ∃ WA, WA = W1.alloc (.cells #[.int .i64 0, .int .i64 0, .slice none 0 0] 43) := ⟨_, rfl⟩
  have g1 : W1.heap.size = w.heap.size + 1 := by rw [hW1]; simp
  have g2 : WA.heap.size = W1.heap.size + 1 := by rw [hWA]; simp
  have k1 : Below w.heap.size w W1 := by rw [hW1]; exact bAlloc (Below.refl _ _) _
  have k2 : Below W1.heap.size W1 WA := by rw [hWA]; exact bAlloc (Below.refl _ _) _
  have HA := Lib.hid (show SendAt w WA W1.heap.size s h A L.length c from ⟨(k2.block _ (by omega)).trans (by rw [hW1]; show (w.heap.push _)[w.heap.size]? = _; simp), by rw [hWA]; show (W1.heap.push _)[W1.heap.size]? = _; simp, bThen k1 k2⟩)
  have HW := Lib.hid (show (w.alloc (.cells #[.int .i64 s, .int .i64 h, .slice A L.length c] 43)).alloc (.cells #[.int .i64 0, .int .i64 0, .slice none 0 0] 43) = WA by rw [hWA, hW1])
  obtain ⟨R, hR⟩ : ∃ R, R = W1.heap.size := ⟨_, rfl⟩
  have HE2 := Lib.hid (show w.heap.size + 1 = R by omega)
  have hRB : w.heap.size < R := by omega
  have hRz : R < WA.heap.size := by omega
  rw [← hR] at HA
  clear hR k1 k2 g1 g2 hWA hW1
  go_enter Tryd.func28, Tryd.ntmps28
  go_wp2_with fail
  rw [HW.out, HE2.out]
  refine (HC.out _ (HT.out.later HA.out.b) (HS.out.later HA.out.b) HM.out).mono ?_
  rintro e w1 ⟨rfl, hb1⟩
  have H1 := Lib.hid (HA.out.later hb1)
  have hz1 := hb1.size
  obtain ⟨e0, e1, e2, _, _, _, hez⟩ := three_cell H1.out.e
  obtain ⟨r0, r1, r2, q0, q1, q2, hrz⟩ := three_cell H1.out.r
  clear hb1
  go_wp2_with fail
  have z0 := three_cell (three_set2 (x := .slice none 0 0) (three_set1 (x := .int .i64 0) (three_set0 (x := .int .i64 0) H1.out.r)))
  obtain ⟨z0, z1, z2, _, _, _, _⟩ := z0
  refine bodyPost_ret (v := .tuple #[edgeV 0 0 none 0 0, .int .i64 9]) (by simp [results, Tryd.results28, go_sem, z0, z1, z2]) rfl ?_
  exact ⟨fun _ => ⟨rfl, bSet (bSet (bSet H1.out.b (p := ⟨R, 0, none⟩) (Nat.le_of_lt hRB) _) (p := ⟨R, 1, none⟩) (Nat.le_of_lt hRB) _) (p := ⟨R, 2, none⟩) (Nat.le_of_lt hRB) _⟩, fun h0 => absurd h0 (by decide)⟩
theorem SentOf_fault (w : World) (s h : Int) (A : Option Addr) (c : Nat) (L : List OpV) (HT : Hid (Tabs w)) (HS : Hid (OpsIn w A L)) (HM : Hid (∀ o ∈ L, o.Small)) (B : Option Addr) (cc : Nat) (ps : List PartD) (HP : Hid (OpIn (· < w.heap.size) w B ps)) (er : Int) (_hne : (er != 0) = true) (HC : Hid (∀ W, Tabs W → OpsIn W A L → (∀ o ∈ L, o.Small) → Calls Tryd.prog 80 #[edgeV s h A L.length c] W fun r w' => r = .returned (.bool true) ∧ Below W.heap.size W w')) (HF : Hid (∀ W, Tabs W → OpIn (· < W.heap.size) W B ps → Calls Tryd.prog 68 #[.slice B ps.length cc] W fun e w' => e = .returned (.int .i64 (er)) ∧ Below W.heap.size W w')) :
    Calls Tryd.prog 28 #[edgeV s h A L.length c, .slice B ps.length cc] w (RetSent w s h L ps er) := by
  obtain ⟨W1, hW1⟩ : ∃ W1, W1 = w.alloc (.cells #[.int .i64 s, .int .i64 h, .slice A L.length c] 43) := ⟨_, rfl⟩
  obtain ⟨WA, hWA⟩ : ∃ WA, WA = W1.alloc (.cells #[.int .i64 0, .int .i64 0, .slice none 0 0] 43) := ⟨_, rfl⟩
  have g1 : W1.heap.size = w.heap.size + 1 := by rw [hW1]; simp
  have g2 : WA.heap.size = W1.heap.size + 1 := by rw [hWA]; simp
  have k1 : Below w.heap.size w W1 := by rw [hW1]; exact bAlloc (Below.refl _ _) _
  have k2 : Below W1.heap.size W1 WA := by rw [hWA]; exact bAlloc (Below.refl _ _) _
  have HA := Lib.hid (show SendAt w WA W1.heap.size s h A L.length c from ⟨(k2.block _ (by omega)).trans (by rw [hW1]; show (w.heap.push _)[w.heap.size]? = _; simp), by rw [hWA]; show (W1.heap.push _)[W1.heap.size]? = _; simp, bThen k1 k2⟩)
  have HW := Lib.hid (show (w.alloc (.cells #[.int .i64 s, .int .i64 h, .slice A L.length c] 43)).alloc (.cells #[.int .i64 0, .int .i64 0, .slice none 0 0] 43) = WA by rw [hWA, hW1])
  obtain ⟨R, hR⟩ : ∃ R, R = W1.heap.size := ⟨_, rfl⟩
  have HE2 := Lib.hid (show w.heap.size + 1 = R by omega)
  have hRB : w.heap.size < R := by omega
  have hRz : R < WA.heap.size := by omega
  rw [← hR] at HA
  clear hR k1 k2 g1 g2 hWA hW1
  go_enter Tryd.func28, Tryd.ntmps28
  go_wp2_with fail
  rw [HW.out, HE2.out]
  refine (HC.out _ (HT.out.later HA.out.b) (HS.out.later HA.out.b) HM.out).mono ?_
  rintro e w1 ⟨rfl, hb1⟩
  have H1 := Lib.hid (HA.out.later hb1)
  have hz1 := hb1.size
  obtain ⟨e0, e1, e2, _, _, _, hez⟩ := three_cell H1.out.e
  obtain ⟨r0, r1, r2, q0, q1, q2, hrz⟩ := three_cell H1.out.r
  clear hb1
  go_wp2_with fail
  refine (HF.out _ (HT.out.later H1.out.b) (Sl.later HP.out H1.out.b)).mono ?_
  rintro e w2 ⟨rfl, hb2⟩
  have H2 := Lib.hid (H1.out.later hb2)
  have hz2 := hb2.size
  obtain ⟨e0, e1, e2, _, _, _, hez⟩ := three_cell H2.out.e
  obtain ⟨r0, r1, r2, q0, q1, q2, hrz⟩ := three_cell H2.out.r
  clear hb2
  go_wp2_with fail
  have z0 := three_cell (three_set2 (x := .slice none 0 0) (three_set1 (x := .int .i64 0) (three_set0 (x := .int .i64 0) H2.out.r)))
  obtain ⟨z0, z1, z2, _, _, _, _⟩ := z0
  refine bodyPost_ret (v := .tuple #[edgeV 0 0 none 0 0, .int .i64 er]) (by simp [results, Tryd.results28, go_sem, z0, z1, z2]) rfl ?_
  exact ⟨fun _ => ⟨rfl, bSet (bSet (bSet H2.out.b (p := ⟨R, 0, none⟩) (Nat.le_of_lt hRB) _) (p := ⟨R, 1, none⟩) (Nat.le_of_lt hRB) _) (p := ⟨R, 2, none⟩) (Nat.le_of_lt hRB) _⟩, fun h0 => absurd h0 (by simpa using _hne)⟩
theorem SentOf_match (w : World) (s h : Int) (A : Option Addr) (c : Nat) (L : List OpV) (HT : Hid (Tabs w)) (HS : Hid (OpsIn w A L)) (HM : Hid (∀ o ∈ L, o.Small)) (B : Option Addr) (cc : Nat) (ps : List PartD) (HP : Hid (OpIn (· < w.heap.size) w B ps)) (qA : Option Addr) (qc : Nat) (qp : List PartD) (hlast : L.getLast? = some ⟨qA, qc, qp⟩) (a1 a2 b1 b2 : Int) (_hm : (a1 != b2) = true) (hll : L.length ≤ 1048576) (HC : Hid (∀ W, Tabs W → OpsIn W A L → (∀ o ∈ L, o.Small) → Calls Tryd.prog 80 #[edgeV s h A L.length c] W fun r w' => r = .returned (.bool true) ∧ Below W.heap.size W w')) (HF : Hid (∀ W, Tabs W → OpIn (· < W.heap.size) W B ps → Calls Tryd.prog 68 #[.slice B ps.length cc] W fun e w' => e = .returned (.int .i64 (0)) ∧ Below W.heap.size W w')) (HL : Hid (∀ W, OpIn (· < W.heap.size) W B ps → Calls Tryd.prog 69 #[.slice B ps.length cc] W fun e w' => e = .returned (.tuple #[.int .i64 a1, .int .i64 a2]) ∧ Below W.heap.size W w')) (HQ : Hid (∀ W, OpIn (· < W.heap.size) W qA qp → Calls Tryd.prog 69 #[.slice qA qp.length qc] W fun e w' => e = .returned (.tuple #[.int .i64 b1, .int .i64 b2]) ∧ Below W.heap.size W w')) :
    Calls Tryd.prog 28 #[edgeV s h A L.length c, .slice B ps.length cc] w (RetSent w s h L ps 10) := by
  obtain ⟨b, o, rfl, hbs, hcell, hop⟩ := last_at HS.out hlast
  have hn : decide (0 < L.length) = true := by simpa using last_pos hlast
  have hlp := last_pos hlast
  have HQI := Lib.hid hop
  have HCL := Lib.hid hcell
  clear hop hcell hlast
  obtain ⟨W1, hW1⟩ : ∃ W1, W1 = w.alloc (.cells #[.int .i64 s, .int .i64 h, .slice (some ⟨b, o, none⟩) L.length c] 43) := ⟨_, rfl⟩
  obtain ⟨WA, hWA⟩ : ∃ WA, WA = W1.alloc (.cells #[.int .i64 0, .int .i64 0, .slice none 0 0] 43) := ⟨_, rfl⟩
  have g1 : W1.heap.size = w.heap.size + 1 := by rw [hW1]; simp
  have g2 : WA.heap.size = W1.heap.size + 1 := by rw [hWA]; simp
  have k1 : Below w.heap.size w W1 := by rw [hW1]; exact bAlloc (Below.refl _ _) _
  have k2 : Below W1.heap.size W1 WA := by rw [hWA]; exact bAlloc (Below.refl _ _) _
  have HA := Lib.hid (show SendAt w WA W1.heap.size s h (some ⟨b, o, none⟩) L.length c from ⟨(k2.block _ (by omega)).trans (by rw [hW1]; show (w.heap.push _)[w.heap.size]? = _; simp), by rw [hWA]; show (W1.heap.push _)[W1.heap.size]? = _; simp, bThen k1 k2⟩)
  have HW := Lib.hid (show (w.alloc (.cells #[.int .i64 s, .int .i64 h, .slice (some ⟨b, o, none⟩) L.length c] 43)).alloc (.cells #[.int .i64 0, .int .i64 0, .slice none 0 0] 43) = WA by rw [hWA, hW1])
  obtain ⟨R, hR⟩ : ∃ R, R = W1.heap.size := ⟨_, rfl⟩
  have HE2 := Lib.hid (show w.heap.size + 1 = R by omega)
  have hRB : w.heap.size < R := by omega
  have hRz : R < WA.heap.size := by omega
  rw [← hR] at HA
  clear hR k1 k2 g1 g2 hWA hW1
  go_enter Tryd.func28, Tryd.ntmps28
  go_wp2_with fail
  rw [HW.out, HE2.out]
  refine (HC.out _ (HT.out.later HA.out.b) (HS.out.later HA.out.b) HM.out).mono ?_
  rintro e w1 ⟨rfl, hb1⟩
  have H1 := Lib.hid (HA.out.later hb1)
  have hz1 := hb1.size
  obtain ⟨e0, e1, e2, _, _, _, hez⟩ := three_cell H1.out.e
  obtain ⟨r0, r1, r2, q0, q1, q2, hrz⟩ := three_cell H1.out.r
  clear hb1
  have lc : w1.cell? ⟨b, o + (L.length - 1), none⟩ = some (.slice qA qp.length qc) := (H1.out.b.cell (p := ⟨b, o + (L.length - 1), none⟩) hbs).trans HCL.out
  go_wp2_with fail
  refine (HF.out _ (HT.out.later H1.out.b) (Sl.later HP.out H1.out.b)).mono ?_
  rintro e w2 ⟨rfl, hb2⟩
  have H2 := Lib.hid (H1.out.later hb2)
  have hz2 := hb2.size
  obtain ⟨e0, e1, e2, _, _, _, hez⟩ := three_cell H2.out.e
  obtain ⟨r0, r1, r2, q0, q1, q2, hrz⟩ := three_cell H2.out.r
  clear hb2
  have lc : w2.cell? ⟨b, o + (L.length - 1), none⟩ = some (.slice qA qp.length qc) := (H2.out.b.cell (p := ⟨b, o + (L.length - 1), none⟩) hbs).trans HCL.out
  go_wp2_with fail
  refine (HL.out _ (Sl.later HP.out H2.out.b)).mono ?_
  rintro e w3 ⟨rfl, hb3⟩
  have H3 := Lib.hid (H2.out.later hb3)
  have hz3 := hb3.size
  obtain ⟨e0, e1, e2, _, _, _, hez⟩ := three_cell H3.out.e
  obtain ⟨r0, r1, r2, q0, q1, q2, hrz⟩ := three_cell H3.out.r
  clear hb3
  have lc : w3.cell? ⟨b, o + (L.length - 1), none⟩ = some (.slice qA qp.length qc) := (H3.out.b.cell (p := ⟨b, o + (L.length - 1), none⟩) hbs).trans HCL.out
  go_wp2_with fail
  refine (HQ.out _ (Sl.later HQI.out H3.out.b)).mono ?_
  rintro e w4 ⟨rfl, hb4⟩
  have H4 := Lib.hid (H3.out.later hb4)
  have hz4 := hb4.size
  obtain ⟨e0, e1, e2, _, _, _, hez⟩ := three_cell H4.out.e
  obtain ⟨r0, r1, r2, q0, q1, q2, hrz⟩ := three_cell H4.out.r
  clear hb4
  have lc : w4.cell? ⟨b, o + (L.length - 1), none⟩ = some (.slice qA qp.length qc) := (H4.out.b.cell (p := ⟨b, o + (L.length - 1), none⟩) hbs).trans HCL.out
  go_wp2_with fail
  have z0 := three_cell (three_set2 (x := .slice none 0 0) (three_set1 (x := .int .i64 0) (three_set0 (x := .int .i64 0) H4.out.r)))
  obtain ⟨z0, z1, z2, _, _, _, _⟩ := z0
  refine bodyPost_ret (v := .tuple #[edgeV 0 0 none 0 0, .int .i64 10]) (by simp [results, Tryd.results28, go_sem, z0, z1, z2]) rfl ?_
  exact ⟨fun _ => ⟨rfl, bSet (bSet (bSet H4.out.b (p := ⟨R, 0, none⟩) (Nat.le_of_lt hRB) _) (p := ⟨R, 1, none⟩) (Nat.le_of_lt hRB) _) (p := ⟨R, 2, none⟩) (Nat.le_of_lt hRB) _⟩, fun h0 => absurd h0 (by decide)⟩
theorem SentOf_full (w : World) (s h : Int) (A : Option Addr) (c : Nat) (L : List OpV) (HT : Hid (Tabs w)) (HS : Hid (OpsIn w A L)) (HM : Hid (∀ o ∈ L, o.Small)) (B : Option Addr) (cc : Nat) (ps : List PartD) (HP : Hid (OpIn (· < w.heap.size) w B ps)) (qA : Option Addr) (qc : Nat) (qp : List PartD) (hlast : L.getLast? = some ⟨qA, qc, qp⟩) (a1 a2 b1 : Int) (hll : L.length ≤ 1048576) (_f1 : (s == 1048576) = true) (_f2 : decide (1048576 ≤ s) = true) (HC : Hid (∀ W, Tabs W → OpsIn W A L → (∀ o ∈ L, o.Small) → Calls Tryd.prog 80 #[edgeV s h A L.length c] W fun r w' => r = .returned (.bool true) ∧ Below W.heap.size W w')) (HF : Hid (∀ W, Tabs W → OpIn (· < W.heap.size) W B ps → Calls Tryd.prog 68 #[.slice B ps.length cc] W fun e w' => e = .returned (.int .i64 (0)) ∧ Below W.heap.size W w')) (HL : Hid (∀ W, OpIn (· < W.heap.size) W B ps → Calls Tryd.prog 69 #[.slice B ps.length cc] W fun e w' => e = .returned (.tuple #[.int .i64 a1, .int .i64 a2]) ∧ Below W.heap.size W w')) (HQ : Hid (∀ W, OpIn (· < W.heap.size) W qA qp → Calls Tryd.prog 69 #[.slice qA qp.length qc] W fun e w' => e = .returned (.tuple #[.int .i64 b1, .int .i64 a1]) ∧ Below W.heap.size W w')) :
    Calls Tryd.prog 28 #[edgeV s h A L.length c, .slice B ps.length cc] w (RetSent w s h L ps 8) := by
  obtain ⟨b, o, rfl, hbs, hcell, hop⟩ := last_at HS.out hlast
  have hn : decide (0 < L.length) = true := by simpa using last_pos hlast
  have hlp := last_pos hlast
  have HQI := Lib.hid hop
  have HCL := Lib.hid hcell
  clear hop hcell hlast
  obtain ⟨W1, hW1⟩ : ∃ W1, W1 = w.alloc (.cells #[.int .i64 s, .int .i64 h, .slice (some ⟨b, o, none⟩) L.length c] 43) := ⟨_, rfl⟩
  obtain ⟨WA, hWA⟩ : ∃ WA, WA = W1.alloc (.cells #[.int .i64 0, .int .i64 0, .slice none 0 0] 43) := ⟨_, rfl⟩
  have g1 : W1.heap.size = w.heap.size + 1 := by rw [hW1]; simp
  have g2 : WA.heap.size = W1.heap.size + 1 := by rw [hWA]; simp
  have k1 : Below w.heap.size w W1 := by rw [hW1]; exact bAlloc (Below.refl _ _) _
  have k2 : Below W1.heap.size W1 WA := by rw [hWA]; exact bAlloc (Below.refl _ _) _
  have HA := Lib.hid (show SendAt w WA W1.heap.size s h (some ⟨b, o, none⟩) L.length c from ⟨(k2.block _ (by omega)).trans (by rw [hW1]; show (w.heap.push _)[w.heap.size]? = _; simp), by rw [hWA]; show (W1.heap.push _)[W1.heap.size]? = _; simp, bThen k1 k2⟩)
  have HW := Lib.hid (show (w.alloc (.cells #[.int .i64 s, .int .i64 h, .slice (some ⟨b, o, none⟩) L.length c] 43)).alloc (.cells #[.int .i64 0, .int .i64 0, .slice none 0 0] 43) = WA by rw [hWA, hW1])
  obtain ⟨R, hR⟩ : ∃ R, R = W1.heap.size := ⟨_, rfl⟩
  have HE2 := Lib.hid (show w.heap.size + 1 = R by omega)
  have hRB : w.heap.size < R := by omega
  have hRz : R < WA.heap.size := by omega
  rw [← hR] at HA
  clear hR k1 k2 g1 g2 hWA hW1
  go_enter Tryd.func28, Tryd.ntmps28
  go_wp2_with fail
  rw [HW.out, HE2.out]
  refine (HC.out _ (HT.out.later HA.out.b) (HS.out.later HA.out.b) HM.out).mono ?_
  rintro e w1 ⟨rfl, hb1⟩
  have H1 := Lib.hid (HA.out.later hb1)
  have hz1 := hb1.size
  obtain ⟨e0, e1, e2, _, _, _, hez⟩ := three_cell H1.out.e
  obtain ⟨r0, r1, r2, q0, q1, q2, hrz⟩ := three_cell H1.out.r
  clear hb1
  have lc : w1.cell? ⟨b, o + (L.length - 1), none⟩ = some (.slice qA qp.length qc) := (H1.out.b.cell (p := ⟨b, o + (L.length - 1), none⟩) hbs).trans HCL.out
  go_wp2_with fail
  refine (HF.out _ (HT.out.later H1.out.b) (Sl.later HP.out H1.out.b)).mono ?_
  rintro e w2 ⟨rfl, hb2⟩
  have H2 := Lib.hid (H1.out.later hb2)
  have hz2 := hb2.size
  obtain ⟨e0, e1, e2, _, _, _, hez⟩ := three_cell H2.out.e
  obtain ⟨r0, r1, r2, q0, q1, q2, hrz⟩ := three_cell H2.out.r
  clear hb2
  have lc : w2.cell? ⟨b, o + (L.length - 1), none⟩ = some (.slice qA qp.length qc) := (H2.out.b.cell (p := ⟨b, o + (L.length - 1), none⟩) hbs).trans HCL.out
  go_wp2_with fail
  refine (HL.out _ (Sl.later HP.out H2.out.b)).mono ?_
  rintro e w3 ⟨rfl, hb3⟩
  have H3 := Lib.hid (H2.out.later hb3)
  have hz3 := hb3.size
  obtain ⟨e0, e1, e2, _, _, _, hez⟩ := three_cell H3.out.e
  obtain ⟨r0, r1, r2, q0, q1, q2, hrz⟩ := three_cell H3.out.r
  clear hb3
  have lc : w3.cell? ⟨b, o + (L.length - 1), none⟩ = some (.slice qA qp.length qc) := (H3.out.b.cell (p := ⟨b, o + (L.length - 1), none⟩) hbs).trans HCL.out
  go_wp2_with fail
  refine (HQ.out _ (Sl.later HQI.out H3.out.b)).mono ?_
  rintro e w4 ⟨rfl, hb4⟩
  have H4 := Lib.hid (H3.out.later hb4)
  have hz4 := hb4.size
  obtain ⟨e0, e1, e2, _, _, _, hez⟩ := three_cell H4.out.e
  obtain ⟨r0, r1, r2, q0, q1, q2, hrz⟩ := three_cell H4.out.r
  clear hb4
  have lc : w4.cell? ⟨b, o + (L.length - 1), none⟩ = some (.slice qA qp.length qc) := (H4.out.b.cell (p := ⟨b, o + (L.length - 1), none⟩) hbs).trans HCL.out
  go_wp2_with fail
  have z0 := three_cell (three_set2 (x := .slice none 0 0) (three_set1 (x := .int .i64 0) (three_set0 (x := .int .i64 0) H4.out.r)))
  obtain ⟨z0, z1, z2, _, _, _, _⟩ := z0
  refine bodyPost_ret (v := .tuple #[edgeV 0 0 none 0 0, .int .i64 8]) (by simp [results, Tryd.results28, go_sem, z0, z1, z2]) rfl ?_
  exact ⟨fun _ => ⟨rfl, bSet (bSet (bSet H4.out.b (p := ⟨R, 0, none⟩) (Nat.le_of_lt hRB) _) (p := ⟨R, 1, none⟩) (Nat.le_of_lt hRB) _) (p := ⟨R, 2, none⟩) (Nat.le_of_lt hRB) _⟩, fun h0 => absurd h0 (by decide)⟩
theorem SentOf_full0 (w : World) (s h : Int) (A : Option Addr) (c : Nat) (L : List OpV) (HT : Hid (Tabs w)) (HS : Hid (OpsIn w A L)) (HM : Hid (∀ o ∈ L, o.Small)) (B : Option Addr) (cc : Nat) (ps : List PartD) (HP : Hid (OpIn (· < w.heap.size) w B ps)) (hl0 : Hid (L.length = 0)) (_f1 : (s == 1048576) = true) (_f2 : decide (1048576 ≤ s) = true) (HC : Hid (∀ W, Tabs W → OpsIn W A L → (∀ o ∈ L, o.Small) → Calls Tryd.prog 80 #[edgeV s h A L.length c] W fun r w' => r = .returned (.bool true) ∧ Below W.heap.size W w')) (HF : Hid (∀ W, Tabs W → OpIn (· < W.heap.size) W B ps → Calls Tryd.prog 68 #[.slice B ps.length cc] W fun e w' => e = .returned (.int .i64 (0)) ∧ Below W.heap.size W w')) :
    Calls Tryd.prog 28 #[edgeV s h A L.length c, .slice B ps.length cc] w (RetSent w s h L ps 8) := by
  have hn : decide (0 < L.length) = false := by simp [hl0.out]
  obtain ⟨W1, hW1⟩ : ∃ W1, W1 = w.alloc (.cells #[.int .i64 s, .int .i64 h, .slice A L.length c] 43) := ⟨_, rfl⟩
  obtain ⟨WA, hWA⟩ : ∃ WA, WA = W1.alloc (.cells #[.int .i64 0, .int .i64 0, .slice none 0 0] 43) := ⟨_, rfl⟩
  have g1 : W1.heap.size = w.heap.size + 1 := by rw [hW1]; simp
  have g2 : WA.heap.size = W1.heap.size + 1 := by rw [hWA]; simp
  have k1 : Below w.heap.size w W1 := by rw [hW1]; exact bAlloc (Below.refl _ _) _
  have k2 : Below W1.heap.size W1 WA := by rw [hWA]; exact bAlloc (Below.refl _ _) _
  have HA := Lib.hid (show SendAt w WA W1.heap.size s h A L.length c from ⟨(k2.block _ (by omega)).trans (by rw [hW1]; show (w.heap.push _)[w.heap.size]? = _; simp), by rw [hWA]; show (W1.heap.push _)[W1.heap.size]? = _; simp, bThen k1 k2⟩)
  have HW := Lib.hid (show (w.alloc (.cells #[.int .i64 s, .int .i64 h, .slice A L.length c] 43)).alloc (.cells #[.int .i64 0, .int .i64 0, .slice none 0 0] 43) = WA by rw [hWA, hW1])
  obtain ⟨R, hR⟩ : ∃ R, R = W1.heap.size := ⟨_, rfl⟩
  have HE2 := Lib.hid (show w.heap.size + 1 = R by omega)
  have hRB : w.heap.size < R := by omega
  have hRz : R < WA.heap.size := by omega
  rw [← hR] at HA
  clear hR k1 k2 g1 g2 hWA hW1
  go_enter Tryd.func28, Tryd.ntmps28
  go_wp2_with fail
  rw [HW.out, HE2.out]
  refine (HC.out _ (HT.out.later HA.out.b) (HS.out.later HA.out.b) HM.out).mono ?_
  rintro e w1 ⟨rfl, hb1⟩
  have H1 := Lib.hid (HA.out.later hb1)
  have hz1 := hb1.size
  obtain ⟨e0, e1, e2, _, _, _, hez⟩ := three_cell H1.out.e
  obtain ⟨r0, r1, r2, q0, q1, q2, hrz⟩ := three_cell H1.out.r
  clear hb1
  go_wp2_with fail
  refine (HF.out _ (HT.out.later H1.out.b) (Sl.later HP.out H1.out.b)).mono ?_
  rintro e w2 ⟨rfl, hb2⟩
  have H2 := Lib.hid (H1.out.later hb2)
  have hz2 := hb2.size
  obtain ⟨e0, e1, e2, _, _, _, hez⟩ := three_cell H2.out.e
  obtain ⟨r0, r1, r2, q0, q1, q2, hrz⟩ := three_cell H2.out.r
  clear hb2
  go_wp2_with fail
  have z0 := three_cell (three_set2 (x := .slice none 0 0) (three_set1 (x := .int .i64 0) (three_set0 (x := .int .i64 0) H2.out.r)))
  obtain ⟨z0, z1, z2, _, _, _, _⟩ := z0
  refine bodyPost_ret (v := .tuple #[edgeV 0 0 none 0 0, .int .i64 8]) (by simp [results, Tryd.results28, go_sem, z0, z1, z2]) rfl ?_
  exact ⟨fun _ => ⟨rfl, bSet (bSet (bSet H2.out.b (p := ⟨R, 0, none⟩) (Nat.le_of_lt hRB) _) (p := ⟨R, 1, none⟩) (Nat.le_of_lt hRB) _) (p := ⟨R, 2, none⟩) (Nat.le_of_lt hRB) _⟩, fun h0 => absurd h0 (by decide)⟩
set_option maxHeartbeats 1000000 in
theorem SentOf_ok0 (w : World) (s h : Int) (A : Option Addr) (c : Nat) (L : List OpV) (HT : Hid (Tabs w)) (HS : Hid (OpsIn w A L)) (HM : Hid (∀ o ∈ L, o.Small)) (B : Option Addr) (cc : Nat) (ps : List PartD) (HP : Hid (OpIn (· < w.heap.size) w B ps)) (hl0 : Hid (L.length = 0)) (hll : L.length ≤ 1048576) (hs0 : 0 ≤ s) (hs1 : s < 1048576) (_f1 : (s == 1048576) = false) (_f2 : decide (1048576 ≤ s) = false) (HC : Hid (∀ W, Tabs W → OpsIn W A L → (∀ o ∈ L, o.Small) → Calls Tryd.prog 80 #[edgeV s h A L.length c] W fun r w' => r = .returned (.bool true) ∧ Below W.heap.size W w')) (HF : Hid (∀ W, Tabs W → OpIn (· < W.heap.size) W B ps → Calls Tryd.prog 68 #[.slice B ps.length cc] W fun e w' => e = .returned (.int .i64 (0)) ∧ Below W.heap.size W w')) (HO : Hid (∀ W, OpsIn W A L → Calls Tryd.prog 25 #[edgeV s h A L.length c] W (RetEdge W s h L))) (HD : Hid (∀ W, OpIn (· < W.heap.size) W B ps → Calls Tryd.prog 27 #[.slice B ps.length cc] W (RetOp W ps))) :
    Calls Tryd.prog 28 #[edgeV s h A L.length c, .slice B ps.length cc] w (RetSent w s h L ps 0) := by
  have hn : decide (0 < L.length) = false := by simp [hl0.out]
  obtain ⟨W1, hW1⟩ : ∃ W1, W1 = w.alloc (.cells #[.int .i64 s, .int .i64 h, .slice A L.length c] 43) := ⟨_, rfl⟩
  obtain ⟨WA, hWA⟩ : ∃ WA, WA = W1.alloc (.cells #[.int .i64 0, .int .i64 0, .slice none 0 0] 43) := ⟨_, rfl⟩
  have g1 : W1.heap.size = w.heap.size + 1 := by rw [hW1]; simp
  have g2 : WA.heap.size = W1.heap.size + 1 := by rw [hWA]; simp
  have k1 : Below w.heap.size w W1 := by rw [hW1]; exact bAlloc (Below.refl _ _) _
  have k2 : Below W1.heap.size W1 WA := by rw [hWA]; exact bAlloc (Below.refl _ _) _
  have HA := Lib.hid (show SendAt w WA W1.heap.size s h A L.length c from ⟨(k2.block _ (by omega)).trans (by rw [hW1]; show (w.heap.push _)[w.heap.size]? = _; simp), by rw [hWA]; show (W1.heap.push _)[W1.heap.size]? = _; simp, bThen k1 k2⟩)
  have HW := Lib.hid (show (w.alloc (.cells #[.int .i64 s, .int .i64 h, .slice A L.length c] 43)).alloc (.cells #[.int .i64 0, .int .i64 0, .slice none 0 0] 43) = WA by rw [hWA, hW1])
  obtain ⟨R, hR⟩ : ∃ R, R = W1.heap.size := ⟨_, rfl⟩
  have HE2 := Lib.hid (show w.heap.size + 1 = R by omega)
  have hRB : w.heap.size < R := by omega
  have hRz : R < WA.heap.size := by omega
  rw [← hR] at HA
  clear hR k1 k2 g1 g2 hWA hW1
  go_enter Tryd.func28, Tryd.ntmps28
  go_wp2_with fail
  rw [HW.out, HE2.out]
  refine (HC.out _ (HT.out.later HA.out.b) (HS.out.later HA.out.b) HM.out).mono ?_
  rintro e w1 ⟨rfl, hb1⟩
  have H1 := Lib.hid (HA.out.later hb1)
  have hz1 := hb1.size
  obtain ⟨e0, e1, e2, _, _, _, hez⟩ := three_cell H1.out.e
  obtain ⟨r0, r1, r2, q0, q1, q2, hrz⟩ := three_cell H1.out.r
  clear hb1
  go_wp2_with fail
  refine (HF.out _ (HT.out.later H1.out.b) (Sl.later HP.out H1.out.b)).mono ?_
  rintro e w2 ⟨rfl, hb2⟩
  have H2 := Lib.hid (H1.out.later hb2)
  have hz2 := hb2.size
  obtain ⟨e0, e1, e2, _, _, _, hez⟩ := three_cell H2.out.e
  obtain ⟨r0, r1, r2, q0, q1, q2, hrz⟩ := three_cell H2.out.r
  clear hb2
  go_wp2_with fail
  refine (HO.out _ (HS.out.later H2.out.b)).mono ?_
  rintro e wc ⟨A3, c3, L3, rfl, hps3, hown3, hb3⟩
  have hL3 : L3.length ≤ 1048576 := by have := congrArg List.length hps3; simp at this; omega
  have HPS := Lib.hid hps3
  obtain ⟨O, hO⟩ : ∃ O, O = wc.heap.size := ⟨_, rfl⟩
  obtain ⟨WX, hWX⟩ : ∃ WX, WX = wc.alloc (.cells #[.int .i64 (s + 1), .int .i64 h, .slice A3 L3.length c3] 43) := ⟨_, rfl⟩
  have hbX : Below wc.heap.size wc WX := by rw [hWX]; exact bAlloc (Below.refl _ _) _
  have hzc := hb3.size
  have HX := Lib.hid ((H2.out.later hb3).later hbX)
  have HXO := Lib.hid (show EdgeAt WX O (s + 1) h A3 L3.length c3 by rw [hWX, hO]; show (wc.heap.push _)[wc.heap.size]? = _; simp)
  have HXP := Lib.hid ((hown3.kept hbX.size (fun b _ hb => hbX.block b hb)).mono (show WA.heap.size ≤ w2.heap.size by omega))
  have HNE := Lib.hid (own_apart HXP.out.row HXO.out (by decide))
  have HNR := Lib.hid (own_apart HXP.out.row HX.out.r (by decide))
  have hXz : WA.heap.size ≤ WX.heap.size := by have := hbX.size; omega
  have hAz := HA.out.b.size
  have HWX := Lib.hid hWX
  have hOR : R < O := by omega
  have HOO := Lib.hid hO
  have HPX := Lib.hid (Sl.later HP.out HX.out.b)
  obtain ⟨e0, e1, e2, _, _, _, hez⟩ := three_cell (H2.out.later hb3).e
  clear hWX hbX hb3 hown3 hps3 hO hzc
  go_wp2_with fail
  rw [← HWX.out, ← HOO.out]
  obtain ⟨y0, y1, y2, y3, y4, y5, y6⟩ := three_cell HXO.out
  obtain ⟨j0, hj, jz0, jz1, jz2⟩ := info_parts infoOp
  go_region_law (first
    | (refine step_append_sl _ rfl _ _ 41 rfl WA.heap.size 23 j0 (.slice none 0 0) 1 24 Tryd.underlying41 hj jz0 jz1 jz2 rfl (by decide) _ _ _ rfl (World.ownsRow.alloc (own_grow HXP.out.row) _) (fun _ => True) _ _ _ _ rfl (op_top rfl (by simp)) ?_ ?_ ?_ ?_ ?_; (intro u hu; simp at hu; subst hu; rfl); (unfold maxLen; omega); omega; (simp; omega); intro A' c' w3 hown' hgrow hat; obtain ⟨y0, y1, y2, y3, y4, y5, y6⟩ := three_cell (at_after HXO.out HNE.out hgrow))
    | (go_simp; go_at_call 27; refine (HD.out _ ?_).mono ?_; exact HPX.out; rintro e wd ⟨A2, c2, rfl, ho2, hb2⟩; obtain ⟨⟨d2, os2⟩, rfl⟩ := beyond_of hb2))
  all_goals (
    have HB2 : Below WX.heap.size WX (Go.Sort.grow (redrawn WX d2) os2) := ⟨hb2.os, hb2.tape, hb2.output, hb2.size, hb2.block⟩
    have ho3 : (Go.Sort.grow (redrawn WX d2) os2).ownsRow WX.heap.size 110 3 (.slice A2 ps.length c2) ps.length (opCells ps) := ho2
    have hR3 := at_after HX.out.r HNR.out hgrow
    have hO3 := at_after HXO.out HNE.out hgrow
    have hP := HXP.out.push hXz HB2 ho3 hgrow hown' hat
    have hF := push_frame HX.out.b HB2 hgrow (fun g hg => by have := (HXP.out.row.lt g hg).1; omega)
    clear hown' hgrow hat ho2 ho3 hb2 HB2 y0 y1 y2 y3 y4 y5 y6
    refine post_hide (fun G => EdgeAt G O (s + 1) h A' (L3.length + 1) c' ∧ OpsOwn G WA.heap.size A' c' (L3 ++ [⟨A2, c2, ps⟩]) ∧ EdgeAt G R 0 0 none 0 0 ∧ Below w.heap.size w G) ⟨three_set2 hO3, hP.set2 hO3, (Below.heap_setCell _ _ _ _ (by show R ≠ O; omega)).trans hR3, bSet hF (by show w.heap.size ≤ O; omega) _⟩ ?_
    rintro G ⟨hO4, hP4, hR4, hF4⟩
    clear hR3 hO3 hP hF
    obtain ⟨y0, y1, y2, y3, y4, y5, y6⟩ := three_cell hO4
    obtain ⟨r0, r1, r2, q0, q1, q2, hrz⟩ := three_cell hR4
    have HO4 := Lib.hid hP4
    clear hP4
    go_wp2_with fail
    obtain ⟨hR5, hO5, hF5⟩ := sent_end (s := s + 1) (h := h) (n := L3.length + 1) hRB hRz hR4 HO4.out hF4
    clear HO4 hF4 hR4
    refine post_hide (fun G => EdgeAt G R (s + 1) h A' (L3.length + 1) c' ∧ OpsOwn G WA.heap.size A' c' (L3 ++ [⟨A2, c2, ps⟩]) ∧ Below w.heap.size w G) ⟨hR5, hO5, hF5⟩ ?_
    clear hR5 hO5 hF5
    rintro G' ⟨hR5, hO5, hF5⟩
    obtain ⟨t0, t1, t2, _, _, _, _⟩ := three_cell hR5
    refine bodyPost_ret (v := .tuple #[edgeV (s + 1) h A' (L3.length + 1) c', .int .i64 0]) (by simp [results, Tryd.results28, go_sem, t0, t1, t2]) rfl ?_
    exact ⟨fun h0 => absurd rfl h0, fun _ => ⟨A', c', L3 ++ [⟨A2, c2, ps⟩], by simp, by simp [HPS.out], hO5.mono hAz, hF5⟩⟩)
set_option maxHeartbeats 1000000 in
theorem SentOf_ok (w : World) (s h : Int) (A : Option Addr) (c : Nat) (L : List OpV) (HT : Hid (Tabs w)) (HS : Hid (OpsIn w A L)) (HM : Hid (∀ o ∈ L, o.Small)) (B : Option Addr) (cc : Nat) (ps : List PartD) (HP : Hid (OpIn (· < w.heap.size) w B ps)) (qA : Option Addr) (qc : Nat) (qp : List PartD) (hlast : L.getLast? = some ⟨qA, qc, qp⟩) (a1 a2 b1 : Int) (hll : L.length ≤ 1048576) (hs0 : 0 ≤ s) (hs1 : s < 1048576) (_f1 : (s == 1048576) = false) (_f2 : decide (1048576 ≤ s) = false) (HC : Hid (∀ W, Tabs W → OpsIn W A L → (∀ o ∈ L, o.Small) → Calls Tryd.prog 80 #[edgeV s h A L.length c] W fun r w' => r = .returned (.bool true) ∧ Below W.heap.size W w')) (HF : Hid (∀ W, Tabs W → OpIn (· < W.heap.size) W B ps → Calls Tryd.prog 68 #[.slice B ps.length cc] W fun e w' => e = .returned (.int .i64 (0)) ∧ Below W.heap.size W w')) (HL : Hid (∀ W, OpIn (· < W.heap.size) W B ps → Calls Tryd.prog 69 #[.slice B ps.length cc] W fun e w' => e = .returned (.tuple #[.int .i64 a1, .int .i64 a2]) ∧ Below W.heap.size W w')) (HQ : Hid (∀ W, OpIn (· < W.heap.size) W qA qp → Calls Tryd.prog 69 #[.slice qA qp.length qc] W fun e w' => e = .returned (.tuple #[.int .i64 b1, .int .i64 a1]) ∧ Below W.heap.size W w')) (HO : Hid (∀ W, OpsIn W A L → Calls Tryd.prog 25 #[edgeV s h A L.length c] W (RetEdge W s h L))) (HD : Hid (∀ W, OpIn (· < W.heap.size) W B ps → Calls Tryd.prog 27 #[.slice B ps.length cc] W (RetOp W ps))) :
    Calls Tryd.prog 28 #[edgeV s h A L.length c, .slice B ps.length cc] w (RetSent w s h L ps 0) := by
  obtain ⟨b, o, rfl, hbs, hcell, hop⟩ := last_at HS.out hlast
  have hn : decide (0 < L.length) = true := by simpa using last_pos hlast
  have hlp := last_pos hlast
  have HQI := Lib.hid hop
  have HCL := Lib.hid hcell
  clear hop hcell hlast
  obtain ⟨W1, hW1⟩ : ∃ W1, W1 = w.alloc (.cells #[.int .i64 s, .int .i64 h, .slice (some ⟨b, o, none⟩) L.length c] 43) := ⟨_, rfl⟩
  obtain ⟨WA, hWA⟩ : ∃ WA, WA = W1.alloc (.cells #[.int .i64 0, .int .i64 0, .slice none 0 0] 43) := ⟨_, rfl⟩
  have g1 : W1.heap.size = w.heap.size + 1 := by rw [hW1]; simp
  have g2 : WA.heap.size = W1.heap.size + 1 := by rw [hWA]; simp
  have k1 : Below w.heap.size w W1 := by rw [hW1]; exact bAlloc (Below.refl _ _) _
  have k2 : Below W1.heap.size W1 WA := by rw [hWA]; exact bAlloc (Below.refl _ _) _
  have HA := Lib.hid (show SendAt w WA W1.heap.size s h (some ⟨b, o, none⟩) L.length c from ⟨(k2.block _ (by omega)).trans (by rw [hW1]; show (w.heap.push _)[w.heap.size]? = _; simp), by rw [hWA]; show (W1.heap.push _)[W1.heap.size]? = _; simp, bThen k1 k2⟩)
  have HW := Lib.hid (show (w.alloc (.cells #[.int .i64 s, .int .i64 h, .slice (some ⟨b, o, none⟩) L.length c] 43)).alloc (.cells #[.int .i64 0, .int .i64 0, .slice none 0 0] 43) = WA by rw [hWA, hW1])
  obtain ⟨R, hR⟩ : ∃ R, R = W1.heap.size := ⟨_, rfl⟩
  have HE2 := Lib.hid (show w.heap.size + 1 = R by omega)
  have hRB : w.heap.size < R := by omega
  have hRz : R < WA.heap.size := by omega
  rw [← hR] at HA
  clear hR k1 k2 g1 g2 hWA hW1
  go_enter Tryd.func28, Tryd.ntmps28
  go_wp2_with fail
  rw [HW.out, HE2.out]
  refine (HC.out _ (HT.out.later HA.out.b) (HS.out.later HA.out.b) HM.out).mono ?_
  rintro e w1 ⟨rfl, hb1⟩
  have H1 := Lib.hid (HA.out.later hb1)
  have hz1 := hb1.size
  obtain ⟨e0, e1, e2, _, _, _, hez⟩ := three_cell H1.out.e
  obtain ⟨r0, r1, r2, q0, q1, q2, hrz⟩ := three_cell H1.out.r
  clear hb1
  have lc : w1.cell? ⟨b, o + (L.length - 1), none⟩ = some (.slice qA qp.length qc) := (H1.out.b.cell (p := ⟨b, o + (L.length - 1), none⟩) hbs).trans HCL.out
  go_wp2_with fail
  refine (HF.out _ (HT.out.later H1.out.b) (Sl.later HP.out H1.out.b)).mono ?_
  rintro e w2 ⟨rfl, hb2⟩
  have H2 := Lib.hid (H1.out.later hb2)
  have hz2 := hb2.size
  obtain ⟨e0, e1, e2, _, _, _, hez⟩ := three_cell H2.out.e
  obtain ⟨r0, r1, r2, q0, q1, q2, hrz⟩ := three_cell H2.out.r
  clear hb2
  have lc : w2.cell? ⟨b, o + (L.length - 1), none⟩ = some (.slice qA qp.length qc) := (H2.out.b.cell (p := ⟨b, o + (L.length - 1), none⟩) hbs).trans HCL.out
  go_wp2_with fail
  refine (HL.out _ (Sl.later HP.out H2.out.b)).mono ?_
  rintro e w3 ⟨rfl, hb3⟩
  have H3 := Lib.hid (H2.out.later hb3)
  have hz3 := hb3.size
  obtain ⟨e0, e1, e2, _, _, _, hez⟩ := three_cell H3.out.e
  obtain ⟨r0, r1, r2, q0, q1, q2, hrz⟩ := three_cell H3.out.r
  clear hb3
  have lc : w3.cell? ⟨b, o + (L.length - 1), none⟩ = some (.slice qA qp.length qc) := (H3.out.b.cell (p := ⟨b, o + (L.length - 1), none⟩) hbs).trans HCL.out
  go_wp2_with fail
  refine (HQ.out _ (Sl.later HQI.out H3.out.b)).mono ?_
  rintro e w4 ⟨rfl, hb4⟩
  have H4 := Lib.hid (H3.out.later hb4)
  have hz4 := hb4.size
  obtain ⟨e0, e1, e2, _, _, _, hez⟩ := three_cell H4.out.e
  obtain ⟨r0, r1, r2, q0, q1, q2, hrz⟩ := three_cell H4.out.r
  clear hb4
  have lc : w4.cell? ⟨b, o + (L.length - 1), none⟩ = some (.slice qA qp.length qc) := (H4.out.b.cell (p := ⟨b, o + (L.length - 1), none⟩) hbs).trans HCL.out
  go_wp2_with fail
  refine (HO.out _ (HS.out.later H4.out.b)).mono ?_
  rintro e wc ⟨A3, c3, L3, rfl, hps3, hown3, hb3⟩
  have hL3 : L3.length ≤ 1048576 := by have := congrArg List.length hps3; simp at this; omega
  have HPS := Lib.hid hps3
  obtain ⟨O, hO⟩ : ∃ O, O = wc.heap.size := ⟨_, rfl⟩
  obtain ⟨WX, hWX⟩ : ∃ WX, WX = wc.alloc (.cells #[.int .i64 (s + 1), .int .i64 h, .slice A3 L3.length c3] 43) := ⟨_, rfl⟩
  have hbX : Below wc.heap.size wc WX := by rw [hWX]; exact bAlloc (Below.refl _ _) _
  have hzc := hb3.size
  have HX := Lib.hid ((H4.out.later hb3).later hbX)
  have HXO := Lib.hid (show EdgeAt WX O (s + 1) h A3 L3.length c3 by rw [hWX, hO]; show (wc.heap.push _)[wc.heap.size]? = _; simp)
  have HXP := Lib.hid ((hown3.kept hbX.size (fun b _ hb => hbX.block b hb)).mono (show WA.heap.size ≤ w4.heap.size by omega))
  have HNE := Lib.hid (own_apart HXP.out.row HXO.out (by decide))
  have HNR := Lib.hid (own_apart HXP.out.row HX.out.r (by decide))
  have hXz : WA.heap.size ≤ WX.heap.size := by have := hbX.size; omega
  have hAz := HA.out.b.size
  have HWX := Lib.hid hWX
  have hOR : R < O := by omega
  have HOO := Lib.hid hO
  have HPX := Lib.hid (Sl.later HP.out HX.out.b)
  obtain ⟨e0, e1, e2, _, _, _, hez⟩ := three_cell (H4.out.later hb3).e
  clear hWX hbX hb3 hown3 hps3 hO hzc
  go_wp2_with fail
  rw [← HWX.out, ← HOO.out]
  obtain ⟨y0, y1, y2, y3, y4, y5, y6⟩ := three_cell HXO.out
  obtain ⟨j0, hj, jz0, jz1, jz2⟩ := info_parts infoOp
  go_region_law (first
    | (refine step_append_sl _ rfl _ _ 41 rfl WA.heap.size 23 j0 (.slice none 0 0) 1 24 Tryd.underlying41 hj jz0 jz1 jz2 rfl (by decide) _ _ _ rfl (World.ownsRow.alloc (own_grow HXP.out.row) _) (fun _ => True) _ _ _ _ rfl (op_top rfl (by simp)) ?_ ?_ ?_ ?_ ?_; (intro u hu; simp at hu; subst hu; rfl); (unfold maxLen; omega); omega; (simp; omega); intro A' c' w3 hown' hgrow hat; obtain ⟨y0, y1, y2, y3, y4, y5, y6⟩ := three_cell (at_after HXO.out HNE.out hgrow))
    | (go_simp; go_at_call 27; refine (HD.out _ ?_).mono ?_; exact HPX.out; rintro e wd ⟨A2, c2, rfl, ho2, hb2⟩; obtain ⟨⟨d2, os2⟩, rfl⟩ := beyond_of hb2))
  all_goals (
    have HB2 : Below WX.heap.size WX (Go.Sort.grow (redrawn WX d2) os2) := ⟨hb2.os, hb2.tape, hb2.output, hb2.size, hb2.block⟩
    have ho3 : (Go.Sort.grow (redrawn WX d2) os2).ownsRow WX.heap.size 110 3 (.slice A2 ps.length c2) ps.length (opCells ps) := ho2
    have hR3 := at_after HX.out.r HNR.out hgrow
    have hO3 := at_after HXO.out HNE.out hgrow
    have hP := HXP.out.push hXz HB2 ho3 hgrow hown' hat
    have hF := push_frame HX.out.b HB2 hgrow (fun g hg => by have := (HXP.out.row.lt g hg).1; omega)
    clear hown' hgrow hat ho2 ho3 hb2 HB2 y0 y1 y2 y3 y4 y5 y6
    refine post_hide (fun G => EdgeAt G O (s + 1) h A' (L3.length + 1) c' ∧ OpsOwn G WA.heap.size A' c' (L3 ++ [⟨A2, c2, ps⟩]) ∧ EdgeAt G R 0 0 none 0 0 ∧ Below w.heap.size w G) ⟨three_set2 hO3, hP.set2 hO3, (Below.heap_setCell _ _ _ _ (by show R ≠ O; omega)).trans hR3, bSet hF (by show w.heap.size ≤ O; omega) _⟩ ?_
    rintro G ⟨hO4, hP4, hR4, hF4⟩
    clear hR3 hO3 hP hF
    obtain ⟨y0, y1, y2, y3, y4, y5, y6⟩ := three_cell hO4
    obtain ⟨r0, r1, r2, q0, q1, q2, hrz⟩ := three_cell hR4
    have HO4 := Lib.hid hP4
    clear hP4
    go_wp2_with fail
    obtain ⟨hR5, hO5, hF5⟩ := sent_end (s := s + 1) (h := h) (n := L3.length + 1) hRB hRz hR4 HO4.out hF4
    clear HO4 hF4 hR4
    refine post_hide (fun G => EdgeAt G R (s + 1) h A' (L3.length + 1) c' ∧ OpsOwn G WA.heap.size A' c' (L3 ++ [⟨A2, c2, ps⟩]) ∧ Below w.heap.size w G) ⟨hR5, hO5, hF5⟩ ?_
    clear hR5 hO5 hF5
    rintro G' ⟨hR5, hO5, hF5⟩
    obtain ⟨t0, t1, t2, _, _, _, _⟩ := three_cell hR5
    refine bodyPost_ret (v := .tuple #[edgeV (s + 1) h A' (L3.length + 1) c', .int .i64 0]) (by simp [results, Tryd.results28, go_sem, t0, t1, t2]) rfl ?_
    exact ⟨fun h0 => absurd rfl h0, fun _ => ⟨A', c', L3 ++ [⟨A2, c2, ps⟩], by simp, by simp [HPS.out], hO5.mono hAz, hF5⟩⟩)
end Go.Proofs.YtiooimnlkcpnnaaDoor
