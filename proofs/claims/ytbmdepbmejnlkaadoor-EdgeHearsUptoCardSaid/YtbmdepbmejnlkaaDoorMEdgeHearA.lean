/-
  Contract of edge.Hear: what it refuses ahead of its loop.
  Contract of edge.Hear: its loop.
  Contract of edge.Hear: its loop.
-/
import Derived.Test.YtbmdepbmejnlkaaDoorRows
import Derived.Test.YtbmdepbmejnlkaaDoorSendP
import Derived.Test.YtbmdepbmejnlkaaDoorEdgeHearP
import Derived.Test.YtbmdepbmejnlkaaDoorEdgeRow
import Derived.Test.YtbmdepbmejnlkaaDoorHide
import Derived.Test.YtbmdepbmejnlkaaDoorTransR
import Derived.BigRegion
namespace Go.Proofs.YtbmdepbmejnlkaaDoor
open Go.ChangeShapes Go.WideShapes Go.ChangeAt Go.RowKit
set_option maxRecDepth 100000
theorem EHear_state (w : World) (s h : Int) (A : Option Addr) (c : Nat) (L : List OpV) (HT : Hid (Tabs w)) (HS : Hid (OpsIn w A L)) (HM : Hid (∀ o ∈ L, o.Small)) (B : Option Addr) (cc : Nat) (ps : List PartD) (_HP : Hid (OpIn (· < w.heap.size) w B ps)) (hd : Int) (up : Bool) (HC : Hid (∀ W, Tabs W → OpsIn W A L → (∀ o ∈ L, o.Small) → Calls Tryd.prog 45 #[edgeV s h A L.length c] W fun r w' => r = .returned (.int .i64 9) ∧ Below W.heap.size W w')) :
    Calls Tryd.prog 15 #[edgeV s h A L.length c, .slice B ps.length cc, .int .i64 hd, .bool up] w (fun e w' => e = .returned (.tuple #[edgeV 0 0 none 0 0, .slice none 0 0, .int .i64 9]) ∧ Below w.heap.size w w') := by
  obtain ⟨W1, hW1⟩ : ∃ W1, W1 = w.alloc (.cells #[.int .i64 s, .int .i64 h, .slice A L.length c] 41) := ⟨_, rfl⟩
  obtain ⟨WA, hWA⟩ : ∃ WA, WA = W1.alloc (.cells #[.int .i64 0, .int .i64 0, .slice none 0 0] 41) := ⟨_, rfl⟩
  have g1 : W1.heap.size = w.heap.size + 1 := by rw [hW1]; simp
  have g2 : WA.heap.size = W1.heap.size + 1 := by rw [hWA]; simp
  have k1 : Below w.heap.size w W1 := by rw [hW1]; exact bAlloc (Below.refl _ _) _
  have k2 : Below W1.heap.size W1 WA := by rw [hWA]; exact bAlloc (Below.refl _ _) _
  have HA := Lib.hid (show SendAt w WA W1.heap.size s h A L.length c from ⟨(k2.block _ (by omega)).trans (by rw [hW1]; show (w.heap.push _)[w.heap.size]? = _; simp), by rw [hWA]; show (W1.heap.push _)[W1.heap.size]? = _; simp, bThen k1 k2⟩)
  have HW := Lib.hid (show (w.alloc (.cells #[.int .i64 s, .int .i64 h, .slice A L.length c] 41)).alloc (.cells #[.int .i64 0, .int .i64 0, .slice none 0 0] 41) = WA by rw [hWA, hW1])
  obtain ⟨R, hR⟩ : ∃ R, R = W1.heap.size := ⟨_, rfl⟩
  have HE2 := Lib.hid (show w.heap.size + 1 = R by omega)
  have hRB : w.heap.size < R := by omega
  have hRz : R < WA.heap.size := by omega
  rw [← hR] at HA
  clear hR k1 k2 g1 g2 hWA hW1
  go_enter Tryd.func15, Tryd.ntmps15
  go_wp2_with fail
  rw [HW.out, HE2.out]
  refine (HC.out _ (HT.out.later HA.out.b) (HS.out.later HA.out.b) HM.out).mono ?_
  rintro e w1 ⟨rfl, hb1⟩
  have H1 := Lib.hid (HA.out.later hb1)
  have hz1 := hb1.size
  obtain ⟨e0, e1, e2, _, _, _, hez⟩ := three_cell H1.out.e
  obtain ⟨r0, r1, r2, q0, q1, q2, hrz⟩ := three_cell H1.out.r
  clear hb1
  go_wp2_with fail
  have z0 := three_cell (three_set2 (x := .slice none 0 0) (three_set1 (x := .int .i64 0) (three_set0 (x := .int .i64 0) H1.out.r)))
  obtain ⟨z0, z1, z2, _, _, _, _⟩ := z0
  refine bodyPost_ret (v := .tuple #[edgeV 0 0 none 0 0, .slice none 0 0, .int .i64 9]) (by simp [results, Tryd.results15, go_sem, z0, z1, z2]) rfl ?_
  exact ⟨rfl, bSet (bSet (bSet H1.out.b (p := ⟨R, 0, none⟩) (Nat.le_of_lt hRB) _) (p := ⟨R, 1, none⟩) (Nat.le_of_lt hRB) _) (p := ⟨R, 2, none⟩) (Nat.le_of_lt hRB) _⟩
theorem EHear_fault (w : World) (s h : Int) (A : Option Addr) (c : Nat) (L : List OpV) (HT : Hid (Tabs w)) (HS : Hid (OpsIn w A L)) (HM : Hid (∀ o ∈ L, o.Small)) (B : Option Addr) (cc : Nat) (ps : List PartD) (HP : Hid (OpIn (· < w.heap.size) w B ps)) (hd : Int) (up : Bool) (er : Int) (_hne : (er != 0) = true) (HC : Hid (∀ W, Tabs W → OpsIn W A L → (∀ o ∈ L, o.Small) → Calls Tryd.prog 45 #[edgeV s h A L.length c] W fun r w' => r = .returned (.int .i64 0) ∧ Below W.heap.size W w')) (HF : Hid (∀ W, Tabs W → OpIn (· < W.heap.size) W B ps → Calls Tryd.prog 46 #[.slice B ps.length cc] W fun r w' => r = .returned (.int .i64 er) ∧ Below W.heap.size W w')) :
    Calls Tryd.prog 15 #[edgeV s h A L.length c, .slice B ps.length cc, .int .i64 hd, .bool up] w (fun e w' => e = .returned (.tuple #[edgeV 0 0 none 0 0, .slice none 0 0, .int .i64 er]) ∧ Below w.heap.size w w') := by
  obtain ⟨W1, hW1⟩ : ∃ W1, W1 = w.alloc (.cells #[.int .i64 s, .int .i64 h, .slice A L.length c] 41) := ⟨_, rfl⟩
  obtain ⟨WA, hWA⟩ : ∃ WA, WA = W1.alloc (.cells #[.int .i64 0, .int .i64 0, .slice none 0 0] 41) := ⟨_, rfl⟩
  have g1 : W1.heap.size = w.heap.size + 1 := by rw [hW1]; simp
  have g2 : WA.heap.size = W1.heap.size + 1 := by rw [hWA]; simp
  have k1 : Below w.heap.size w W1 := by rw [hW1]; exact bAlloc (Below.refl _ _) _
  have k2 : Below W1.heap.size W1 WA := by rw [hWA]; exact bAlloc (Below.refl _ _) _
  have HA := Lib.hid (show SendAt w WA W1.heap.size s h A L.length c from ⟨(k2.block _ (by omega)).trans (by rw [hW1]; show (w.heap.push _)[w.heap.size]? = _; simp), by rw [hWA]; show (W1.heap.push _)[W1.heap.size]? = _; simp, bThen k1 k2⟩)
  have HW := Lib.hid (show (w.alloc (.cells #[.int .i64 s, .int .i64 h, .slice A L.length c] 41)).alloc (.cells #[.int .i64 0, .int .i64 0, .slice none 0 0] 41) = WA by rw [hWA, hW1])
  obtain ⟨R, hR⟩ : ∃ R, R = W1.heap.size := ⟨_, rfl⟩
  have HE2 := Lib.hid (show w.heap.size + 1 = R by omega)
  have hRB : w.heap.size < R := by omega
  have hRz : R < WA.heap.size := by omega
  rw [← hR] at HA
  clear hR k1 k2 g1 g2 hWA hW1
  go_enter Tryd.func15, Tryd.ntmps15
  go_wp2_with fail
  rw [HW.out, HE2.out]
  refine (HC.out _ (HT.out.later HA.out.b) (HS.out.later HA.out.b) HM.out).mono ?_
  rintro e w1 ⟨rfl, hb1⟩
  have H1 := Lib.hid (HA.out.later hb1)
  have hz1 := hb1.size
  obtain ⟨e0, e1, e2, _, _, _, hez⟩ := three_cell H1.out.e
  obtain ⟨r0, r1, r2, q0, q1, q2, hrz⟩ := three_cell H1.out.r
  clear hb1
  go_wp2_with fail
  refine (HF.out _ (HT.out.later H1.out.b) (Sl.later HP.out H1.out.b)).mono ?_
  rintro e w2 ⟨rfl, hb2⟩
  have H2 := Lib.hid (H1.out.later hb2)
  have hz2 := hb2.size
  clear e0 e1 e2 hez r0 r1 r2 q0 q1 q2 hrz
  obtain ⟨e0, e1, e2, _, _, _, hez⟩ := three_cell H2.out.e
  obtain ⟨r0, r1, r2, q0, q1, q2, hrz⟩ := three_cell H2.out.r
  clear hb2
  go_wp2_with fail
  have z0 := three_cell (three_set2 (x := .slice none 0 0) (three_set1 (x := .int .i64 0) (three_set0 (x := .int .i64 0) H2.out.r)))
  obtain ⟨z0, z1, z2, _, _, _, _⟩ := z0
  refine bodyPost_ret (v := .tuple #[edgeV 0 0 none 0 0, .slice none 0 0, .int .i64 er]) (by simp [results, Tryd.results15, go_sem, z0, z1, z2]) rfl ?_
  exact ⟨rfl, bSet (bSet (bSet H2.out.b (p := ⟨R, 0, none⟩) (Nat.le_of_lt hRB) _) (p := ⟨R, 1, none⟩) (Nat.le_of_lt hRB) _) (p := ⟨R, 2, none⟩) (Nat.le_of_lt hRB) _⟩
theorem EHear_low (w : World) (s h : Int) (A : Option Addr) (c : Nat) (L : List OpV) (HT : Hid (Tabs w)) (HS : Hid (OpsIn w A L)) (HM : Hid (∀ o ∈ L, o.Small)) (B : Option Addr) (cc : Nat) (ps : List PartD) (HP : Hid (OpIn (· < w.heap.size) w B ps)) (hd : Int) (up : Bool) (hw : wrap64 (s - (L.length : Int)) = s - L.length) (_f1 : decide (hd < s - (L.length : Int)) = true) (HC : Hid (∀ W, Tabs W → OpsIn W A L → (∀ o ∈ L, o.Small) → Calls Tryd.prog 45 #[edgeV s h A L.length c] W fun r w' => r = .returned (.int .i64 0) ∧ Below W.heap.size W w')) (HF : Hid (∀ W, Tabs W → OpIn (· < W.heap.size) W B ps → Calls Tryd.prog 46 #[.slice B ps.length cc] W fun r w' => r = .returned (.int .i64 0) ∧ Below W.heap.size W w')) :
    Calls Tryd.prog 15 #[edgeV s h A L.length c, .slice B ps.length cc, .int .i64 hd, .bool up] w (fun e w' => e = .returned (.tuple #[edgeV 0 0 none 0 0, .slice none 0 0, .int .i64 2]) ∧ Below w.heap.size w w') := by
  obtain ⟨W1, hW1⟩ : ∃ W1, W1 = w.alloc (.cells #[.int .i64 s, .int .i64 h, .slice A L.length c] 41) := ⟨_, rfl⟩
  obtain ⟨WA, hWA⟩ : ∃ WA, WA = W1.alloc (.cells #[.int .i64 0, .int .i64 0, .slice none 0 0] 41) := ⟨_, rfl⟩
  have g1 : W1.heap.size = w.heap.size + 1 := by rw [hW1]; simp
  have g2 : WA.heap.size = W1.heap.size + 1 := by rw [hWA]; simp
  have k1 : Below w.heap.size w W1 := by rw [hW1]; exact bAlloc (Below.refl _ _) _
  have k2 : Below W1.heap.size W1 WA := by rw [hWA]; exact bAlloc (Below.refl _ _) _
  have HA := Lib.hid (show SendAt w WA W1.heap.size s h A L.length c from ⟨(k2.block _ (by omega)).trans (by rw [hW1]; show (w.heap.push _)[w.heap.size]? = _; simp), by rw [hWA]; show (W1.heap.push _)[W1.heap.size]? = _; simp, bThen k1 k2⟩)
  have HW := Lib.hid (show (w.alloc (.cells #[.int .i64 s, .int .i64 h, .slice A L.length c] 41)).alloc (.cells #[.int .i64 0, .int .i64 0, .slice none 0 0] 41) = WA by rw [hWA, hW1])
  obtain ⟨R, hR⟩ : ∃ R, R = W1.heap.size := ⟨_, rfl⟩
  have HE2 := Lib.hid (show w.heap.size + 1 = R by omega)
  have hRB : w.heap.size < R := by omega
  have hRz : R < WA.heap.size := by omega
  rw [← hR] at HA
  clear hR k1 k2 g1 g2 hWA hW1
  go_enter Tryd.func15, Tryd.ntmps15
  go_wp2_with fail
  rw [HW.out, HE2.out]
  refine (HC.out _ (HT.out.later HA.out.b) (HS.out.later HA.out.b) HM.out).mono ?_
  rintro e w1 ⟨rfl, hb1⟩
  have H1 := Lib.hid (HA.out.later hb1)
  have hz1 := hb1.size
  obtain ⟨e0, e1, e2, _, _, _, hez⟩ := three_cell H1.out.e
  obtain ⟨r0, r1, r2, q0, q1, q2, hrz⟩ := three_cell H1.out.r
  clear hb1
  go_wp2_with fail
  refine (HF.out _ (HT.out.later H1.out.b) (Sl.later HP.out H1.out.b)).mono ?_
  rintro e w2 ⟨rfl, hb2⟩
  have H2 := Lib.hid (H1.out.later hb2)
  have hz2 := hb2.size
  clear e0 e1 e2 hez r0 r1 r2 q0 q1 q2 hrz
  obtain ⟨e0, e1, e2, _, _, _, hez⟩ := three_cell H2.out.e
  obtain ⟨r0, r1, r2, q0, q1, q2, hrz⟩ := three_cell H2.out.r
  clear hb2
  go_wp2_with fail
  have z0 := three_cell (three_set2 (x := .slice none 0 0) (three_set1 (x := .int .i64 0) (three_set0 (x := .int .i64 0) H2.out.r)))
  obtain ⟨z0, z1, z2, _, _, _, _⟩ := z0
  refine bodyPost_ret (v := .tuple #[edgeV 0 0 none 0 0, .slice none 0 0, .int .i64 2]) (by simp [results, Tryd.results15, go_sem, z0, z1, z2]) rfl ?_
  exact ⟨rfl, bSet (bSet (bSet H2.out.b (p := ⟨R, 0, none⟩) (Nat.le_of_lt hRB) _) (p := ⟨R, 1, none⟩) (Nat.le_of_lt hRB) _) (p := ⟨R, 2, none⟩) (Nat.le_of_lt hRB) _⟩
theorem EHear_high (w : World) (s h : Int) (A : Option Addr) (c : Nat) (L : List OpV) (HT : Hid (Tabs w)) (HS : Hid (OpsIn w A L)) (HM : Hid (∀ o ∈ L, o.Small)) (B : Option Addr) (cc : Nat) (ps : List PartD) (HP : Hid (OpIn (· < w.heap.size) w B ps)) (hd : Int) (up : Bool) (hw : wrap64 (s - (L.length : Int)) = s - L.length) (_f1 : decide (hd < s - (L.length : Int)) = false) (_f2 : decide (s < hd) = true) (HC : Hid (∀ W, Tabs W → OpsIn W A L → (∀ o ∈ L, o.Small) → Calls Tryd.prog 45 #[edgeV s h A L.length c] W fun r w' => r = .returned (.int .i64 0) ∧ Below W.heap.size W w')) (HF : Hid (∀ W, Tabs W → OpIn (· < W.heap.size) W B ps → Calls Tryd.prog 46 #[.slice B ps.length cc] W fun r w' => r = .returned (.int .i64 0) ∧ Below W.heap.size W w')) :
    Calls Tryd.prog 15 #[edgeV s h A L.length c, .slice B ps.length cc, .int .i64 hd, .bool up] w (fun e w' => e = .returned (.tuple #[edgeV 0 0 none 0 0, .slice none 0 0, .int .i64 2]) ∧ Below w.heap.size w w') := by
  obtain ⟨W1, hW1⟩ : ∃ W1, W1 = w.alloc (.cells #[.int .i64 s, .int .i64 h, .slice A L.length c] 41) := ⟨_, rfl⟩
  obtain ⟨WA, hWA⟩ : ∃ WA, WA = W1.alloc (.cells #[.int .i64 0, .int .i64 0, .slice none 0 0] 41) := ⟨_, rfl⟩
  have g1 : W1.heap.size = w.heap.size + 1 := by rw [hW1]; simp
  have g2 : WA.heap.size = W1.heap.size + 1 := by rw [hWA]; simp
  have k1 : Below w.heap.size w W1 := by rw [hW1]; exact bAlloc (Below.refl _ _) _
  have k2 : Below W1.heap.size W1 WA := by rw [hWA]; exact bAlloc (Below.refl _ _) _
  have HA := Lib.hid (show SendAt w WA W1.heap.size s h A L.length c from ⟨(k2.block _ (by omega)).trans (by rw [hW1]; show (w.heap.push _)[w.heap.size]? = _; simp), by rw [hWA]; show (W1.heap.push _)[W1.heap.size]? = _; simp, bThen k1 k2⟩)
  have HW := Lib.hid (show (w.alloc (.cells #[.int .i64 s, .int .i64 h, .slice A L.length c] 41)).alloc (.cells #[.int .i64 0, .int .i64 0, .slice none 0 0] 41) = WA by rw [hWA, hW1])
  obtain ⟨R, hR⟩ : ∃ R, R = W1.heap.size := ⟨_, rfl⟩
  have HE2 := Lib.hid (show w.heap.size + 1 = R by omega)
  have hRB : w.heap.size < R := by omega
  have hRz : R < WA.heap.size := by omega
  rw [← hR] at HA
  clear hR k1 k2 g1 g2 hWA hW1
  go_enter Tryd.func15, Tryd.ntmps15
  go_wp2_with fail
  rw [HW.out, HE2.out]
  refine (HC.out _ (HT.out.later HA.out.b) (HS.out.later HA.out.b) HM.out).mono ?_
  rintro e w1 ⟨rfl, hb1⟩
  have H1 := Lib.hid (HA.out.later hb1)
  have hz1 := hb1.size
  obtain ⟨e0, e1, e2, _, _, _, hez⟩ := three_cell H1.out.e
  obtain ⟨r0, r1, r2, q0, q1, q2, hrz⟩ := three_cell H1.out.r
  clear hb1
  go_wp2_with fail
  refine (HF.out _ (HT.out.later H1.out.b) (Sl.later HP.out H1.out.b)).mono ?_
  rintro e w2 ⟨rfl, hb2⟩
  have H2 := Lib.hid (H1.out.later hb2)
  have hz2 := hb2.size
  clear e0 e1 e2 hez r0 r1 r2 q0 q1 q2 hrz
  obtain ⟨e0, e1, e2, _, _, _, hez⟩ := three_cell H2.out.e
  obtain ⟨r0, r1, r2, q0, q1, q2, hrz⟩ := three_cell H2.out.r
  clear hb2
  go_wp2_with fail
  have z0 := three_cell (three_set2 (x := .slice none 0 0) (three_set1 (x := .int .i64 0) (three_set0 (x := .int .i64 0) H2.out.r)))
  obtain ⟨z0, z1, z2, _, _, _, _⟩ := z0
  refine bodyPost_ret (v := .tuple #[edgeV 0 0 none 0 0, .slice none 0 0, .int .i64 2]) (by simp [results, Tryd.results15, go_sem, z0, z1, z2]) rfl ?_
  exact ⟨rfl, bSet (bSet (bSet H2.out.b (p := ⟨R, 0, none⟩) (Nat.le_of_lt hRB) _) (p := ⟨R, 1, none⟩) (Nat.le_of_lt hRB) _) (p := ⟨R, 2, none⟩) (Nat.le_of_lt hRB) _⟩
theorem EHear_full (w : World) (s h : Int) (A : Option Addr) (c : Nat) (L : List OpV) (HT : Hid (Tabs w)) (HS : Hid (OpsIn w A L)) (HM : Hid (∀ o ∈ L, o.Small)) (B : Option Addr) (cc : Nat) (ps : List PartD) (HP : Hid (OpIn (· < w.heap.size) w B ps)) (hd : Int) (up : Bool) (hw : wrap64 (s - (L.length : Int)) = s - L.length) (_f1 : decide (hd < s - (L.length : Int)) = false) (_f2 : decide (s < hd) = false) (_f3 : (h == 1048576) = true) (HC : Hid (∀ W, Tabs W → OpsIn W A L → (∀ o ∈ L, o.Small) → Calls Tryd.prog 45 #[edgeV s h A L.length c] W fun r w' => r = .returned (.int .i64 0) ∧ Below W.heap.size W w')) (HF : Hid (∀ W, Tabs W → OpIn (· < W.heap.size) W B ps → Calls Tryd.prog 46 #[.slice B ps.length cc] W fun r w' => r = .returned (.int .i64 0) ∧ Below W.heap.size W w')) :
    Calls Tryd.prog 15 #[edgeV s h A L.length c, .slice B ps.length cc, .int .i64 hd, .bool up] w (fun e w' => e = .returned (.tuple #[edgeV 0 0 none 0 0, .slice none 0 0, .int .i64 8]) ∧ Below w.heap.size w w') := by
  obtain ⟨W1, hW1⟩ : ∃ W1, W1 = w.alloc (.cells #[.int .i64 s, .int .i64 h, .slice A L.length c] 41) := ⟨_, rfl⟩
  obtain ⟨WA, hWA⟩ : ∃ WA, WA = W1.alloc (.cells #[.int .i64 0, .int .i64 0, .slice none 0 0] 41) := ⟨_, rfl⟩
  have g1 : W1.heap.size = w.heap.size + 1 := by rw [hW1]; simp
  have g2 : WA.heap.size = W1.heap.size + 1 := by rw [hWA]; simp
  have k1 : Below w.heap.size w W1 := by rw [hW1]; exact bAlloc (Below.refl _ _) _
  have k2 : Below W1.heap.size W1 WA := by rw [hWA]; exact bAlloc (Below.refl _ _) _
  have HA := Lib.hid (show SendAt w WA W1.heap.size s h A L.length c from ⟨(k2.block _ (by omega)).trans (by rw [hW1]; show (w.heap.push _)[w.heap.size]? = _; simp), by rw [hWA]; show (W1.heap.push _)[W1.heap.size]? = _; simp, bThen k1 k2⟩)
  have HW := Lib.hid (show (w.alloc (.cells #[.int .i64 s, .int .i64 h, .slice A L.length c] 41)).alloc (.cells #[.int .i64 0, .int .i64 0, .slice none 0 0] 41) = WA by rw [hWA, hW1])
  obtain ⟨R, hR⟩ : ∃ R, R = W1.heap.size := ⟨_, rfl⟩
  have HE2 := Lib.hid (show w.heap.size + 1 = R by omega)
  have hRB : w.heap.size < R := by omega
  have hRz : R < WA.heap.size := by omega
  rw [← hR] at HA
  clear hR k1 k2 g1 g2 hWA hW1
  go_enter Tryd.func15, Tryd.ntmps15
  go_wp2_with fail
  rw [HW.out, HE2.out]
  refine (HC.out _ (HT.out.later HA.out.b) (HS.out.later HA.out.b) HM.out).mono ?_
  rintro e w1 ⟨rfl, hb1⟩
  have H1 := Lib.hid (HA.out.later hb1)
  have hz1 := hb1.size
  obtain ⟨e0, e1, e2, _, _, _, hez⟩ := three_cell H1.out.e
  obtain ⟨r0, r1, r2, q0, q1, q2, hrz⟩ := three_cell H1.out.r
  clear hb1
  go_wp2_with fail
  refine (HF.out _ (HT.out.later H1.out.b) (Sl.later HP.out H1.out.b)).mono ?_
  rintro e w2 ⟨rfl, hb2⟩
  have H2 := Lib.hid (H1.out.later hb2)
  have hz2 := hb2.size
  clear e0 e1 e2 hez r0 r1 r2 q0 q1 q2 hrz
  obtain ⟨e0, e1, e2, _, _, _, hez⟩ := three_cell H2.out.e
  obtain ⟨r0, r1, r2, q0, q1, q2, hrz⟩ := three_cell H2.out.r
  clear hb2
  go_wp2_with fail
  have z0 := three_cell (three_set2 (x := .slice none 0 0) (three_set1 (x := .int .i64 0) (three_set0 (x := .int .i64 0) H2.out.r)))
  obtain ⟨z0, z1, z2, _, _, _, _⟩ := z0
  refine bodyPost_ret (v := .tuple #[edgeV 0 0 none 0 0, .slice none 0 0, .int .i64 8]) (by simp [results, Tryd.results15, go_sem, z0, z1, z2]) rfl ?_
  exact ⟨rfl, bSet (bSet (bSet H2.out.b (p := ⟨R, 0, none⟩) (Nat.le_of_lt hRB) _) (p := ⟨R, 1, none⟩) (Nat.le_of_lt hRB) _) (p := ⟨R, 2, none⟩) (Nat.le_of_lt hRB) _⟩
end Go.Proofs.YtbmdepbmejnlkaaDoor
namespace Go.Proofs.YtbmdepbmejnlkaaDoor
open Go.ChangeShapes Go.WideShapes Go.ChangeAt Go.RowKit
set_option maxRecDepth 100000
theorem EHear_go (w : World) (s h0 : Int) (A : Option Addr) (c : Nat) (L : List OpV) (HT : Hid (Tabs w)) (HS : Hid (OpsIn w A L)) (HM : Hid (∀ o ∈ L, o.Small)) (B : Option Addr) (cc : Nat) (ps : List PartD) (HP : Hid (OpIn (· < w.heap.size) w B ps)) (hd : Int) (hw : wrap64 (s - (L.length : Int)) = s - L.length) (_f1 : decide (hd < s - (L.length : Int)) = false) (_f2 : decide (s < hd) = false) (_f3 : (h0 == 1048576) = false) (K : Nat) (hK : K ≤ L.length) (hK1 : wrap64 (hd - (s - (L.length : Int))) = (K : Int)) (hh1 : wrap64 (h0 + 1) = h0 + 1) (hsp : SmallD ps) (_hLm : L.length ≤ 1048576) (HC : Hid (∀ W, Tabs W → OpsIn W A L → (∀ o ∈ L, o.Small) → Calls Tryd.prog 45 #[edgeV s h0 A L.length c] W fun r w' => r = .returned (.int .i64 0) ∧ Below W.heap.size W w')) (HF : Hid (∀ W, Tabs W → OpIn (· < W.heap.size) W B ps → Calls Tryd.prog 46 #[.slice B ps.length cc] W fun r w' => r = .returned (.int .i64 0) ∧ Below W.heap.size W w')) (HO : Hid (∀ W, OpsIn W A L → Calls Tryd.prog 47 #[edgeV s h0 A L.length c] W (RetEdge W s h0 L))) (HD : Hid (∀ W, OpIn (· < W.heap.size) W B ps → Calls Tryd.prog 48 #[.slice B ps.length cc] W fun e w' => ∃ A2 c2, e = .returned (.slice A2 ps.length c2) ∧ w'.ownsRow W.heap.size 90 3 (.slice A2 ps.length c2) ps.length (opCells ps) ∧ Below W.heap.size W w')) :
    Calls Tryd.prog 15 #[edgeV s h0 A L.length c, .slice B ps.length cc, .int .i64 hd, .bool true] w (RetHear w (hearOut s (h0 + 1) (hearG true [] ps ((L.map OpV.ps).drop K)))) := by
  obtain ⟨W1, hW1⟩ : ∃ W1, W1 = w.alloc (.cells #[.int .i64 s, .int .i64 h0, .slice A L.length c] 41) := ⟨_, rfl⟩
  obtain ⟨WA, hWA⟩ : ∃ WA, WA = W1.alloc (.cells #[.int .i64 0, .int .i64 0, .slice none 0 0] 41) := ⟨_, rfl⟩
  have g1 : W1.heap.size = w.heap.size + 1 := by rw [hW1]; simp
  have g2 : WA.heap.size = W1.heap.size + 1 := by rw [hWA]; simp
  have k1 : Below w.heap.size w W1 := by rw [hW1]; exact bAlloc (Below.refl _ _) _
  have k2 : Below W1.heap.size W1 WA := by rw [hWA]; exact bAlloc (Below.refl _ _) _
  have HA := Lib.hid (show SendAt w WA W1.heap.size s h0 A L.length c from ⟨(k2.block _ (by omega)).trans (by rw [hW1]; show (w.heap.push _)[w.heap.size]? = _; simp), by rw [hWA]; show (W1.heap.push _)[W1.heap.size]? = _; simp, bThen k1 k2⟩)
  have HW := Lib.hid (show (w.alloc (.cells #[.int .i64 s, .int .i64 h0, .slice A L.length c] 41)).alloc (.cells #[.int .i64 0, .int .i64 0, .slice none 0 0] 41) = WA by rw [hWA, hW1])
  obtain ⟨R, hR⟩ : ∃ R, R = W1.heap.size := ⟨_, rfl⟩
  have HE2 := Lib.hid (show w.heap.size + 1 = R by omega)
  have hRB : w.heap.size < R := by omega
  have hRz : R < WA.heap.size := by omega
  rw [← hR] at HA
  clear hR k1 k2 g1 g2 hWA hW1
  go_enter Tryd.func15, Tryd.ntmps15
  go_wp2_with fail
  rw [HW.out, HE2.out]
  refine (HC.out _ (HT.out.later HA.out.b) (HS.out.later HA.out.b) HM.out).mono ?_
  rintro e w1 ⟨rfl, hb1⟩
  have H1 := Lib.hid (HA.out.later hb1)
  have hz1 := hb1.size
  obtain ⟨e0, e1, e2, _, _, _, hez⟩ := three_cell H1.out.e
  obtain ⟨r0, r1, r2, q0, q1, q2, hrz⟩ := three_cell H1.out.r
  clear hb1
  go_wp2_with fail
  refine (HF.out _ (HT.out.later H1.out.b) (Sl.later HP.out H1.out.b)).mono ?_
  rintro e w2 ⟨rfl, hb2⟩
  have H2 := Lib.hid (H1.out.later hb2)
  have hz2 := hb2.size
  clear e0 e1 e2 hez r0 r1 r2 q0 q1 q2 hrz
  obtain ⟨e0, e1, e2, _, _, _, hez⟩ := three_cell H2.out.e
  obtain ⟨r0, r1, r2, q0, q1, q2, hrz⟩ := three_cell H2.out.r
  clear hb2
  go_wp2_with fail
  refine (HO.out _ (HS.out.later H2.out.b)).mono ?_
  rintro e wc ⟨A3, c3, L3, rfl, hps3, hown3, hb3⟩
  have hL3 : L3.length = L.length := by have := congrArg List.length hps3; simpa using this
  rw [hL3]
  obtain ⟨e0, e1, e2, _, _, _, hez⟩ := three_cell (H2.out.later hb3).e
  have hcap := (row_cap hown3.row).1
  rw [hL3] at hcap
  have a3 : decide ((L.length : Int) < (K : Int)) = false := by simp; omega
  have a4 : decide ((c3 : Int) < (K : Int)) = false := by simp; omega
  have hw2 : R < w2.heap.size := hrz
  have HB3 := Lib.hid (bThen H2.out.b hb3)
  have HRC := Lib.hid (show EdgeAt wc R 0 0 none 0 0 from (hb3.block _ hrz).trans H2.out.r)
  have hcz := hb3.size
  have HTc := Lib.hid (HT.out.later HB3.out)
  have HSD := Lib.hid (show ∀ D ∈ (L.map OpV.ps).drop K, SmallD D from fun D hD => by obtain ⟨q, hq, rfl⟩ := List.mem_map.1 (List.mem_of_mem_drop hD); exact ⟨(HM.out q hq).len, (HM.out q hq).text⟩)
  obtain ⟨B0, hB0⟩ : ∃ B0, B0 = w2.heap.size := ⟨_, rfl⟩
  obtain ⟨D, hD⟩ : ∃ D, D = (L.map OpV.ps).drop K := ⟨_, rfl⟩
  rw [← hD] at HSD
  go_wp2_with fail
  all_goals (
    refine calls_hide (fun G => HearAt B0 wc.heap.size s (h0 + 1) D (L.length - K) G ∧ Below wc.heap.size wc G ∧ G.heap.size = wc.heap.size + 1) ⟨by subst hB0 hD; first | exact hearAt_drop hps3 hown3 hK hL3 | exact hearAt_nil hown3 (by omega), bAlloc (Below.refl _ _) _, by simp⟩ ?_
    rintro G ⟨⟨A4, c4, L4, hps4, hl4, hX, hrow, hfz⟩, hbG, hGz⟩
    refine (HD.out G (Sl.later HP.out (bThen HB3.out hbG))).mono ?_
    rintro e wd ⟨A2, c2, rfl, hown2, hbd⟩
    have hdz := hbd.size
    have HR0 := Lib.hid (show HearR w R B0 wc.heap.size s (h0 + 1) A4 (L.length - K) c4 L4 A2 ps wd from
      ⟨(hbd.block _ (by omega)).trans hX, ((hbG.trans (hbd.mono hbG.size)).block _ (by omega)).trans HRC.out, bThen (bThen HB3.out hbG) hbd,
        hrow.moved fun b hb => ⟨⟨hb.1, by omega, by omega⟩, hbd.block _ (by omega)⟩,
        (Sl.of_own _ hown2).moved fun b hb => ⟨⟨⟨by omega, hb.2, by omega⟩, by
          rcases Nat.eq_zero_or_pos L4.length with h9 | h9
          · exact .inl h9
          · refine .inr fun e => ?_
            obtain ⟨b', o', e', hb', _⟩ := hrow.row.2 h9
            rw [e'] at e
            injection e with e
            have : b' = b := e
            omega⟩, rfl⟩, fun b h9 => ⟨by have := (hfz b h9).1; omega, fun j => (hbd.frozen (p := ⟨b, j, none⟩) (by have := (hfz b h9).1; show b < _; omega)).trans ((hfz b h9).2 j)⟩, by omega, by omega, by omega, by omega⟩)
    have HG0 := Lib.hid (show hearG true ((L4.take 0).map OpV.ps) ps ((L4.drop 0).map OpV.ps) = hearG true [] ps D by rw [List.take_zero, List.drop_zero, hps4]; rfl)
    have HSQ := Lib.hid (show ∀ q ∈ L4, SmallD q.ps from fun q hq => HSD.out _ (by rw [← hps4]; exact List.mem_map_of_mem hq))
    have HSP := Lib.hid hsp
    obtain ⟨x0, x1, x2, f0, f1, f2, hxz⟩ := three_cell HR0.out.x
    have HDD := Lib.hid hD
    clear hX hrow hfz hbG hGz hown2 hbd hps4 hdz hB0 hcz hown3 hb3 hps3 e0 e1 e2 hez r0 r1 r2 q0 q1 q2 hrz a3 a4 hcap hD
    go_wp2_with fail
    clear x0 x1 x2 f0 f1 f2 hxz
    obtain ⟨X, hXe⟩ : ∃ X, X = wc.heap.size := ⟨_, rfl⟩
    rw [← hXe] at HR0 ⊢
    clear hXe
    go_loopw [1, 68] (fun ov i wr => ∃ (k : Nat) (Q : List OpV) (hA : Option Addr) (hc : Nat) (hp : List PartD), k ≤ L.length - K ∧ i = .int .i64 k ∧ ov = .slice hA hp.length hc ∧ Q.length = L.length - K ∧ Hid (hearG true ((Q.take k).map OpV.ps) hp ((Q.drop k).map OpV.ps) = hearG true [] ps D) ∧ Hid (∀ q ∈ Q, SmallD q.ps) ∧ Hid (SmallD hp) ∧ Hid (HearR w R B0 X s (h0 + 1) A4 (L.length - K) c4 Q hA hp wr)) (fun _ i _ => (L.length - K) - (intOf i).toNat)
    case atStart => exact ⟨0, L4, A2, c2, ps, Nat.zero_le _, rfl, rfl, hl4, HG0, HSQ, HSP, HR0⟩
    case round =>
      obtain ⟨k, Q, hA, hc, hp, hk, rfl, rfl, hQ, HG, HQ, HP2, HR⟩ := hrel
      obtain ⟨x0, x1, x2, f0, f1, f2, hxz⟩ := three_cell HR.out.x
      by_cases hlt : k < L.length - K
      · obtain ⟨b, o, rfl, hbs, hcq⟩ := HR.out.row.row.2 (by omega)
        have c0 : wr.cell? ⟨b, o + k, none⟩ = some (.slice (Q[k]'(by omega)).A (Q[k]'(by omega)).ps.length (Q[k]'(by omega)).c) := hcq k _ (by rw [List.getElem?_map, List.getElem?_eq_getElem (by omega)]; rfl)
        have hop := HR.out.row.each (Q[k]'(by omega)) (List.getElem_mem _)
        have hsq := HQ.out (Q[k]'(by omega)) (List.getElem_mem _)
        have HDR := Lib.hid (show (Q.drop k).map OpV.ps = (Q[k]'(by omega)).ps :: (Q.drop (k + 1)).map OpV.ps by rw [List.drop_eq_getElem_cons (by omega)]; rfl)
        generalize hqe : Q[k]'(by omega) = q at *
        obtain ⟨qA, qc, qp⟩ := q
        dsimp only at *
        have HTF := Lib.hid (show Calls Tryd.prog 49 #[.slice qA qp.length qc, .slice hA hp.length hc] wr (RetTwo wr (stP true qp hp) (stH true qp hp) (stE true qp hp)) from Transform_c wr qA hA qc hc qp hp (HT.out.later HR.out.b) (hop.moved fun b h9 => ⟨h9.1.2.1, rfl⟩) (HR.out.o.moved fun b h9 => ⟨h9.1.2.1, rfl⟩) hsq.1 HP2.out.1 hsq.2 HP2.out.2)
        by_cases he : stE true qp hp = 0
        · have HGS := Lib.hid (hearG_step (acc := (Q.take k).map OpV.ps) (ps := (Q.drop (k + 1)).map OpV.ps) he)
          have HN1 := Lib.hid (stP_small true qp hp)
          have HN2 := Lib.hid (stH_small true qp hp)
          rw [he] at HTF
          generalize stP true qp hp = pp at *
          generalize stH true qp hp = op at *
          have HOO := Lib.hid hop
          clear hop hcq he hqe
          go_wp2_with fail
          refine (HTF.out).mono ?_
          rintro r w2 ⟨pA, pc, oA, oc, rfl, hP, hO, hb2⟩
          have HR2 := Lib.hid (HR.out.put (c' := pc) hb2 (k := k) (by omega) hP hO)
          obtain ⟨y0, y1, y2, g0, g1, g2, hyz⟩ := three_cell (HR.out.later hb2).x
          have c1 := (hb2.cell (p := ⟨b, o + k, none⟩) hbs.2.1).trans c0
          have fz := ((HR.out.later hb2).fz b rfl).2 (o + k)
          clear x0 x1 x2 f0 f1 f2 hxz c0
          go_wp2_with fail
          go_roundw
          case rel => exact ⟨k + 1, Q.set k ⟨pA, pc, pp⟩, oA, oc, op, by omega, by go_num, rfl, by simp [hQ], Lib.hid (by rw [set_take (Q := Q) (show k < Q.length by omega), set_drop, ← HGS.out, ← HDR.out, HG.out]), Lib.hid (fun q hq => by rcases List.mem_or_eq_of_mem_set hq with hq | rfl; exact HQ.out q hq; exact HN1.out), HN2, HR2⟩
          case measure => simp [intOf]; omega
        · have HGS := Lib.hid ((HG.out.symm.trans (by rw [HDR.out])).trans (hearG_stop (acc := (Q.take k).map OpV.ps) (ps := (Q.drop (k + 1)).map OpV.ps) he))
          have hne : (stE true qp hp != 0) = true := by simpa using he
          have HO0 := Lib.hid (show hearOut s (h0 + 1) ([], [], stE true qp hp) = (0, 0, [], [], stE true qp hp) from hearOut_stop he)
          generalize stE true qp hp = er at *
          generalize stP true qp hp = pp at *
          generalize stH true qp hp = op at *
          clear hop hcq he hqe
          go_wp2_with fail
          refine (HTF.out).mono ?_
          rintro r w2 ⟨pA, pc, oA, oc, rfl, hP, hO, hb2⟩
          obtain ⟨r0, r1, r2, q0, q1, q2, hrz⟩ := three_cell (HR.out.later hb2).r
          go_wp2_with fail
          have z0 := three_cell (three_set2 (x := .slice none 0 0) (three_set1 (x := .int .i64 0) (three_set0 (x := .int .i64 0) (HR.out.later hb2).r)))
          obtain ⟨z0, z1, z2, _, _, _, _⟩ := z0
          refine bodyPost_ret (v := .tuple #[edgeV 0 0 none 0 0, .slice none 0 0, .int .i64 er]) (by simp [results, Tryd.results15, go_sem, z0, z1, z2]) rfl ?_
          rw [← HDD.out, HGS.out, HO0.out]
          exact ⟨none, 0, [], none, 0, rfl, rfl, ⟨Sl.nil, by simp⟩, Sl.nil, bSet (bSet (bSet (HR.out.later hb2).b (p := ⟨R, 0, none⟩) (Nat.le_of_lt hRB) _) (p := ⟨R, 1, none⟩) (Nat.le_of_lt hRB) _) (p := ⟨R, 2, none⟩) (Nat.le_of_lt hRB) _⟩
      · obtain rfl : k = L.length - K := by omega
        have HGS := Lib.hid (show hearG true [] ps D = (Q.map OpV.ps, hp, 0) by rw [← HG.out, ← hQ, List.take_length, List.drop_length]; rfl)
        have HO0 := Lib.hid (show hearOut s (h0 + 1) (Q.map OpV.ps, hp, 0) = (s, h0 + 1, Q.map OpV.ps, hp, 0) from hearOut_ok)
        obtain ⟨r0, r1, r2, q0, q1, q2, hrz⟩ := three_cell HR.out.r
        go_wp2_with fail
        have z0 := three_cell (three_set2 (x := .slice A4 (L.length - K) c4) (three_set1 (x := .int .i64 (h0 + 1)) (three_set0 (x := .int .i64 s) HR.out.r)))
        obtain ⟨z0, z1, z2, _, _, _, _⟩ := z0
        refine bodyPost_ret (v := .tuple #[edgeV s (h0 + 1) A4 (L.length - K) c4, .slice hA hp.length hc, .int .i64 0]) (by simp [results, Tryd.results15, go_sem, z0, z1, z2]) rfl ?_
        rw [← HDD.out, HGS.out, HO0.out]
        have hRx : R < B0 := HR.out.rz
        have hfar : ∀ x, x ≠ R → (((wr.setCell ⟨R, 0, none⟩ (.int .i64 s)).setCell ⟨R, 1, none⟩ (.int .i64 (h0 + 1))).setCell ⟨R, 2, none⟩ (.slice A4 (L.length - K) c4)).heap[x]? = wr.heap[x]? := fun x hx => (Below.heap_setCell _ _ _ _ hx).trans ((Below.heap_setCell _ _ _ _ hx).trans (Below.heap_setCell _ _ _ _ hx))
        have hsz : (((wr.setCell ⟨R, 0, none⟩ (.int .i64 s)).setCell ⟨R, 1, none⟩ (.int .i64 (h0 + 1))).setCell ⟨R, 2, none⟩ (.slice A4 (L.length - K) c4)).heap.size = wr.heap.size := by simp [World.setCell]
        refine ⟨A4, c4, Q, hA, hc, by rw [hQ], rfl, RowE.in_ (HR.out.row.moved (S' := fun x => x < wr.heap.size) fun x hx => ⟨hx.2.1, hfar x (by omega)⟩) (fun x hx => by rw [hsz]; exact hx), HR.out.o.moved fun x hx => ⟨by rw [hsz]; exact hx.1.2.1, hfar x (by have := hx.1.1; omega)⟩, ?_⟩
        exact bSet (bSet (bSet HR.out.b (p := ⟨R, 0, none⟩) (Nat.le_of_lt hRB) _) (p := ⟨R, 1, none⟩) (Nat.le_of_lt hRB) _) (p := ⟨R, 2, none⟩) (Nat.le_of_lt hRB) _)
end Go.Proofs.YtbmdepbmejnlkaaDoor
namespace Go.Proofs.YtbmdepbmejnlkaaDoor
open Go.ChangeShapes Go.WideShapes Go.ChangeAt Go.RowKit
set_option maxRecDepth 100000
theorem EHear_gof (w : World) (s h0 : Int) (A : Option Addr) (c : Nat) (L : List OpV) (HT : Hid (Tabs w)) (HS : Hid (OpsIn w A L)) (HM : Hid (∀ o ∈ L, o.Small)) (B : Option Addr) (cc : Nat) (ps : List PartD) (HP : Hid (OpIn (· < w.heap.size) w B ps)) (hd : Int) (hw : wrap64 (s - (L.length : Int)) = s - L.length) (_f1 : decide (hd < s - (L.length : Int)) = false) (_f2 : decide (s < hd) = false) (_f3 : (h0 == 1048576) = false) (K : Nat) (hK : K ≤ L.length) (hK1 : wrap64 (hd - (s - (L.length : Int))) = (K : Int)) (hh1 : wrap64 (h0 + 1) = h0 + 1) (hsp : SmallD ps) (_hLm : L.length ≤ 1048576) (HC : Hid (∀ W, Tabs W → OpsIn W A L → (∀ o ∈ L, o.Small) → Calls Tryd.prog 45 #[edgeV s h0 A L.length c] W fun r w' => r = .returned (.int .i64 0) ∧ Below W.heap.size W w')) (HF : Hid (∀ W, Tabs W → OpIn (· < W.heap.size) W B ps → Calls Tryd.prog 46 #[.slice B ps.length cc] W fun r w' => r = .returned (.int .i64 0) ∧ Below W.heap.size W w')) (HO : Hid (∀ W, OpsIn W A L → Calls Tryd.prog 47 #[edgeV s h0 A L.length c] W (RetEdge W s h0 L))) (HD : Hid (∀ W, OpIn (· < W.heap.size) W B ps → Calls Tryd.prog 48 #[.slice B ps.length cc] W fun e w' => ∃ A2 c2, e = .returned (.slice A2 ps.length c2) ∧ w'.ownsRow W.heap.size 90 3 (.slice A2 ps.length c2) ps.length (opCells ps) ∧ Below W.heap.size W w')) :
    Calls Tryd.prog 15 #[edgeV s h0 A L.length c, .slice B ps.length cc, .int .i64 hd, .bool false] w (RetHear w (hearOut s (h0 + 1) (hearG false [] ps ((L.map OpV.ps).drop K)))) := by
  obtain ⟨W1, hW1⟩ : ∃ W1, W1 = w.alloc (.cells #[.int .i64 s, .int .i64 h0, .slice A L.length c] 41) := ⟨_, rfl⟩
  obtain ⟨WA, hWA⟩ : ∃ WA, WA = W1.alloc (.cells #[.int .i64 0, .int .i64 0, .slice none 0 0] 41) := ⟨_, rfl⟩
  have g1 : W1.heap.size = w.heap.size + 1 := by rw [hW1]; simp
  have g2 : WA.heap.size = W1.heap.size + 1 := by rw [hWA]; simp
  have k1 : Below w.heap.size w W1 := by rw [hW1]; exact bAlloc (Below.refl _ _) _
  have k2 : Below W1.heap.size W1 WA := by rw [hWA]; exact bAlloc (Below.refl _ _) _
  have HA := Lib.hid (show SendAt w WA W1.heap.size s h0 A L.length c from ⟨(k2.block _ (by omega)).trans (by rw [hW1]; show (w.heap.push _)[w.heap.size]? = _; simp), by rw [hWA]; show (W1.heap.push _)[W1.heap.size]? = _; simp, bThen k1 k2⟩)
  have HW := Lib.hid (show (w.alloc (.cells #[.int .i64 s, .int .i64 h0, .slice A L.length c] 41)).alloc (.cells #[.int .i64 0, .int .i64 0, .slice none 0 0] 41) = WA by rw [hWA, hW1])
  obtain ⟨R, hR⟩ : ∃ R, R = W1.heap.size := ⟨_, rfl⟩
  have HE2 := Lib.hid (show w.heap.size + 1 = R by omega)
  have hRB : w.heap.size < R := by omega
  have hRz : R < WA.heap.size := by omega
  rw [← hR] at HA
  clear hR k1 k2 g1 g2 hWA hW1
  go_enter Tryd.func15, Tryd.ntmps15
  go_wp2_with fail
  rw [HW.out, HE2.out]
  refine (HC.out _ (HT.out.later HA.out.b) (HS.out.later HA.out.b) HM.out).mono ?_
  rintro e w1 ⟨rfl, hb1⟩
  have H1 := Lib.hid (HA.out.later hb1)
  have hz1 := hb1.size
  obtain ⟨e0, e1, e2, _, _, _, hez⟩ := three_cell H1.out.e
  obtain ⟨r0, r1, r2, q0, q1, q2, hrz⟩ := three_cell H1.out.r
  clear hb1
  go_wp2_with fail
  refine (HF.out _ (HT.out.later H1.out.b) (Sl.later HP.out H1.out.b)).mono ?_
  rintro e w2 ⟨rfl, hb2⟩
  have H2 := Lib.hid (H1.out.later hb2)
  have hz2 := hb2.size
  clear e0 e1 e2 hez r0 r1 r2 q0 q1 q2 hrz
  obtain ⟨e0, e1, e2, _, _, _, hez⟩ := three_cell H2.out.e
  obtain ⟨r0, r1, r2, q0, q1, q2, hrz⟩ := three_cell H2.out.r
  clear hb2
  go_wp2_with fail
  refine (HO.out _ (HS.out.later H2.out.b)).mono ?_
  rintro e wc ⟨A3, c3, L3, rfl, hps3, hown3, hb3⟩
  have hL3 : L3.length = L.length := by have := congrArg List.length hps3; simpa using this
  rw [hL3]
  obtain ⟨e0, e1, e2, _, _, _, hez⟩ := three_cell (H2.out.later hb3).e
  have hcap := (row_cap hown3.row).1
  rw [hL3] at hcap
  have a3 : decide ((L.length : Int) < (K : Int)) = false := by simp; omega
  have a4 : decide ((c3 : Int) < (K : Int)) = false := by simp; omega
  have hw2 : R < w2.heap.size := hrz
  have HB3 := Lib.hid (bThen H2.out.b hb3)
  have HRC := Lib.hid (show EdgeAt wc R 0 0 none 0 0 from (hb3.block _ hrz).trans H2.out.r)
  have hcz := hb3.size
  have HTc := Lib.hid (HT.out.later HB3.out)
  have HSD := Lib.hid (show ∀ D ∈ (L.map OpV.ps).drop K, SmallD D from fun D hD => by obtain ⟨q, hq, rfl⟩ := List.mem_map.1 (List.mem_of_mem_drop hD); exact ⟨(HM.out q hq).len, (HM.out q hq).text⟩)
  obtain ⟨B0, hB0⟩ : ∃ B0, B0 = w2.heap.size := ⟨_, rfl⟩
  obtain ⟨D, hD⟩ : ∃ D, D = (L.map OpV.ps).drop K := ⟨_, rfl⟩
  rw [← hD] at HSD
  go_wp2_with fail
  all_goals (
    refine calls_hide (fun G => HearAt B0 wc.heap.size s (h0 + 1) D (L.length - K) G ∧ Below wc.heap.size wc G ∧ G.heap.size = wc.heap.size + 1) ⟨by subst hB0 hD; first | exact hearAt_drop hps3 hown3 hK hL3 | exact hearAt_nil hown3 (by omega), bAlloc (Below.refl _ _) _, by simp⟩ ?_
    rintro G ⟨⟨A4, c4, L4, hps4, hl4, hX, hrow, hfz⟩, hbG, hGz⟩
    refine (HD.out G (Sl.later HP.out (bThen HB3.out hbG))).mono ?_
    rintro e wd ⟨A2, c2, rfl, hown2, hbd⟩
    have hdz := hbd.size
    have HR0 := Lib.hid (show HearR w R B0 wc.heap.size s (h0 + 1) A4 (L.length - K) c4 L4 A2 ps wd from
      ⟨(hbd.block _ (by omega)).trans hX, ((hbG.trans (hbd.mono hbG.size)).block _ (by omega)).trans HRC.out, bThen (bThen HB3.out hbG) hbd,
        hrow.moved fun b hb => ⟨⟨hb.1, by omega, by omega⟩, hbd.block _ (by omega)⟩,
        (Sl.of_own _ hown2).moved fun b hb => ⟨⟨⟨by omega, hb.2, by omega⟩, by
          rcases Nat.eq_zero_or_pos L4.length with h9 | h9
          · exact .inl h9
          · refine .inr fun e => ?_
            obtain ⟨b', o', e', hb', _⟩ := hrow.row.2 h9
            rw [e'] at e
            injection e with e
            have : b' = b := e
            omega⟩, rfl⟩, fun b h9 => ⟨by have := (hfz b h9).1; omega, fun j => (hbd.frozen (p := ⟨b, j, none⟩) (by have := (hfz b h9).1; show b < _; omega)).trans ((hfz b h9).2 j)⟩, by omega, by omega, by omega, by omega⟩)
    have HG0 := Lib.hid (show hearG false ((L4.take 0).map OpV.ps) ps ((L4.drop 0).map OpV.ps) = hearG false [] ps D by rw [List.take_zero, List.drop_zero, hps4]; rfl)
    have HSQ := Lib.hid (show ∀ q ∈ L4, SmallD q.ps from fun q hq => HSD.out _ (by rw [← hps4]; exact List.mem_map_of_mem hq))
    have HSP := Lib.hid hsp
    obtain ⟨x0, x1, x2, f0, f1, f2, hxz⟩ := three_cell HR0.out.x
    have HDD := Lib.hid hD
    clear hX hrow hfz hbG hGz hown2 hbd hps4 hdz hB0 hcz hown3 hb3 hps3 e0 e1 e2 hez r0 r1 r2 q0 q1 q2 hrz a3 a4 hcap hD
    go_wp2_with fail
    clear x0 x1 x2 f0 f1 f2 hxz
    obtain ⟨X, hXe⟩ : ∃ X, X = wc.heap.size := ⟨_, rfl⟩
    rw [← hXe] at HR0 ⊢
    clear hXe
    go_loopw [1, 68] (fun ov i wr => ∃ (k : Nat) (Q : List OpV) (hA : Option Addr) (hc : Nat) (hp : List PartD), k ≤ L.length - K ∧ i = .int .i64 k ∧ ov = .slice hA hp.length hc ∧ Q.length = L.length - K ∧ Hid (hearG false ((Q.take k).map OpV.ps) hp ((Q.drop k).map OpV.ps) = hearG false [] ps D) ∧ Hid (∀ q ∈ Q, SmallD q.ps) ∧ Hid (SmallD hp) ∧ Hid (HearR w R B0 X s (h0 + 1) A4 (L.length - K) c4 Q hA hp wr)) (fun _ i _ => (L.length - K) - (intOf i).toNat)
    case atStart => exact ⟨0, L4, A2, c2, ps, Nat.zero_le _, rfl, rfl, hl4, HG0, HSQ, HSP, HR0⟩
    case round =>
      obtain ⟨k, Q, hA, hc, hp, hk, rfl, rfl, hQ, HG, HQ, HP2, HR⟩ := hrel
      obtain ⟨x0, x1, x2, f0, f1, f2, hxz⟩ := three_cell HR.out.x
      by_cases hlt : k < L.length - K
      · obtain ⟨b, o, rfl, hbs, hcq⟩ := HR.out.row.row.2 (by omega)
        have c0 : wr.cell? ⟨b, o + k, none⟩ = some (.slice (Q[k]'(by omega)).A (Q[k]'(by omega)).ps.length (Q[k]'(by omega)).c) := hcq k _ (by rw [List.getElem?_map, List.getElem?_eq_getElem (by omega)]; rfl)
        have hop := HR.out.row.each (Q[k]'(by omega)) (List.getElem_mem _)
        have hsq := HQ.out (Q[k]'(by omega)) (List.getElem_mem _)
        have HDR := Lib.hid (show (Q.drop k).map OpV.ps = (Q[k]'(by omega)).ps :: (Q.drop (k + 1)).map OpV.ps by rw [List.drop_eq_getElem_cons (by omega)]; rfl)
        generalize hqe : Q[k]'(by omega) = q at *
        obtain ⟨qA, qc, qp⟩ := q
        dsimp only at *
        have HTF := Lib.hid (show Calls Tryd.prog 49 #[.slice hA hp.length hc, .slice qA qp.length qc] wr (RetTwo wr (stH false qp hp) (stP false qp hp) (stE false qp hp)) from Transform_c wr hA qA hc qc hp qp (HT.out.later HR.out.b) (HR.out.o.moved fun b h9 => ⟨h9.1.2.1, rfl⟩) (hop.moved fun b h9 => ⟨h9.1.2.1, rfl⟩) HP2.out.1 hsq.1 HP2.out.2 hsq.2)
        by_cases he : stE false qp hp = 0
        · have HGS := Lib.hid (hearG_step (acc := (Q.take k).map OpV.ps) (ps := (Q.drop (k + 1)).map OpV.ps) he)
          have HN1 := Lib.hid (stP_small false qp hp)
          have HN2 := Lib.hid (stH_small false qp hp)
          rw [he] at HTF
          generalize stP false qp hp = pp at *
          generalize stH false qp hp = op at *
          have HOO := Lib.hid hop
          clear hop hcq he hqe
          go_wp2_with fail
          refine (HTF.out).mono ?_
          rintro r w2 ⟨oA, oc, pA, pc, rfl, hO, hP, hb2⟩
          have HR2 := Lib.hid (HR.out.put (c' := pc) hb2 (k := k) (by omega) hP hO)
          obtain ⟨y0, y1, y2, g0, g1, g2, hyz⟩ := three_cell (HR.out.later hb2).x
          have c1 := (hb2.cell (p := ⟨b, o + k, none⟩) hbs.2.1).trans c0
          have fz := ((HR.out.later hb2).fz b rfl).2 (o + k)
          clear x0 x1 x2 f0 f1 f2 hxz c0
          go_wp2_with fail
          go_roundw
          case rel => exact ⟨k + 1, Q.set k ⟨pA, pc, pp⟩, oA, oc, op, by omega, by go_num, rfl, by simp [hQ], Lib.hid (by rw [set_take (Q := Q) (show k < Q.length by omega), set_drop, ← HGS.out, ← HDR.out, HG.out]), Lib.hid (fun q hq => by rcases List.mem_or_eq_of_mem_set hq with hq | rfl; exact HQ.out q hq; exact HN1.out), HN2, HR2⟩
          case measure => simp [intOf]; omega
        · have HGS := Lib.hid ((HG.out.symm.trans (by rw [HDR.out])).trans (hearG_stop (acc := (Q.take k).map OpV.ps) (ps := (Q.drop (k + 1)).map OpV.ps) he))
          have hne : (stE false qp hp != 0) = true := by simpa using he
          have HO0 := Lib.hid (show hearOut s (h0 + 1) ([], [], stE false qp hp) = (0, 0, [], [], stE false qp hp) from hearOut_stop he)
          generalize stE false qp hp = er at *
          generalize stP false qp hp = pp at *
          generalize stH false qp hp = op at *
          clear hop hcq he hqe
          go_wp2_with fail
          refine (HTF.out).mono ?_
          rintro r w2 ⟨oA, oc, pA, pc, rfl, hO, hP, hb2⟩
          obtain ⟨r0, r1, r2, q0, q1, q2, hrz⟩ := three_cell (HR.out.later hb2).r
          go_wp2_with fail
          have z0 := three_cell (three_set2 (x := .slice none 0 0) (three_set1 (x := .int .i64 0) (three_set0 (x := .int .i64 0) (HR.out.later hb2).r)))
          obtain ⟨z0, z1, z2, _, _, _, _⟩ := z0
          refine bodyPost_ret (v := .tuple #[edgeV 0 0 none 0 0, .slice none 0 0, .int .i64 er]) (by simp [results, Tryd.results15, go_sem, z0, z1, z2]) rfl ?_
          rw [← HDD.out, HGS.out, HO0.out]
          exact ⟨none, 0, [], none, 0, rfl, rfl, ⟨Sl.nil, by simp⟩, Sl.nil, bSet (bSet (bSet (HR.out.later hb2).b (p := ⟨R, 0, none⟩) (Nat.le_of_lt hRB) _) (p := ⟨R, 1, none⟩) (Nat.le_of_lt hRB) _) (p := ⟨R, 2, none⟩) (Nat.le_of_lt hRB) _⟩
      · obtain rfl : k = L.length - K := by omega
        have HGS := Lib.hid (show hearG false [] ps D = (Q.map OpV.ps, hp, 0) by rw [← HG.out, ← hQ, List.take_length, List.drop_length]; rfl)
        have HO0 := Lib.hid (show hearOut s (h0 + 1) (Q.map OpV.ps, hp, 0) = (s, h0 + 1, Q.map OpV.ps, hp, 0) from hearOut_ok)
        obtain ⟨r0, r1, r2, q0, q1, q2, hrz⟩ := three_cell HR.out.r
        go_wp2_with fail
        have z0 := three_cell (three_set2 (x := .slice A4 (L.length - K) c4) (three_set1 (x := .int .i64 (h0 + 1)) (three_set0 (x := .int .i64 s) HR.out.r)))
        obtain ⟨z0, z1, z2, _, _, _, _⟩ := z0
        refine bodyPost_ret (v := .tuple #[edgeV s (h0 + 1) A4 (L.length - K) c4, .slice hA hp.length hc, .int .i64 0]) (by simp [results, Tryd.results15, go_sem, z0, z1, z2]) rfl ?_
        rw [← HDD.out, HGS.out, HO0.out]
        have hRx : R < B0 := HR.out.rz
        have hfar : ∀ x, x ≠ R → (((wr.setCell ⟨R, 0, none⟩ (.int .i64 s)).setCell ⟨R, 1, none⟩ (.int .i64 (h0 + 1))).setCell ⟨R, 2, none⟩ (.slice A4 (L.length - K) c4)).heap[x]? = wr.heap[x]? := fun x hx => (Below.heap_setCell _ _ _ _ hx).trans ((Below.heap_setCell _ _ _ _ hx).trans (Below.heap_setCell _ _ _ _ hx))
        have hsz : (((wr.setCell ⟨R, 0, none⟩ (.int .i64 s)).setCell ⟨R, 1, none⟩ (.int .i64 (h0 + 1))).setCell ⟨R, 2, none⟩ (.slice A4 (L.length - K) c4)).heap.size = wr.heap.size := by simp [World.setCell]
        refine ⟨A4, c4, Q, hA, hc, by rw [hQ], rfl, RowE.in_ (HR.out.row.moved (S' := fun x => x < wr.heap.size) fun x hx => ⟨hx.2.1, hfar x (by omega)⟩) (fun x hx => by rw [hsz]; exact hx), HR.out.o.moved fun x hx => ⟨by rw [hsz]; exact hx.1.2.1, hfar x (by have := hx.1.1; omega)⟩, ?_⟩
        exact bSet (bSet (bSet HR.out.b (p := ⟨R, 0, none⟩) (Nat.le_of_lt hRB) _) (p := ⟨R, 1, none⟩) (Nat.le_of_lt hRB) _) (p := ⟨R, 2, none⟩) (Nat.le_of_lt hRB) _)
end Go.Proofs.YtbmdepbmejnlkaaDoor
