/- A part of the proof of NodeUndoes. -/
import Derived.Test.YtacacoklddogmaaGreatDoorKBG
namespace Go.Proofs.YtacacoklddogmaaGreatDoor
set_option maxHeartbeats 4000000
open Go.ChangeShapes Go.WideShapes Go.ChangeAt Go.RowKit
set_option maxRecDepth 100000
theorem rl_ (w : World) (s h : Int) (A : Option Addr) (c : Nat) (L : List OpV) (HT : Hid (Tabs w)) (HS : Hid (OpsIn w A L)) (HM : Hid (∀ o ∈ L, o.Small)) (B : Option Addr) (cc : Nat) (ps : List PartD) (HC : Hid (∀ W, Tabs W → OpsIn W A L → (∀ o ∈ L, o.Small) → Calls Tryz.prog 122 #[edgeV s h A L.length c] W (R_ W (.int .i64 9)))) :
 Calls Tryz.prog 101 #[edgeV s h A L.length c, .slice B ps.length cc] w (RetSent w s h L ps 9) := by
 obtain ⟨W1, hW1⟩ : ∃ W1, W1 = w.alloc (.cells #[.int .i64 s, .int .i64 h, .slice A L.length c] 55) := ⟨_, rfl⟩
 obtain ⟨WA, hWA⟩ : ∃ WA, WA = W1.alloc (.cells #[.int .i64 0, .int .i64 0, .slice none 0 0] 55) := ⟨_, rfl⟩
 have g1 : W1.heap.size = w.heap.size + 1 := by rw [hW1]; simp
 have g2 : WA.heap.size = W1.heap.size + 1 := by rw [hWA]; simp
 have k1 : Below w.heap.size w W1 := by rw [hW1]; exact bA_
 have k2 : Below W1.heap.size W1 WA := by rw [hWA]; exact bA_
 have HA := h_ (show SendAt w WA W1.heap.size s h A L.length c from ⟨(k2.block _ (by omega)).trans (by rw [hW1]; show (w.heap.push _)[w.heap.size]? = _; simp), by rw [hWA]; show (W1.heap.push _)[W1.heap.size]? = _; simp, bThen k1 k2⟩)
 have HW := h_ (show (w.alloc (.cells #[.int .i64 s, .int .i64 h, .slice A L.length c] 55)).alloc (.cells #[.int .i64 0, .int .i64 0, .slice none 0 0] 55) = WA by rw [hWA, hW1])
 obtain ⟨R, hR⟩ : ∃ R, R = W1.heap.size := ⟨_, rfl⟩
 have HE2 := h_ (show w.heap.size + 1 = R by omega)
 have hRB : w.heap.size < R := by omega
 have hRz : R < WA.heap.size := by omega
 rw [← hR] at HA
 clear hR k1 k2 g1 g2 hWA hW1
 go_enter Tryz.func101, Tryz.ntmps101
 go_wp2_with fail
 rw [HW.out, HE2.out]
 refine (HC.out _ (HT.out.later HA.out.b) (HS.out.later HA.out.b) HM.out).mono ?_
 rintro e w1 ⟨rfl, hb1⟩
 have H1 := h_ (HA.out.later hb1)
 have hz1 := hb1.size
 obtain ⟨e0, e1, e2, _, _, _, hez⟩ := b_ H1.out.e
 obtain ⟨r0, r1, r2, q0, q1, q2, hrz⟩ := b_ H1.out.r
 clear hb1
 go_wp2_with fail
 have z0 := b_ (y_ (x := .slice none 0 0) (bn_ (x := .int .i64 0) (bm_ (x := .int .i64 0) H1.out.r)))
 obtain ⟨z0, z1, z2, _, _, _, _⟩ := z0
 refine bodyPost_ret (v := .tuple #[edgeV 0 0 none 0 0, .int .i64 9]) (by simp [results, Tryz.results101, go_sem, z0, z1, z2]) rfl ?_
 exact ⟨fun _ => ⟨rfl, bSet (bSet (bSet H1.out.b (p := ⟨R, 0, none⟩) (Nat.le_of_lt hRB) _) (p := ⟨R, 1, none⟩) (Nat.le_of_lt hRB) _) (p := ⟨R, 2, none⟩) (Nat.le_of_lt hRB) _⟩, fun h0 => absurd h0 (by decide)⟩
theorem ri_ (w : World) (s h : Int) (A : Option Addr) (c : Nat) (L : List OpV) (HT : Hid (Tabs w)) (HS : Hid (OpsIn w A L)) (HM : Hid (∀ o ∈ L, o.Small)) (B : Option Addr) (cc : Nat) (ps : List PartD) (HP : Hid (OpIn (· < w.heap.size) w B ps)) (er : Int) (_hne : (er != 0) = true) (HC : Hid (∀ W, Tabs W → OpsIn W A L → (∀ o ∈ L, o.Small) → Calls Tryz.prog 122 #[edgeV s h A L.length c] W (R_ W (.int .i64 0)))) (HF : Hid (∀ W, Tabs W → OpIn (· < W.heap.size) W B ps → Calls Tryz.prog 96 #[.slice B ps.length cc] W (R_ W (.int .i64 (er))))) :
 Calls Tryz.prog 101 #[edgeV s h A L.length c, .slice B ps.length cc] w (RetSent w s h L ps er) := by
 obtain ⟨W1, hW1⟩ : ∃ W1, W1 = w.alloc (.cells #[.int .i64 s, .int .i64 h, .slice A L.length c] 55) := ⟨_, rfl⟩
 obtain ⟨WA, hWA⟩ : ∃ WA, WA = W1.alloc (.cells #[.int .i64 0, .int .i64 0, .slice none 0 0] 55) := ⟨_, rfl⟩
 have g1 : W1.heap.size = w.heap.size + 1 := by rw [hW1]; simp
 have g2 : WA.heap.size = W1.heap.size + 1 := by rw [hWA]; simp
 have k1 : Below w.heap.size w W1 := by rw [hW1]; exact bA_
 have k2 : Below W1.heap.size W1 WA := by rw [hWA]; exact bA_
 have HA := h_ (show SendAt w WA W1.heap.size s h A L.length c from ⟨(k2.block _ (by omega)).trans (by rw [hW1]; show (w.heap.push _)[w.heap.size]? = _; simp), by rw [hWA]; show (W1.heap.push _)[W1.heap.size]? = _; simp, bThen k1 k2⟩)
 have HW := h_ (show (w.alloc (.cells #[.int .i64 s, .int .i64 h, .slice A L.length c] 55)).alloc (.cells #[.int .i64 0, .int .i64 0, .slice none 0 0] 55) = WA by rw [hWA, hW1])
 obtain ⟨R, hR⟩ : ∃ R, R = W1.heap.size := ⟨_, rfl⟩
 have HE2 := h_ (show w.heap.size + 1 = R by omega)
 have hRB : w.heap.size < R := by omega
 have hRz : R < WA.heap.size := by omega
 rw [← hR] at HA
 clear hR k1 k2 g1 g2 hWA hW1
 go_enter Tryz.func101, Tryz.ntmps101
 go_wp2_with fail
 rw [HW.out, HE2.out]
 refine (HC.out _ (HT.out.later HA.out.b) (HS.out.later HA.out.b) HM.out).mono ?_
 rintro e w1 ⟨rfl, hb1⟩
 have H1 := h_ (HA.out.later hb1)
 have hz1 := hb1.size
 obtain ⟨e0, e1, e2, _, _, _, hez⟩ := b_ H1.out.e
 obtain ⟨r0, r1, r2, q0, q1, q2, hrz⟩ := b_ H1.out.r
 clear hb1
 go_wp2_with fail
 refine (HF.out _ (HT.out.later H1.out.b) (Sl.later HP.out H1.out.b)).mono ?_
 rintro e w2 ⟨rfl, hb2⟩
 have H2 := h_ (H1.out.later hb2)
 have hz2 := hb2.size
 obtain ⟨e0, e1, e2, _, _, _, hez⟩ := b_ H2.out.e
 obtain ⟨r0, r1, r2, q0, q1, q2, hrz⟩ := b_ H2.out.r
 clear hb2
 go_wp2_with fail
 have z0 := b_ (y_ (x := .slice none 0 0) (bn_ (x := .int .i64 0) (bm_ (x := .int .i64 0) H2.out.r)))
 obtain ⟨z0, z1, z2, _, _, _, _⟩ := z0
 refine bodyPost_ret (v := .tuple #[edgeV 0 0 none 0 0, .int .i64 er]) (by simp [results, Tryz.results101, go_sem, z0, z1, z2]) rfl ?_
 exact ⟨fun _ => ⟨rfl, bSet (bSet (bSet H2.out.b (p := ⟨R, 0, none⟩) (Nat.le_of_lt hRB) _) (p := ⟨R, 1, none⟩) (Nat.le_of_lt hRB) _) (p := ⟨R, 2, none⟩) (Nat.le_of_lt hRB) _⟩, fun h0 => absurd h0 (by simpa using _hne)⟩
theorem rk_ (w : World) (s h : Int) (A : Option Addr) (c : Nat) (L : List OpV) (HT : Hid (Tabs w)) (HS : Hid (OpsIn w A L)) (HM : Hid (∀ o ∈ L, o.Small)) (B : Option Addr) (cc : Nat) (ps : List PartD) (HP : Hid (OpIn (· < w.heap.size) w B ps)) (qA : Option Addr) (qc : Nat) (qp : List PartD) (hlast : L.getLast? = some ⟨qA, qc, qp⟩) (a1 a2 b1 b2 : Int) (_hm : (a1 != b2) = true) (hll : L.length ≤ 1048576) (HC : Hid (∀ W, Tabs W → OpsIn W A L → (∀ o ∈ L, o.Small) → Calls Tryz.prog 122 #[edgeV s h A L.length c] W (R_ W (.int .i64 0)))) (HF : Hid (∀ W, Tabs W → OpIn (· < W.heap.size) W B ps → Calls Tryz.prog 96 #[.slice B ps.length cc] W (R_ W (.int .i64 (0))))) (HL : Hid (∀ W, OpIn (· < W.heap.size) W B ps → Calls Tryz.prog 46 #[.slice B ps.length cc] W (R_ W (.tuple #[.int .i64 a1, .int .i64 a2])))) (HQ : Hid (∀ W, OpIn (· < W.heap.size) W qA qp → Calls Tryz.prog 46 #[.slice qA qp.length qc] W (R_ W (.tuple #[.int .i64 b1, .int .i64 b2])))) :
 Calls Tryz.prog 101 #[edgeV s h A L.length c, .slice B ps.length cc] w (RetSent w s h L ps 10) := by
 obtain ⟨b, o, rfl, hbs, hcell, hop⟩ := da_ HS.out hlast
 have hn : decide (0 < L.length) = true := by simpa using bp_ hlast
 have hlp := bp_ hlast
 have HQI := h_ hop
 have HCL := h_ hcell
 clear hop hcell hlast
 obtain ⟨W1, hW1⟩ : ∃ W1, W1 = w.alloc (.cells #[.int .i64 s, .int .i64 h, .slice (some ⟨b, o, none⟩) L.length c] 55) := ⟨_, rfl⟩
 obtain ⟨WA, hWA⟩ : ∃ WA, WA = W1.alloc (.cells #[.int .i64 0, .int .i64 0, .slice none 0 0] 55) := ⟨_, rfl⟩
 have g1 : W1.heap.size = w.heap.size + 1 := by rw [hW1]; simp
 have g2 : WA.heap.size = W1.heap.size + 1 := by rw [hWA]; simp
 have k1 : Below w.heap.size w W1 := by rw [hW1]; exact bA_
 have k2 : Below W1.heap.size W1 WA := by rw [hWA]; exact bA_
 have HA := h_ (show SendAt w WA W1.heap.size s h (some ⟨b, o, none⟩) L.length c from ⟨(k2.block _ (by omega)).trans (by rw [hW1]; show (w.heap.push _)[w.heap.size]? = _; simp), by rw [hWA]; show (W1.heap.push _)[W1.heap.size]? = _; simp, bThen k1 k2⟩)
 have HW := h_ (show (w.alloc (.cells #[.int .i64 s, .int .i64 h, .slice (some ⟨b, o, none⟩) L.length c] 55)).alloc (.cells #[.int .i64 0, .int .i64 0, .slice none 0 0] 55) = WA by rw [hWA, hW1])
 obtain ⟨R, hR⟩ : ∃ R, R = W1.heap.size := ⟨_, rfl⟩
 have HE2 := h_ (show w.heap.size + 1 = R by omega)
 have hRB : w.heap.size < R := by omega
 have hRz : R < WA.heap.size := by omega
 rw [← hR] at HA
 clear hR k1 k2 g1 g2 hWA hW1
 go_enter Tryz.func101, Tryz.ntmps101
 go_wp2_with fail
 rw [HW.out, HE2.out]
 refine (HC.out _ (HT.out.later HA.out.b) (HS.out.later HA.out.b) HM.out).mono ?_
 rintro e w1 ⟨rfl, hb1⟩
 have H1 := h_ (HA.out.later hb1)
 have hz1 := hb1.size
 obtain ⟨e0, e1, e2, _, _, _, hez⟩ := b_ H1.out.e
 obtain ⟨r0, r1, r2, q0, q1, q2, hrz⟩ := b_ H1.out.r
 clear hb1
 have lc : w1.cell? ⟨b, o + (L.length - 1), none⟩ = some (.slice qA qp.length qc) := (H1.out.b.cell (p := ⟨b, o + (L.length - 1), none⟩) hbs).trans HCL.out
 go_wp2_with fail
 refine (HF.out _ (HT.out.later H1.out.b) (Sl.later HP.out H1.out.b)).mono ?_
 rintro e w2 ⟨rfl, hb2⟩
 have H2 := h_ (H1.out.later hb2)
 have hz2 := hb2.size
 obtain ⟨e0, e1, e2, _, _, _, hez⟩ := b_ H2.out.e
 obtain ⟨r0, r1, r2, q0, q1, q2, hrz⟩ := b_ H2.out.r
 clear hb2
 have lc : w2.cell? ⟨b, o + (L.length - 1), none⟩ = some (.slice qA qp.length qc) := (H2.out.b.cell (p := ⟨b, o + (L.length - 1), none⟩) hbs).trans HCL.out
 go_wp2_with fail
 refine (HQ.out _ (Sl.later HQI.out H2.out.b)).mono ?_
 rintro e w3 ⟨rfl, hb3⟩
 have H3 := h_ (H2.out.later hb3)
 have hz3 := hb3.size
 obtain ⟨e0, e1, e2, _, _, _, hez⟩ := b_ H3.out.e
 obtain ⟨r0, r1, r2, q0, q1, q2, hrz⟩ := b_ H3.out.r
 clear hb3
 have lc : w3.cell? ⟨b, o + (L.length - 1), none⟩ = some (.slice qA qp.length qc) := (H3.out.b.cell (p := ⟨b, o + (L.length - 1), none⟩) hbs).trans HCL.out
 go_wp2_with fail
 refine (HL.out _ (Sl.later HP.out H3.out.b)).mono ?_
 rintro e w4 ⟨rfl, hb4⟩
 have H4 := h_ (H3.out.later hb4)
 have hz4 := hb4.size
 obtain ⟨e0, e1, e2, _, _, _, hez⟩ := b_ H4.out.e
 obtain ⟨r0, r1, r2, q0, q1, q2, hrz⟩ := b_ H4.out.r
 clear hb4
 have lc : w4.cell? ⟨b, o + (L.length - 1), none⟩ = some (.slice qA qp.length qc) := (H4.out.b.cell (p := ⟨b, o + (L.length - 1), none⟩) hbs).trans HCL.out
 go_wp2_with fail
 have z0 := b_ (y_ (x := .slice none 0 0) (bn_ (x := .int .i64 0) (bm_ (x := .int .i64 0) H4.out.r)))
 obtain ⟨z0, z1, z2, _, _, _, _⟩ := z0
 refine bodyPost_ret (v := .tuple #[edgeV 0 0 none 0 0, .int .i64 10]) (by simp [results, Tryz.results101, go_sem, z0, z1, z2]) rfl ?_
 exact ⟨fun _ => ⟨rfl, bSet (bSet (bSet H4.out.b (p := ⟨R, 0, none⟩) (Nat.le_of_lt hRB) _) (p := ⟨R, 1, none⟩) (Nat.le_of_lt hRB) _) (p := ⟨R, 2, none⟩) (Nat.le_of_lt hRB) _⟩, fun h0 => absurd h0 (by decide)⟩
theorem sv_ (w : World) (s h : Int) (A : Option Addr) (c : Nat) (L : List OpV) (HT : Hid (Tabs w)) (HS : Hid (OpsIn w A L)) (HM : Hid (∀ o ∈ L, o.Small)) (B : Option Addr) (cc : Nat) (ps : List PartD) (HP : Hid (OpIn (· < w.heap.size) w B ps)) (qA : Option Addr) (qc : Nat) (qp : List PartD) (hlast : L.getLast? = some ⟨qA, qc, qp⟩) (a1 a2 b1 : Int) (hll : L.length ≤ 1048576) (_f1 : (s == 1048576) = true) (_f2 : decide (1048576 ≤ s) = true) (HC : Hid (∀ W, Tabs W → OpsIn W A L → (∀ o ∈ L, o.Small) → Calls Tryz.prog 122 #[edgeV s h A L.length c] W (R_ W (.int .i64 0)))) (HF : Hid (∀ W, Tabs W → OpIn (· < W.heap.size) W B ps → Calls Tryz.prog 96 #[.slice B ps.length cc] W (R_ W (.int .i64 (0))))) (HL : Hid (∀ W, OpIn (· < W.heap.size) W B ps → Calls Tryz.prog 46 #[.slice B ps.length cc] W (R_ W (.tuple #[.int .i64 a1, .int .i64 a2])))) (HQ : Hid (∀ W, OpIn (· < W.heap.size) W qA qp → Calls Tryz.prog 46 #[.slice qA qp.length qc] W (R_ W (.tuple #[.int .i64 b1, .int .i64 a1])))) :
 Calls Tryz.prog 101 #[edgeV s h A L.length c, .slice B ps.length cc] w (RetSent w s h L ps 8) := by
 obtain ⟨b, o, rfl, hbs, hcell, hop⟩ := da_ HS.out hlast
 have hn : decide (0 < L.length) = true := by simpa using bp_ hlast
 have hlp := bp_ hlast
 have HQI := h_ hop
 have HCL := h_ hcell
 clear hop hcell hlast
 obtain ⟨W1, hW1⟩ : ∃ W1, W1 = w.alloc (.cells #[.int .i64 s, .int .i64 h, .slice (some ⟨b, o, none⟩) L.length c] 55) := ⟨_, rfl⟩
 obtain ⟨WA, hWA⟩ : ∃ WA, WA = W1.alloc (.cells #[.int .i64 0, .int .i64 0, .slice none 0 0] 55) := ⟨_, rfl⟩
 have g1 : W1.heap.size = w.heap.size + 1 := by rw [hW1]; simp
 have g2 : WA.heap.size = W1.heap.size + 1 := by rw [hWA]; simp
 have k1 : Below w.heap.size w W1 := by rw [hW1]; exact bA_
 have k2 : Below W1.heap.size W1 WA := by rw [hWA]; exact bA_
 have HA := h_ (show SendAt w WA W1.heap.size s h (some ⟨b, o, none⟩) L.length c from ⟨(k2.block _ (by omega)).trans (by rw [hW1]; show (w.heap.push _)[w.heap.size]? = _; simp), by rw [hWA]; show (W1.heap.push _)[W1.heap.size]? = _; simp, bThen k1 k2⟩)
 have HW := h_ (show (w.alloc (.cells #[.int .i64 s, .int .i64 h, .slice (some ⟨b, o, none⟩) L.length c] 55)).alloc (.cells #[.int .i64 0, .int .i64 0, .slice none 0 0] 55) = WA by rw [hWA, hW1])
 obtain ⟨R, hR⟩ : ∃ R, R = W1.heap.size := ⟨_, rfl⟩
 have HE2 := h_ (show w.heap.size + 1 = R by omega)
 have hRB : w.heap.size < R := by omega
 have hRz : R < WA.heap.size := by omega
 rw [← hR] at HA
 clear hR k1 k2 g1 g2 hWA hW1
 go_enter Tryz.func101, Tryz.ntmps101
 go_wp2_with fail
 rw [HW.out, HE2.out]
 refine (HC.out _ (HT.out.later HA.out.b) (HS.out.later HA.out.b) HM.out).mono ?_
 rintro e w1 ⟨rfl, hb1⟩
 have H1 := h_ (HA.out.later hb1)
 have hz1 := hb1.size
 obtain ⟨e0, e1, e2, _, _, _, hez⟩ := b_ H1.out.e
 obtain ⟨r0, r1, r2, q0, q1, q2, hrz⟩ := b_ H1.out.r
 clear hb1
 have lc : w1.cell? ⟨b, o + (L.length - 1), none⟩ = some (.slice qA qp.length qc) := (H1.out.b.cell (p := ⟨b, o + (L.length - 1), none⟩) hbs).trans HCL.out
 go_wp2_with fail
 refine (HF.out _ (HT.out.later H1.out.b) (Sl.later HP.out H1.out.b)).mono ?_
 rintro e w2 ⟨rfl, hb2⟩
 have H2 := h_ (H1.out.later hb2)
 have hz2 := hb2.size
 obtain ⟨e0, e1, e2, _, _, _, hez⟩ := b_ H2.out.e
 obtain ⟨r0, r1, r2, q0, q1, q2, hrz⟩ := b_ H2.out.r
 clear hb2
 have lc : w2.cell? ⟨b, o + (L.length - 1), none⟩ = some (.slice qA qp.length qc) := (H2.out.b.cell (p := ⟨b, o + (L.length - 1), none⟩) hbs).trans HCL.out
 go_wp2_with fail
 refine (HQ.out _ (Sl.later HQI.out H2.out.b)).mono ?_
 rintro e w3 ⟨rfl, hb3⟩
 have H3 := h_ (H2.out.later hb3)
 have hz3 := hb3.size
 obtain ⟨e0, e1, e2, _, _, _, hez⟩ := b_ H3.out.e
 obtain ⟨r0, r1, r2, q0, q1, q2, hrz⟩ := b_ H3.out.r
 clear hb3
 have lc : w3.cell? ⟨b, o + (L.length - 1), none⟩ = some (.slice qA qp.length qc) := (H3.out.b.cell (p := ⟨b, o + (L.length - 1), none⟩) hbs).trans HCL.out
 go_wp2_with fail
 refine (HL.out _ (Sl.later HP.out H3.out.b)).mono ?_
 rintro e w4 ⟨rfl, hb4⟩
 have H4 := h_ (H3.out.later hb4)
 have hz4 := hb4.size
 obtain ⟨e0, e1, e2, _, _, _, hez⟩ := b_ H4.out.e
 obtain ⟨r0, r1, r2, q0, q1, q2, hrz⟩ := b_ H4.out.r
 clear hb4
 have lc : w4.cell? ⟨b, o + (L.length - 1), none⟩ = some (.slice qA qp.length qc) := (H4.out.b.cell (p := ⟨b, o + (L.length - 1), none⟩) hbs).trans HCL.out
 go_wp2_with fail
 have z0 := b_ (y_ (x := .slice none 0 0) (bn_ (x := .int .i64 0) (bm_ (x := .int .i64 0) H4.out.r)))
 obtain ⟨z0, z1, z2, _, _, _, _⟩ := z0
 refine bodyPost_ret (v := .tuple #[edgeV 0 0 none 0 0, .int .i64 8]) (by simp [results, Tryz.results101, go_sem, z0, z1, z2]) rfl ?_
 exact ⟨fun _ => ⟨rfl, bSet (bSet (bSet H4.out.b (p := ⟨R, 0, none⟩) (Nat.le_of_lt hRB) _) (p := ⟨R, 1, none⟩) (Nat.le_of_lt hRB) _) (p := ⟨R, 2, none⟩) (Nat.le_of_lt hRB) _⟩, fun h0 => absurd h0 (by decide)⟩
theorem rj_ (w : World) (s h : Int) (A : Option Addr) (c : Nat) (L : List OpV) (HT : Hid (Tabs w)) (HS : Hid (OpsIn w A L)) (HM : Hid (∀ o ∈ L, o.Small)) (B : Option Addr) (cc : Nat) (ps : List PartD) (HP : Hid (OpIn (· < w.heap.size) w B ps)) (hl0 : Hid (L.length = 0)) (_f1 : (s == 1048576) = true) (_f2 : decide (1048576 ≤ s) = true) (HC : Hid (∀ W, Tabs W → OpsIn W A L → (∀ o ∈ L, o.Small) → Calls Tryz.prog 122 #[edgeV s h A L.length c] W (R_ W (.int .i64 0)))) (HF : Hid (∀ W, Tabs W → OpIn (· < W.heap.size) W B ps → Calls Tryz.prog 96 #[.slice B ps.length cc] W (R_ W (.int .i64 (0))))) :
 Calls Tryz.prog 101 #[edgeV s h A L.length c, .slice B ps.length cc] w (RetSent w s h L ps 8) := by
 have hn : decide (0 < L.length) = false := by simp [hl0.out]
 obtain ⟨W1, hW1⟩ : ∃ W1, W1 = w.alloc (.cells #[.int .i64 s, .int .i64 h, .slice A L.length c] 55) := ⟨_, rfl⟩
 obtain ⟨WA, hWA⟩ : ∃ WA, WA = W1.alloc (.cells #[.int .i64 0, .int .i64 0, .slice none 0 0] 55) := ⟨_, rfl⟩
 have g1 : W1.heap.size = w.heap.size + 1 := by rw [hW1]; simp
 have g2 : WA.heap.size = W1.heap.size + 1 := by rw [hWA]; simp
 have k1 : Below w.heap.size w W1 := by rw [hW1]; exact bA_
 have k2 : Below W1.heap.size W1 WA := by rw [hWA]; exact bA_
 have HA := h_ (show SendAt w WA W1.heap.size s h A L.length c from ⟨(k2.block _ (by omega)).trans (by rw [hW1]; show (w.heap.push _)[w.heap.size]? = _; simp), by rw [hWA]; show (W1.heap.push _)[W1.heap.size]? = _; simp, bThen k1 k2⟩)
 have HW := h_ (show (w.alloc (.cells #[.int .i64 s, .int .i64 h, .slice A L.length c] 55)).alloc (.cells #[.int .i64 0, .int .i64 0, .slice none 0 0] 55) = WA by rw [hWA, hW1])
 obtain ⟨R, hR⟩ : ∃ R, R = W1.heap.size := ⟨_, rfl⟩
 have HE2 := h_ (show w.heap.size + 1 = R by omega)
 have hRB : w.heap.size < R := by omega
 have hRz : R < WA.heap.size := by omega
 rw [← hR] at HA
 clear hR k1 k2 g1 g2 hWA hW1
 go_enter Tryz.func101, Tryz.ntmps101
 go_wp2_with fail
 rw [HW.out, HE2.out]
 refine (HC.out _ (HT.out.later HA.out.b) (HS.out.later HA.out.b) HM.out).mono ?_
 rintro e w1 ⟨rfl, hb1⟩
 have H1 := h_ (HA.out.later hb1)
 have hz1 := hb1.size
 obtain ⟨e0, e1, e2, _, _, _, hez⟩ := b_ H1.out.e
 obtain ⟨r0, r1, r2, q0, q1, q2, hrz⟩ := b_ H1.out.r
 clear hb1
 go_wp2_with fail
 refine (HF.out _ (HT.out.later H1.out.b) (Sl.later HP.out H1.out.b)).mono ?_
 rintro e w2 ⟨rfl, hb2⟩
 have H2 := h_ (H1.out.later hb2)
 have hz2 := hb2.size
 obtain ⟨e0, e1, e2, _, _, _, hez⟩ := b_ H2.out.e
 obtain ⟨r0, r1, r2, q0, q1, q2, hrz⟩ := b_ H2.out.r
 clear hb2
 go_wp2_with fail
 have z0 := b_ (y_ (x := .slice none 0 0) (bn_ (x := .int .i64 0) (bm_ (x := .int .i64 0) H2.out.r)))
 obtain ⟨z0, z1, z2, _, _, _, _⟩ := z0
 refine bodyPost_ret (v := .tuple #[edgeV 0 0 none 0 0, .int .i64 8]) (by simp [results, Tryz.results101, go_sem, z0, z1, z2]) rfl ?_
 exact ⟨fun _ => ⟨rfl, bSet (bSet (bSet H2.out.b (p := ⟨R, 0, none⟩) (Nat.le_of_lt hRB) _) (p := ⟨R, 1, none⟩) (Nat.le_of_lt hRB) _) (p := ⟨R, 2, none⟩) (Nat.le_of_lt hRB) _⟩, fun h0 => absurd h0 (by decide)⟩
theorem uo_ (w : World) (s h : Int) (A : Option Addr) (c : Nat) (L : List OpV) (HT : Hid (Tabs w)) (HS : Hid (OpsIn w A L)) (HM : Hid (∀ o ∈ L, o.Small)) (B : Option Addr) (cc : Nat) (ps : List PartD) (HP : Hid (OpIn (· < w.heap.size) w B ps)) (hl0 : Hid (L.length = 0)) (hll : L.length ≤ 1048576) (hs0 : 0 ≤ s) (hs1 : s < 1048576) (_f1 : (s == 1048576) = false) (_f2 : decide (1048576 ≤ s) = false) (HC : Hid (∀ W, Tabs W → OpsIn W A L → (∀ o ∈ L, o.Small) → Calls Tryz.prog 122 #[edgeV s h A L.length c] W (R_ W (.int .i64 0)))) (HF : Hid (∀ W, Tabs W → OpIn (· < W.heap.size) W B ps → Calls Tryz.prog 96 #[.slice B ps.length cc] W (R_ W (.int .i64 (0))))) (HO : Hid (∀ W, OpsIn W A L → Calls Tryz.prog 127 #[edgeV s h A L.length c] W (RetEdge W s h L))) (HD : Hid (∀ W, OpIn (· < W.heap.size) W B ps → Calls Tryz.prog 100 #[.slice B ps.length cc] W (RetOp W ps))) :
 Calls Tryz.prog 101 #[edgeV s h A L.length c, .slice B ps.length cc] w (RetSent w s h L ps 0) := by
 have hn : decide (0 < L.length) = false := by simp [hl0.out]
 obtain ⟨W1, hW1⟩ : ∃ W1, W1 = w.alloc (.cells #[.int .i64 s, .int .i64 h, .slice A L.length c] 55) := ⟨_, rfl⟩
 obtain ⟨WA, hWA⟩ : ∃ WA, WA = W1.alloc (.cells #[.int .i64 0, .int .i64 0, .slice none 0 0] 55) := ⟨_, rfl⟩
 have g1 : W1.heap.size = w.heap.size + 1 := by rw [hW1]; simp
 have g2 : WA.heap.size = W1.heap.size + 1 := by rw [hWA]; simp
 have k1 : Below w.heap.size w W1 := by rw [hW1]; exact bA_
 have k2 : Below W1.heap.size W1 WA := by rw [hWA]; exact bA_
 have HA := h_ (show SendAt w WA W1.heap.size s h A L.length c from ⟨(k2.block _ (by omega)).trans (by rw [hW1]; show (w.heap.push _)[w.heap.size]? = _; simp), by rw [hWA]; show (W1.heap.push _)[W1.heap.size]? = _; simp, bThen k1 k2⟩)
 have HW := h_ (show (w.alloc (.cells #[.int .i64 s, .int .i64 h, .slice A L.length c] 55)).alloc (.cells #[.int .i64 0, .int .i64 0, .slice none 0 0] 55) = WA by rw [hWA, hW1])
 obtain ⟨R, hR⟩ : ∃ R, R = W1.heap.size := ⟨_, rfl⟩
 have HE2 := h_ (show w.heap.size + 1 = R by omega)
 have hRB : w.heap.size < R := by omega
 have hRz : R < WA.heap.size := by omega
 rw [← hR] at HA
 clear hR k1 k2 g1 g2 hWA hW1
 go_enter Tryz.func101, Tryz.ntmps101
 go_wp2_with fail
 rw [HW.out, HE2.out]
 refine (HC.out _ (HT.out.later HA.out.b) (HS.out.later HA.out.b) HM.out).mono ?_
 rintro e w1 ⟨rfl, hb1⟩
 have H1 := h_ (HA.out.later hb1)
 have hz1 := hb1.size
 obtain ⟨e0, e1, e2, _, _, _, hez⟩ := b_ H1.out.e
 obtain ⟨r0, r1, r2, q0, q1, q2, hrz⟩ := b_ H1.out.r
 clear hb1
 go_wp2_with fail
 refine (HF.out _ (HT.out.later H1.out.b) (Sl.later HP.out H1.out.b)).mono ?_
 rintro e w2 ⟨rfl, hb2⟩
 have H2 := h_ (H1.out.later hb2)
 have hz2 := hb2.size
 obtain ⟨e0, e1, e2, _, _, _, hez⟩ := b_ H2.out.e
 obtain ⟨r0, r1, r2, q0, q1, q2, hrz⟩ := b_ H2.out.r
 clear hb2
 go_wp2_with fail
 refine (HO.out _ (HS.out.later H2.out.b)).mono ?_
 rintro e wc ⟨A3, c3, L3, rfl, hps3, hown3, hb3⟩
 have hL3 : L3.length ≤ 1048576 := by have := congrArg List.length hps3; simp at this; omega
 have HPS := h_ hps3
 obtain ⟨O, hO⟩ : ∃ O, O = wc.heap.size := ⟨_, rfl⟩
 obtain ⟨WX, hWX⟩ : ∃ WX, WX = wc.alloc (.cells #[.int .i64 (s + 1), .int .i64 h, .slice A3 L3.length c3] 55) := ⟨_, rfl⟩
 have hbX : Below wc.heap.size wc WX := by rw [hWX]; exact bA_
 have hzc := hb3.size
 have HX := h_ ((H2.out.later hb3).later hbX)
 have HXO := h_ (show EdgeAt WX O (s + 1) h A3 L3.length c3 by rw [hWX, hO]; show (wc.heap.push _)[wc.heap.size]? = _; simp)
 have HXP := h_ ((hown3.kept hbX.size (fun b _ hb => hbX.block b hb)).mono (show WA.heap.size ≤ w2.heap.size by omega))
 have HNE := h_ (m_ HXP.out.row HXO.out (by decide))
 have HNR := h_ (m_ HXP.out.row HX.out.r (by decide))
 have hXz : WA.heap.size ≤ WX.heap.size := by have := hbX.size; omega
 have hAz := HA.out.b.size
 have HWX := h_ hWX
 have hOR : R < O := by omega
 have HOO := h_ hO
 have HPX := h_ (Sl.later HP.out HX.out.b)
 obtain ⟨e0, e1, e2, _, _, _, hez⟩ := b_ (H2.out.later hb3).e
 clear hWX hbX hb3 hown3 hps3 hO hzc
 go_wp2_with fail
 rw [← HWX.out, ← HOO.out]
 obtain ⟨y0, y1, y2, y3, y4, y5, y6⟩ := b_ HXO.out
 obtain ⟨j0, hj, jz0, jz1, jz2⟩ := info_parts infoOp
 go_region_law (first
  | (refine w_ _ rfl _ _ 25 rfl WA.heap.size 30 j0 (.slice none 0 0) 1 24 Tryz.underlying25 hj jz0 jz1 jz2 rfl (by decide) _ _ _ rfl (World.ownsRow.alloc (el_ HXP.out.row) _) (fun _ => True) _ _ _ _ rfl (et_ rfl (by simp)) ?_ ?_ ?_ ?_ ?_; (intro u hu; simp at hu; subst hu; rfl); (unfold maxLen; omega); omega; (simp; omega); intro A' c' w3 hown' hgrow hat; obtain ⟨y0, y1, y2, y3, y4, y5, y6⟩ := b_ (bh_ HXO.out HNE.out hgrow))
  | (go_simp; go_at_call 100; refine (HD.out _ ?_).mono ?_; exact HPX.out; rintro e wd ⟨A2, c2, rfl, ho2, hb2⟩; obtain ⟨⟨d2, os2⟩, rfl⟩ := a_ hb2))
 all_goals (
  have HB2 : Below WX.heap.size WX (Go.Sort.grow (redrawn WX d2) os2) := ⟨hb2.os, hb2.tape, hb2.output, hb2.size, hb2.block⟩
  have ho3 : (Go.Sort.grow (redrawn WX d2) os2).ownsRow WX.heap.size 73 3 (.slice A2 ps.length c2) ps.length (opCells ps) := ho2
  have hR3 := bh_ HX.out.r HNR.out hgrow
  have hO3 := bh_ HXO.out HNE.out hgrow
  have hP := HXP.out.push hXz HB2 ho3 hgrow hown' hat
  have hF := bs_ HX.out.b HB2 hgrow (fun g hg => by have := (HXP.out.row.lt g hg).1; omega)
  clear hown' hgrow hat ho2 ho3 hb2 HB2 y0 y1 y2 y3 y4 y5 y6
  refine n_ (fun G => EdgeAt G O (s + 1) h A' (L3.length + 1) c' ∧ OpsOwn G WA.heap.size A' c' (L3 ++ [⟨A2, c2, ps⟩]) ∧ EdgeAt G R 0 0 none 0 0 ∧ Below w.heap.size w G) ⟨y_ hO3, hP.set2 hO3, (bH_ (by show R ≠ O; omega)).trans hR3, bSet hF (by show w.heap.size ≤ O; omega) _⟩ ?_
  rintro G ⟨hO4, hP4, hR4, hF4⟩
  clear hR3 hO3 hP hF
  obtain ⟨y0, y1, y2, y3, y4, y5, y6⟩ := b_ hO4
  obtain ⟨r0, r1, r2, q0, q1, q2, hrz⟩ := b_ hR4
  have HO4 := h_ hP4
  clear hP4
  go_wp2_with fail
  obtain ⟨hR5, hO5, hF5⟩ := hc_ (s := s + 1) (h := h) (n := L3.length + 1) hRB hRz hR4 HO4.out hF4
  clear HO4 hF4 hR4
  refine n_ (fun G => EdgeAt G R (s + 1) h A' (L3.length + 1) c' ∧ OpsOwn G WA.heap.size A' c' (L3 ++ [⟨A2, c2, ps⟩]) ∧ Below w.heap.size w G) ⟨hR5, hO5, hF5⟩ ?_
  clear hR5 hO5 hF5
  rintro G' ⟨hR5, hO5, hF5⟩
  obtain ⟨t0, t1, t2, _, _, _, _⟩ := b_ hR5
  refine bodyPost_ret (v := .tuple #[edgeV (s + 1) h A' (L3.length + 1) c', .int .i64 0]) (by simp [results, Tryz.results101, go_sem, t0, t1, t2]) rfl ?_
  exact ⟨fun h0 => absurd rfl h0, fun _ => ⟨A', c', L3 ++ [⟨A2, c2, ps⟩], by simp, by simp [HPS.out], hO5.mono hAz, hF5⟩⟩)
theorem xm_ (w : World) (s h : Int) (A : Option Addr) (c : Nat) (L : List OpV) (HT : Hid (Tabs w)) (HS : Hid (OpsIn w A L)) (HM : Hid (∀ o ∈ L, o.Small)) (B : Option Addr) (cc : Nat) (ps : List PartD) (HP : Hid (OpIn (· < w.heap.size) w B ps)) (qA : Option Addr) (qc : Nat) (qp : List PartD) (hlast : L.getLast? = some ⟨qA, qc, qp⟩) (a1 a2 b1 : Int) (hll : L.length ≤ 1048576) (hs0 : 0 ≤ s) (hs1 : s < 1048576) (_f1 : (s == 1048576) = false) (_f2 : decide (1048576 ≤ s) = false) (HC : Hid (∀ W, Tabs W → OpsIn W A L → (∀ o ∈ L, o.Small) → Calls Tryz.prog 122 #[edgeV s h A L.length c] W (R_ W (.int .i64 0)))) (HF : Hid (∀ W, Tabs W → OpIn (· < W.heap.size) W B ps → Calls Tryz.prog 96 #[.slice B ps.length cc] W (R_ W (.int .i64 (0))))) (HL : Hid (∀ W, OpIn (· < W.heap.size) W B ps → Calls Tryz.prog 46 #[.slice B ps.length cc] W (R_ W (.tuple #[.int .i64 a1, .int .i64 a2])))) (HQ : Hid (∀ W, OpIn (· < W.heap.size) W qA qp → Calls Tryz.prog 46 #[.slice qA qp.length qc] W (R_ W (.tuple #[.int .i64 b1, .int .i64 a1])))) (HO : Hid (∀ W, OpsIn W A L → Calls Tryz.prog 127 #[edgeV s h A L.length c] W (RetEdge W s h L))) (HD : Hid (∀ W, OpIn (· < W.heap.size) W B ps → Calls Tryz.prog 100 #[.slice B ps.length cc] W (RetOp W ps))) :
 Calls Tryz.prog 101 #[edgeV s h A L.length c, .slice B ps.length cc] w (RetSent w s h L ps 0) := by
 obtain ⟨b, o, rfl, hbs, hcell, hop⟩ := da_ HS.out hlast
 have hn : decide (0 < L.length) = true := by simpa using bp_ hlast
 have hlp := bp_ hlast
 have HQI := h_ hop
 have HCL := h_ hcell
 clear hop hcell hlast
 obtain ⟨W1, hW1⟩ : ∃ W1, W1 = w.alloc (.cells #[.int .i64 s, .int .i64 h, .slice (some ⟨b, o, none⟩) L.length c] 55) := ⟨_, rfl⟩
 obtain ⟨WA, hWA⟩ : ∃ WA, WA = W1.alloc (.cells #[.int .i64 0, .int .i64 0, .slice none 0 0] 55) := ⟨_, rfl⟩
 have g1 : W1.heap.size = w.heap.size + 1 := by rw [hW1]; simp
 have g2 : WA.heap.size = W1.heap.size + 1 := by rw [hWA]; simp
 have k1 : Below w.heap.size w W1 := by rw [hW1]; exact bA_
 have k2 : Below W1.heap.size W1 WA := by rw [hWA]; exact bA_
 have HA := h_ (show SendAt w WA W1.heap.size s h (some ⟨b, o, none⟩) L.length c from ⟨(k2.block _ (by omega)).trans (by rw [hW1]; show (w.heap.push _)[w.heap.size]? = _; simp), by rw [hWA]; show (W1.heap.push _)[W1.heap.size]? = _; simp, bThen k1 k2⟩)
 have HW := h_ (show (w.alloc (.cells #[.int .i64 s, .int .i64 h, .slice (some ⟨b, o, none⟩) L.length c] 55)).alloc (.cells #[.int .i64 0, .int .i64 0, .slice none 0 0] 55) = WA by rw [hWA, hW1])
 obtain ⟨R, hR⟩ : ∃ R, R = W1.heap.size := ⟨_, rfl⟩
 have HE2 := h_ (show w.heap.size + 1 = R by omega)
 have hRB : w.heap.size < R := by omega
 have hRz : R < WA.heap.size := by omega
 rw [← hR] at HA
 clear hR k1 k2 g1 g2 hWA hW1
 go_enter Tryz.func101, Tryz.ntmps101
 go_wp2_with fail
 rw [HW.out, HE2.out]
 refine (HC.out _ (HT.out.later HA.out.b) (HS.out.later HA.out.b) HM.out).mono ?_
 rintro e w1 ⟨rfl, hb1⟩
 have H1 := h_ (HA.out.later hb1)
 have hz1 := hb1.size
 obtain ⟨e0, e1, e2, _, _, _, hez⟩ := b_ H1.out.e
 obtain ⟨r0, r1, r2, q0, q1, q2, hrz⟩ := b_ H1.out.r
 clear hb1
 have lc : w1.cell? ⟨b, o + (L.length - 1), none⟩ = some (.slice qA qp.length qc) := (H1.out.b.cell (p := ⟨b, o + (L.length - 1), none⟩) hbs).trans HCL.out
 go_wp2_with fail
 refine (HF.out _ (HT.out.later H1.out.b) (Sl.later HP.out H1.out.b)).mono ?_
 rintro e w2 ⟨rfl, hb2⟩
 have H2 := h_ (H1.out.later hb2)
 have hz2 := hb2.size
 obtain ⟨e0, e1, e2, _, _, _, hez⟩ := b_ H2.out.e
 obtain ⟨r0, r1, r2, q0, q1, q2, hrz⟩ := b_ H2.out.r
 clear hb2
 have lc : w2.cell? ⟨b, o + (L.length - 1), none⟩ = some (.slice qA qp.length qc) := (H2.out.b.cell (p := ⟨b, o + (L.length - 1), none⟩) hbs).trans HCL.out
 go_wp2_with fail
 refine (HQ.out _ (Sl.later HQI.out H2.out.b)).mono ?_
 rintro e w3 ⟨rfl, hb3⟩
 have H3 := h_ (H2.out.later hb3)
 have hz3 := hb3.size
 obtain ⟨e0, e1, e2, _, _, _, hez⟩ := b_ H3.out.e
 obtain ⟨r0, r1, r2, q0, q1, q2, hrz⟩ := b_ H3.out.r
 clear hb3
 have lc : w3.cell? ⟨b, o + (L.length - 1), none⟩ = some (.slice qA qp.length qc) := (H3.out.b.cell (p := ⟨b, o + (L.length - 1), none⟩) hbs).trans HCL.out
 go_wp2_with fail
 refine (HL.out _ (Sl.later HP.out H3.out.b)).mono ?_
 rintro e w4 ⟨rfl, hb4⟩
 have H4 := h_ (H3.out.later hb4)
 have hz4 := hb4.size
 obtain ⟨e0, e1, e2, _, _, _, hez⟩ := b_ H4.out.e
 obtain ⟨r0, r1, r2, q0, q1, q2, hrz⟩ := b_ H4.out.r
 clear hb4
 have lc : w4.cell? ⟨b, o + (L.length - 1), none⟩ = some (.slice qA qp.length qc) := (H4.out.b.cell (p := ⟨b, o + (L.length - 1), none⟩) hbs).trans HCL.out
 go_wp2_with fail
 refine (HO.out _ (HS.out.later H4.out.b)).mono ?_
 rintro e wc ⟨A3, c3, L3, rfl, hps3, hown3, hb3⟩
 have hL3 : L3.length ≤ 1048576 := by have := congrArg List.length hps3; simp at this; omega
 have HPS := h_ hps3
 obtain ⟨O, hO⟩ : ∃ O, O = wc.heap.size := ⟨_, rfl⟩
 obtain ⟨WX, hWX⟩ : ∃ WX, WX = wc.alloc (.cells #[.int .i64 (s + 1), .int .i64 h, .slice A3 L3.length c3] 55) := ⟨_, rfl⟩
 have hbX : Below wc.heap.size wc WX := by rw [hWX]; exact bA_
 have hzc := hb3.size
 have HX := h_ ((H4.out.later hb3).later hbX)
 have HXO := h_ (show EdgeAt WX O (s + 1) h A3 L3.length c3 by rw [hWX, hO]; show (wc.heap.push _)[wc.heap.size]? = _; simp)
 have HXP := h_ ((hown3.kept hbX.size (fun b _ hb => hbX.block b hb)).mono (show WA.heap.size ≤ w4.heap.size by omega))
 have HNE := h_ (m_ HXP.out.row HXO.out (by decide))
 have HNR := h_ (m_ HXP.out.row HX.out.r (by decide))
 have hXz : WA.heap.size ≤ WX.heap.size := by have := hbX.size; omega
 have hAz := HA.out.b.size
 have HWX := h_ hWX
 have hOR : R < O := by omega
 have HOO := h_ hO
 have HPX := h_ (Sl.later HP.out HX.out.b)
 obtain ⟨e0, e1, e2, _, _, _, hez⟩ := b_ (H4.out.later hb3).e
 clear hWX hbX hb3 hown3 hps3 hO hzc
 go_wp2_with fail
 rw [← HWX.out, ← HOO.out]
 obtain ⟨y0, y1, y2, y3, y4, y5, y6⟩ := b_ HXO.out
 obtain ⟨j0, hj, jz0, jz1, jz2⟩ := info_parts infoOp
 go_region_law (first
  | (refine w_ _ rfl _ _ 25 rfl WA.heap.size 30 j0 (.slice none 0 0) 1 24 Tryz.underlying25 hj jz0 jz1 jz2 rfl (by decide) _ _ _ rfl (World.ownsRow.alloc (el_ HXP.out.row) _) (fun _ => True) _ _ _ _ rfl (et_ rfl (by simp)) ?_ ?_ ?_ ?_ ?_; (intro u hu; simp at hu; subst hu; rfl); (unfold maxLen; omega); omega; (simp; omega); intro A' c' w3 hown' hgrow hat; obtain ⟨y0, y1, y2, y3, y4, y5, y6⟩ := b_ (bh_ HXO.out HNE.out hgrow))
  | (go_simp; go_at_call 100; refine (HD.out _ ?_).mono ?_; exact HPX.out; rintro e wd ⟨A2, c2, rfl, ho2, hb2⟩; obtain ⟨⟨d2, os2⟩, rfl⟩ := a_ hb2))
 all_goals (
  have HB2 : Below WX.heap.size WX (Go.Sort.grow (redrawn WX d2) os2) := ⟨hb2.os, hb2.tape, hb2.output, hb2.size, hb2.block⟩
  have ho3 : (Go.Sort.grow (redrawn WX d2) os2).ownsRow WX.heap.size 73 3 (.slice A2 ps.length c2) ps.length (opCells ps) := ho2
  have hR3 := bh_ HX.out.r HNR.out hgrow
  have hO3 := bh_ HXO.out HNE.out hgrow
  have hP := HXP.out.push hXz HB2 ho3 hgrow hown' hat
  have hF := bs_ HX.out.b HB2 hgrow (fun g hg => by have := (HXP.out.row.lt g hg).1; omega)
  clear hown' hgrow hat ho2 ho3 hb2 HB2 y0 y1 y2 y3 y4 y5 y6
  refine n_ (fun G => EdgeAt G O (s + 1) h A' (L3.length + 1) c' ∧ OpsOwn G WA.heap.size A' c' (L3 ++ [⟨A2, c2, ps⟩]) ∧ EdgeAt G R 0 0 none 0 0 ∧ Below w.heap.size w G) ⟨y_ hO3, hP.set2 hO3, (bH_ (by show R ≠ O; omega)).trans hR3, bSet hF (by show w.heap.size ≤ O; omega) _⟩ ?_
  rintro G ⟨hO4, hP4, hR4, hF4⟩
  clear hR3 hO3 hP hF
  obtain ⟨y0, y1, y2, y3, y4, y5, y6⟩ := b_ hO4
  obtain ⟨r0, r1, r2, q0, q1, q2, hrz⟩ := b_ hR4
  have HO4 := h_ hP4
  clear hP4
  go_wp2_with fail
  obtain ⟨hR5, hO5, hF5⟩ := hc_ (s := s + 1) (h := h) (n := L3.length + 1) hRB hRz hR4 HO4.out hF4
  clear HO4 hF4 hR4
  refine n_ (fun G => EdgeAt G R (s + 1) h A' (L3.length + 1) c' ∧ OpsOwn G WA.heap.size A' c' (L3 ++ [⟨A2, c2, ps⟩]) ∧ Below w.heap.size w G) ⟨hR5, hO5, hF5⟩ ?_
  clear hR5 hO5 hF5
  rintro G' ⟨hR5, hO5, hF5⟩
  obtain ⟨t0, t1, t2, _, _, _, _⟩ := b_ hR5
  refine bodyPost_ret (v := .tuple #[edgeV (s + 1) h A' (L3.length + 1) c', .int .i64 0]) (by simp [results, Tryz.results101, go_sem, t0, t1, t2]) rfl ?_
  exact ⟨fun h0 => absurd rfl h0, fun _ => ⟨A', c', L3 ++ [⟨A2, c2, ps⟩], by simp, by simp [HPS.out], hO5.mono hAz, hF5⟩⟩)
theorem pv_ (w : World) (s h : Int) (A : Option Addr) (c : Nat) (L : List OpV) (HT : Hid (Tabs w)) (HS : Hid (OpsIn w A L)) (HM : Hid (∀ o ∈ L, o.Small)) (B : Option Addr) (cc : Nat) (ps : List PartD) (HC : Hid (∀ W, Tabs W → OpsIn W A L → (∀ o ∈ L, o.Small) → Calls Tryz.prog 104 #[edgeV s h A L.length c] W (R_ W (.bool false)))) :
 Calls Tryz.prog 109 #[edgeV s h A L.length c, .slice B ps.length cc] w (RetSent w s h L ps 9) := by
 obtain ⟨W1, hW1⟩ : ∃ W1, W1 = w.alloc (.cells #[.int .i64 s, .int .i64 h, .slice A L.length c] 55) := ⟨_, rfl⟩
 obtain ⟨WA, hWA⟩ : ∃ WA, WA = W1.alloc (.cells #[.int .i64 0, .int .i64 0, .slice none 0 0] 55) := ⟨_, rfl⟩
 have g1 : W1.heap.size = w.heap.size + 1 := by rw [hW1]; simp
 have g2 : WA.heap.size = W1.heap.size + 1 := by rw [hWA]; simp
 have k1 : Below w.heap.size w W1 := by rw [hW1]; exact bA_
 have k2 : Below W1.heap.size W1 WA := by rw [hWA]; exact bA_
 have HA := h_ (show SendAt w WA W1.heap.size s h A L.length c from ⟨(k2.block _ (by omega)).trans (by rw [hW1]; show (w.heap.push _)[w.heap.size]? = _; simp), by rw [hWA]; show (W1.heap.push _)[W1.heap.size]? = _; simp, bThen k1 k2⟩)
 have HW := h_ (show (w.alloc (.cells #[.int .i64 s, .int .i64 h, .slice A L.length c] 55)).alloc (.cells #[.int .i64 0, .int .i64 0, .slice none 0 0] 55) = WA by rw [hWA, hW1])
 obtain ⟨R, hR⟩ : ∃ R, R = W1.heap.size := ⟨_, rfl⟩
 have HE2 := h_ (show w.heap.size + 1 = R by omega)
 have hRB : w.heap.size < R := by omega
 have hRz : R < WA.heap.size := by omega
 rw [← hR] at HA
 clear hR k1 k2 g1 g2 hWA hW1
 go_enter Tryz.func109, Tryz.ntmps109
 go_wp2_with fail
 rw [HW.out, HE2.out]
 refine (HC.out _ (HT.out.later HA.out.b) (HS.out.later HA.out.b) HM.out).mono ?_
 rintro e w1 ⟨rfl, hb1⟩
 have H1 := h_ (HA.out.later hb1)
 have hz1 := hb1.size
 obtain ⟨e0, e1, e2, _, _, _, hez⟩ := b_ H1.out.e
 obtain ⟨r0, r1, r2, q0, q1, q2, hrz⟩ := b_ H1.out.r
 clear hb1
 go_wp2_with fail
 have z0 := b_ (y_ (x := .slice none 0 0) (bn_ (x := .int .i64 0) (bm_ (x := .int .i64 0) H1.out.r)))
 obtain ⟨z0, z1, z2, _, _, _, _⟩ := z0
 refine bodyPost_ret (v := .tuple #[edgeV 0 0 none 0 0, .int .i64 9]) (by simp [results, Tryz.results109, go_sem, z0, z1, z2]) rfl ?_
 exact ⟨fun _ => ⟨rfl, bSet (bSet (bSet H1.out.b (p := ⟨R, 0, none⟩) (Nat.le_of_lt hRB) _) (p := ⟨R, 1, none⟩) (Nat.le_of_lt hRB) _) (p := ⟨R, 2, none⟩) (Nat.le_of_lt hRB) _⟩, fun h0 => absurd h0 (by decide)⟩
theorem ps_ (w : World) (s h : Int) (A : Option Addr) (c : Nat) (L : List OpV) (HT : Hid (Tabs w)) (HS : Hid (OpsIn w A L)) (HM : Hid (∀ o ∈ L, o.Small)) (B : Option Addr) (cc : Nat) (ps : List PartD) (HP : Hid (OpIn (· < w.heap.size) w B ps)) (er : Int) (_hne : (er != 0) = true) (HC : Hid (∀ W, Tabs W → OpsIn W A L → (∀ o ∈ L, o.Small) → Calls Tryz.prog 104 #[edgeV s h A L.length c] W (R_ W (.bool true)))) (HF : Hid (∀ W, Tabs W → OpIn (· < W.heap.size) W B ps → Calls Tryz.prog 60 #[.slice B ps.length cc] W (R_ W (.int .i64 (er))))) :
 Calls Tryz.prog 109 #[edgeV s h A L.length c, .slice B ps.length cc] w (RetSent w s h L ps er) := by
 obtain ⟨W1, hW1⟩ : ∃ W1, W1 = w.alloc (.cells #[.int .i64 s, .int .i64 h, .slice A L.length c] 55) := ⟨_, rfl⟩
 obtain ⟨WA, hWA⟩ : ∃ WA, WA = W1.alloc (.cells #[.int .i64 0, .int .i64 0, .slice none 0 0] 55) := ⟨_, rfl⟩
 have g1 : W1.heap.size = w.heap.size + 1 := by rw [hW1]; simp
 have g2 : WA.heap.size = W1.heap.size + 1 := by rw [hWA]; simp
 have k1 : Below w.heap.size w W1 := by rw [hW1]; exact bA_
 have k2 : Below W1.heap.size W1 WA := by rw [hWA]; exact bA_
 have HA := h_ (show SendAt w WA W1.heap.size s h A L.length c from ⟨(k2.block _ (by omega)).trans (by rw [hW1]; show (w.heap.push _)[w.heap.size]? = _; simp), by rw [hWA]; show (W1.heap.push _)[W1.heap.size]? = _; simp, bThen k1 k2⟩)
 have HW := h_ (show (w.alloc (.cells #[.int .i64 s, .int .i64 h, .slice A L.length c] 55)).alloc (.cells #[.int .i64 0, .int .i64 0, .slice none 0 0] 55) = WA by rw [hWA, hW1])
 obtain ⟨R, hR⟩ : ∃ R, R = W1.heap.size := ⟨_, rfl⟩
 have HE2 := h_ (show w.heap.size + 1 = R by omega)
 have hRB : w.heap.size < R := by omega
 have hRz : R < WA.heap.size := by omega
 rw [← hR] at HA
 clear hR k1 k2 g1 g2 hWA hW1
 go_enter Tryz.func109, Tryz.ntmps109
 go_wp2_with fail
 rw [HW.out, HE2.out]
 refine (HC.out _ (HT.out.later HA.out.b) (HS.out.later HA.out.b) HM.out).mono ?_
 rintro e w1 ⟨rfl, hb1⟩
 have H1 := h_ (HA.out.later hb1)
 have hz1 := hb1.size
 obtain ⟨e0, e1, e2, _, _, _, hez⟩ := b_ H1.out.e
 obtain ⟨r0, r1, r2, q0, q1, q2, hrz⟩ := b_ H1.out.r
 clear hb1
 go_wp2_with fail
 refine (HF.out _ (HT.out.later H1.out.b) (Sl.later HP.out H1.out.b)).mono ?_
 rintro e w2 ⟨rfl, hb2⟩
 have H2 := h_ (H1.out.later hb2)
 have hz2 := hb2.size
 obtain ⟨e0, e1, e2, _, _, _, hez⟩ := b_ H2.out.e
 obtain ⟨r0, r1, r2, q0, q1, q2, hrz⟩ := b_ H2.out.r
 clear hb2
 go_wp2_with fail
 have z0 := b_ (y_ (x := .slice none 0 0) (bn_ (x := .int .i64 0) (bm_ (x := .int .i64 0) H2.out.r)))
 obtain ⟨z0, z1, z2, _, _, _, _⟩ := z0
 refine bodyPost_ret (v := .tuple #[edgeV 0 0 none 0 0, .int .i64 er]) (by simp [results, Tryz.results109, go_sem, z0, z1, z2]) rfl ?_
 exact ⟨fun _ => ⟨rfl, bSet (bSet (bSet H2.out.b (p := ⟨R, 0, none⟩) (Nat.le_of_lt hRB) _) (p := ⟨R, 1, none⟩) (Nat.le_of_lt hRB) _) (p := ⟨R, 2, none⟩) (Nat.le_of_lt hRB) _⟩, fun h0 => absurd h0 (by simpa using _hne)⟩
theorem pu_ (w : World) (s h : Int) (A : Option Addr) (c : Nat) (L : List OpV) (HT : Hid (Tabs w)) (HS : Hid (OpsIn w A L)) (HM : Hid (∀ o ∈ L, o.Small)) (B : Option Addr) (cc : Nat) (ps : List PartD) (HP : Hid (OpIn (· < w.heap.size) w B ps)) (qA : Option Addr) (qc : Nat) (qp : List PartD) (hlast : L.getLast? = some ⟨qA, qc, qp⟩) (a1 a2 b1 b2 : Int) (_hm : (a1 != b2) = true) (hll : L.length ≤ 1048576) (HC : Hid (∀ W, Tabs W → OpsIn W A L → (∀ o ∈ L, o.Small) → Calls Tryz.prog 104 #[edgeV s h A L.length c] W (R_ W (.bool true)))) (HF : Hid (∀ W, Tabs W → OpIn (· < W.heap.size) W B ps → Calls Tryz.prog 60 #[.slice B ps.length cc] W (R_ W (.int .i64 (0))))) (HL : Hid (∀ W, OpIn (· < W.heap.size) W B ps → Calls Tryz.prog 59 #[.slice B ps.length cc] W (R_ W (.tuple #[.int .i64 a1, .int .i64 a2])))) (HQ : Hid (∀ W, OpIn (· < W.heap.size) W qA qp → Calls Tryz.prog 59 #[.slice qA qp.length qc] W (R_ W (.tuple #[.int .i64 b1, .int .i64 b2])))) :
 Calls Tryz.prog 109 #[edgeV s h A L.length c, .slice B ps.length cc] w (RetSent w s h L ps 10) := by
 obtain ⟨b, o, rfl, hbs, hcell, hop⟩ := da_ HS.out hlast
 have hn : decide (0 < L.length) = true := by simpa using bp_ hlast
 have hlp := bp_ hlast
 have HQI := h_ hop
 have HCL := h_ hcell
 clear hop hcell hlast
 obtain ⟨W1, hW1⟩ : ∃ W1, W1 = w.alloc (.cells #[.int .i64 s, .int .i64 h, .slice (some ⟨b, o, none⟩) L.length c] 55) := ⟨_, rfl⟩
 obtain ⟨WA, hWA⟩ : ∃ WA, WA = W1.alloc (.cells #[.int .i64 0, .int .i64 0, .slice none 0 0] 55) := ⟨_, rfl⟩
 have g1 : W1.heap.size = w.heap.size + 1 := by rw [hW1]; simp
 have g2 : WA.heap.size = W1.heap.size + 1 := by rw [hWA]; simp
 have k1 : Below w.heap.size w W1 := by rw [hW1]; exact bA_
 have k2 : Below W1.heap.size W1 WA := by rw [hWA]; exact bA_
 have HA := h_ (show SendAt w WA W1.heap.size s h (some ⟨b, o, none⟩) L.length c from ⟨(k2.block _ (by omega)).trans (by rw [hW1]; show (w.heap.push _)[w.heap.size]? = _; simp), by rw [hWA]; show (W1.heap.push _)[W1.heap.size]? = _; simp, bThen k1 k2⟩)
 have HW := h_ (show (w.alloc (.cells #[.int .i64 s, .int .i64 h, .slice (some ⟨b, o, none⟩) L.length c] 55)).alloc (.cells #[.int .i64 0, .int .i64 0, .slice none 0 0] 55) = WA by rw [hWA, hW1])
 obtain ⟨R, hR⟩ : ∃ R, R = W1.heap.size := ⟨_, rfl⟩
 have HE2 := h_ (show w.heap.size + 1 = R by omega)
 have hRB : w.heap.size < R := by omega
 have hRz : R < WA.heap.size := by omega
 rw [← hR] at HA
 clear hR k1 k2 g1 g2 hWA hW1
 go_enter Tryz.func109, Tryz.ntmps109
 go_wp2_with fail
 rw [HW.out, HE2.out]
 refine (HC.out _ (HT.out.later HA.out.b) (HS.out.later HA.out.b) HM.out).mono ?_
 rintro e w1 ⟨rfl, hb1⟩
 have H1 := h_ (HA.out.later hb1)
 have hz1 := hb1.size
 obtain ⟨e0, e1, e2, _, _, _, hez⟩ := b_ H1.out.e
 obtain ⟨r0, r1, r2, q0, q1, q2, hrz⟩ := b_ H1.out.r
 clear hb1
 have lc : w1.cell? ⟨b, o + (L.length - 1), none⟩ = some (.slice qA qp.length qc) := (H1.out.b.cell (p := ⟨b, o + (L.length - 1), none⟩) hbs).trans HCL.out
 go_wp2_with fail
 refine (HF.out _ (HT.out.later H1.out.b) (Sl.later HP.out H1.out.b)).mono ?_
 rintro e w2 ⟨rfl, hb2⟩
 have H2 := h_ (H1.out.later hb2)
 have hz2 := hb2.size
 obtain ⟨e0, e1, e2, _, _, _, hez⟩ := b_ H2.out.e
 obtain ⟨r0, r1, r2, q0, q1, q2, hrz⟩ := b_ H2.out.r
 clear hb2
 have lc : w2.cell? ⟨b, o + (L.length - 1), none⟩ = some (.slice qA qp.length qc) := (H2.out.b.cell (p := ⟨b, o + (L.length - 1), none⟩) hbs).trans HCL.out
 go_wp2_with fail
 refine (HL.out _ (Sl.later HP.out H2.out.b)).mono ?_
 rintro e w3 ⟨rfl, hb3⟩
 have H3 := h_ (H2.out.later hb3)
 have hz3 := hb3.size
 obtain ⟨e0, e1, e2, _, _, _, hez⟩ := b_ H3.out.e
 obtain ⟨r0, r1, r2, q0, q1, q2, hrz⟩ := b_ H3.out.r
 clear hb3
 have lc : w3.cell? ⟨b, o + (L.length - 1), none⟩ = some (.slice qA qp.length qc) := (H3.out.b.cell (p := ⟨b, o + (L.length - 1), none⟩) hbs).trans HCL.out
 go_wp2_with fail
 refine (HQ.out _ (Sl.later HQI.out H3.out.b)).mono ?_
 rintro e w4 ⟨rfl, hb4⟩
 have H4 := h_ (H3.out.later hb4)
 have hz4 := hb4.size
 obtain ⟨e0, e1, e2, _, _, _, hez⟩ := b_ H4.out.e
 obtain ⟨r0, r1, r2, q0, q1, q2, hrz⟩ := b_ H4.out.r
 clear hb4
 have lc : w4.cell? ⟨b, o + (L.length - 1), none⟩ = some (.slice qA qp.length qc) := (H4.out.b.cell (p := ⟨b, o + (L.length - 1), none⟩) hbs).trans HCL.out
 go_wp2_with fail
 have z0 := b_ (y_ (x := .slice none 0 0) (bn_ (x := .int .i64 0) (bm_ (x := .int .i64 0) H4.out.r)))
 obtain ⟨z0, z1, z2, _, _, _, _⟩ := z0
 refine bodyPost_ret (v := .tuple #[edgeV 0 0 none 0 0, .int .i64 10]) (by simp [results, Tryz.results109, go_sem, z0, z1, z2]) rfl ?_
 exact ⟨fun _ => ⟨rfl, bSet (bSet (bSet H4.out.b (p := ⟨R, 0, none⟩) (Nat.le_of_lt hRB) _) (p := ⟨R, 1, none⟩) (Nat.le_of_lt hRB) _) (p := ⟨R, 2, none⟩) (Nat.le_of_lt hRB) _⟩, fun h0 => absurd h0 (by decide)⟩
theorem rq_ (w : World) (s h : Int) (A : Option Addr) (c : Nat) (L : List OpV) (HT : Hid (Tabs w)) (HS : Hid (OpsIn w A L)) (HM : Hid (∀ o ∈ L, o.Small)) (B : Option Addr) (cc : Nat) (ps : List PartD) (HP : Hid (OpIn (· < w.heap.size) w B ps)) (qA : Option Addr) (qc : Nat) (qp : List PartD) (hlast : L.getLast? = some ⟨qA, qc, qp⟩) (a1 a2 b1 : Int) (hll : L.length ≤ 1048576) (_f1 : (s == 1048576) = true) (_f2 : decide (1048576 ≤ s) = true) (HC : Hid (∀ W, Tabs W → OpsIn W A L → (∀ o ∈ L, o.Small) → Calls Tryz.prog 104 #[edgeV s h A L.length c] W (R_ W (.bool true)))) (HF : Hid (∀ W, Tabs W → OpIn (· < W.heap.size) W B ps → Calls Tryz.prog 60 #[.slice B ps.length cc] W (R_ W (.int .i64 (0))))) (HL : Hid (∀ W, OpIn (· < W.heap.size) W B ps → Calls Tryz.prog 59 #[.slice B ps.length cc] W (R_ W (.tuple #[.int .i64 a1, .int .i64 a2])))) (HQ : Hid (∀ W, OpIn (· < W.heap.size) W qA qp → Calls Tryz.prog 59 #[.slice qA qp.length qc] W (R_ W (.tuple #[.int .i64 b1, .int .i64 a1])))) :
 Calls Tryz.prog 109 #[edgeV s h A L.length c, .slice B ps.length cc] w (RetSent w s h L ps 8) := by
 obtain ⟨b, o, rfl, hbs, hcell, hop⟩ := da_ HS.out hlast
 have hn : decide (0 < L.length) = true := by simpa using bp_ hlast
 have hlp := bp_ hlast
 have HQI := h_ hop
 have HCL := h_ hcell
 clear hop hcell hlast
 obtain ⟨W1, hW1⟩ : ∃ W1, W1 = w.alloc (.cells #[.int .i64 s, .int .i64 h, .slice (some ⟨b, o, none⟩) L.length c] 55) := ⟨_, rfl⟩
 obtain ⟨WA, hWA⟩ : ∃ WA, WA = W1.alloc (.cells #[.int .i64 0, .int .i64 0, .slice none 0 0] 55) := ⟨_, rfl⟩
 have g1 : W1.heap.size = w.heap.size + 1 := by rw [hW1]; simp
 have g2 : WA.heap.size = W1.heap.size + 1 := by rw [hWA]; simp
 have k1 : Below w.heap.size w W1 := by rw [hW1]; exact bA_
 have k2 : Below W1.heap.size W1 WA := by rw [hWA]; exact bA_
 have HA := h_ (show SendAt w WA W1.heap.size s h (some ⟨b, o, none⟩) L.length c from ⟨(k2.block _ (by omega)).trans (by rw [hW1]; show (w.heap.push _)[w.heap.size]? = _; simp), by rw [hWA]; show (W1.heap.push _)[W1.heap.size]? = _; simp, bThen k1 k2⟩)
 have HW := h_ (show (w.alloc (.cells #[.int .i64 s, .int .i64 h, .slice (some ⟨b, o, none⟩) L.length c] 55)).alloc (.cells #[.int .i64 0, .int .i64 0, .slice none 0 0] 55) = WA by rw [hWA, hW1])
 obtain ⟨R, hR⟩ : ∃ R, R = W1.heap.size := ⟨_, rfl⟩
 have HE2 := h_ (show w.heap.size + 1 = R by omega)
 have hRB : w.heap.size < R := by omega
 have hRz : R < WA.heap.size := by omega
 rw [← hR] at HA
 clear hR k1 k2 g1 g2 hWA hW1
 go_enter Tryz.func109, Tryz.ntmps109
 go_wp2_with fail
 rw [HW.out, HE2.out]
 refine (HC.out _ (HT.out.later HA.out.b) (HS.out.later HA.out.b) HM.out).mono ?_
 rintro e w1 ⟨rfl, hb1⟩
 have H1 := h_ (HA.out.later hb1)
 have hz1 := hb1.size
 obtain ⟨e0, e1, e2, _, _, _, hez⟩ := b_ H1.out.e
 obtain ⟨r0, r1, r2, q0, q1, q2, hrz⟩ := b_ H1.out.r
 clear hb1
 have lc : w1.cell? ⟨b, o + (L.length - 1), none⟩ = some (.slice qA qp.length qc) := (H1.out.b.cell (p := ⟨b, o + (L.length - 1), none⟩) hbs).trans HCL.out
 go_wp2_with fail
 refine (HF.out _ (HT.out.later H1.out.b) (Sl.later HP.out H1.out.b)).mono ?_
 rintro e w2 ⟨rfl, hb2⟩
 have H2 := h_ (H1.out.later hb2)
 have hz2 := hb2.size
 obtain ⟨e0, e1, e2, _, _, _, hez⟩ := b_ H2.out.e
 obtain ⟨r0, r1, r2, q0, q1, q2, hrz⟩ := b_ H2.out.r
 clear hb2
 have lc : w2.cell? ⟨b, o + (L.length - 1), none⟩ = some (.slice qA qp.length qc) := (H2.out.b.cell (p := ⟨b, o + (L.length - 1), none⟩) hbs).trans HCL.out
 go_wp2_with fail
 refine (HL.out _ (Sl.later HP.out H2.out.b)).mono ?_
 rintro e w3 ⟨rfl, hb3⟩
 have H3 := h_ (H2.out.later hb3)
 have hz3 := hb3.size
 obtain ⟨e0, e1, e2, _, _, _, hez⟩ := b_ H3.out.e
 obtain ⟨r0, r1, r2, q0, q1, q2, hrz⟩ := b_ H3.out.r
 clear hb3
 have lc : w3.cell? ⟨b, o + (L.length - 1), none⟩ = some (.slice qA qp.length qc) := (H3.out.b.cell (p := ⟨b, o + (L.length - 1), none⟩) hbs).trans HCL.out
 go_wp2_with fail
 refine (HQ.out _ (Sl.later HQI.out H3.out.b)).mono ?_
 rintro e w4 ⟨rfl, hb4⟩
 have H4 := h_ (H3.out.later hb4)
 have hz4 := hb4.size
 obtain ⟨e0, e1, e2, _, _, _, hez⟩ := b_ H4.out.e
 obtain ⟨r0, r1, r2, q0, q1, q2, hrz⟩ := b_ H4.out.r
 clear hb4
 have lc : w4.cell? ⟨b, o + (L.length - 1), none⟩ = some (.slice qA qp.length qc) := (H4.out.b.cell (p := ⟨b, o + (L.length - 1), none⟩) hbs).trans HCL.out
 go_wp2_with fail
 have z0 := b_ (y_ (x := .slice none 0 0) (bn_ (x := .int .i64 0) (bm_ (x := .int .i64 0) H4.out.r)))
 obtain ⟨z0, z1, z2, _, _, _, _⟩ := z0
 refine bodyPost_ret (v := .tuple #[edgeV 0 0 none 0 0, .int .i64 8]) (by simp [results, Tryz.results109, go_sem, z0, z1, z2]) rfl ?_
 exact ⟨fun _ => ⟨rfl, bSet (bSet (bSet H4.out.b (p := ⟨R, 0, none⟩) (Nat.le_of_lt hRB) _) (p := ⟨R, 1, none⟩) (Nat.le_of_lt hRB) _) (p := ⟨R, 2, none⟩) (Nat.le_of_lt hRB) _⟩, fun h0 => absurd h0 (by decide)⟩
theorem pt_ (w : World) (s h : Int) (A : Option Addr) (c : Nat) (L : List OpV) (HT : Hid (Tabs w)) (HS : Hid (OpsIn w A L)) (HM : Hid (∀ o ∈ L, o.Small)) (B : Option Addr) (cc : Nat) (ps : List PartD) (HP : Hid (OpIn (· < w.heap.size) w B ps)) (hl0 : Hid (L.length = 0)) (_f1 : (s == 1048576) = true) (_f2 : decide (1048576 ≤ s) = true) (HC : Hid (∀ W, Tabs W → OpsIn W A L → (∀ o ∈ L, o.Small) → Calls Tryz.prog 104 #[edgeV s h A L.length c] W (R_ W (.bool true)))) (HF : Hid (∀ W, Tabs W → OpIn (· < W.heap.size) W B ps → Calls Tryz.prog 60 #[.slice B ps.length cc] W (R_ W (.int .i64 (0))))) :
 Calls Tryz.prog 109 #[edgeV s h A L.length c, .slice B ps.length cc] w (RetSent w s h L ps 8) := by
 have hn : decide (0 < L.length) = false := by simp [hl0.out]
 obtain ⟨W1, hW1⟩ : ∃ W1, W1 = w.alloc (.cells #[.int .i64 s, .int .i64 h, .slice A L.length c] 55) := ⟨_, rfl⟩
 obtain ⟨WA, hWA⟩ : ∃ WA, WA = W1.alloc (.cells #[.int .i64 0, .int .i64 0, .slice none 0 0] 55) := ⟨_, rfl⟩
 have g1 : W1.heap.size = w.heap.size + 1 := by rw [hW1]; simp
 have g2 : WA.heap.size = W1.heap.size + 1 := by rw [hWA]; simp
 have k1 : Below w.heap.size w W1 := by rw [hW1]; exact bA_
 have k2 : Below W1.heap.size W1 WA := by rw [hWA]; exact bA_
 have HA := h_ (show SendAt w WA W1.heap.size s h A L.length c from ⟨(k2.block _ (by omega)).trans (by rw [hW1]; show (w.heap.push _)[w.heap.size]? = _; simp), by rw [hWA]; show (W1.heap.push _)[W1.heap.size]? = _; simp, bThen k1 k2⟩)
 have HW := h_ (show (w.alloc (.cells #[.int .i64 s, .int .i64 h, .slice A L.length c] 55)).alloc (.cells #[.int .i64 0, .int .i64 0, .slice none 0 0] 55) = WA by rw [hWA, hW1])
 obtain ⟨R, hR⟩ : ∃ R, R = W1.heap.size := ⟨_, rfl⟩
 have HE2 := h_ (show w.heap.size + 1 = R by omega)
 have hRB : w.heap.size < R := by omega
 have hRz : R < WA.heap.size := by omega
 rw [← hR] at HA
 clear hR k1 k2 g1 g2 hWA hW1
 go_enter Tryz.func109, Tryz.ntmps109
 go_wp2_with fail
 rw [HW.out, HE2.out]
 refine (HC.out _ (HT.out.later HA.out.b) (HS.out.later HA.out.b) HM.out).mono ?_
 rintro e w1 ⟨rfl, hb1⟩
 have H1 := h_ (HA.out.later hb1)
 have hz1 := hb1.size
 obtain ⟨e0, e1, e2, _, _, _, hez⟩ := b_ H1.out.e
 obtain ⟨r0, r1, r2, q0, q1, q2, hrz⟩ := b_ H1.out.r
 clear hb1
 go_wp2_with fail
 refine (HF.out _ (HT.out.later H1.out.b) (Sl.later HP.out H1.out.b)).mono ?_
 rintro e w2 ⟨rfl, hb2⟩
 have H2 := h_ (H1.out.later hb2)
 have hz2 := hb2.size
 obtain ⟨e0, e1, e2, _, _, _, hez⟩ := b_ H2.out.e
 obtain ⟨r0, r1, r2, q0, q1, q2, hrz⟩ := b_ H2.out.r
 clear hb2
 go_wp2_with fail
 have z0 := b_ (y_ (x := .slice none 0 0) (bn_ (x := .int .i64 0) (bm_ (x := .int .i64 0) H2.out.r)))
 obtain ⟨z0, z1, z2, _, _, _, _⟩ := z0
 refine bodyPost_ret (v := .tuple #[edgeV 0 0 none 0 0, .int .i64 8]) (by simp [results, Tryz.results109, go_sem, z0, z1, z2]) rfl ?_
 exact ⟨fun _ => ⟨rfl, bSet (bSet (bSet H2.out.b (p := ⟨R, 0, none⟩) (Nat.le_of_lt hRB) _) (p := ⟨R, 1, none⟩) (Nat.le_of_lt hRB) _) (p := ⟨R, 2, none⟩) (Nat.le_of_lt hRB) _⟩, fun h0 => absurd h0 (by decide)⟩
theorem tk_ (w : World) (s h : Int) (A : Option Addr) (c : Nat) (L : List OpV) (HT : Hid (Tabs w)) (HS : Hid (OpsIn w A L)) (HM : Hid (∀ o ∈ L, o.Small)) (B : Option Addr) (cc : Nat) (ps : List PartD) (HP : Hid (OpIn (· < w.heap.size) w B ps)) (hl0 : Hid (L.length = 0)) (hll : L.length ≤ 1048576) (hs0 : 0 ≤ s) (hs1 : s < 1048576) (_f1 : (s == 1048576) = false) (_f2 : decide (1048576 ≤ s) = false) (HC : Hid (∀ W, Tabs W → OpsIn W A L → (∀ o ∈ L, o.Small) → Calls Tryz.prog 104 #[edgeV s h A L.length c] W (R_ W (.bool true)))) (HF : Hid (∀ W, Tabs W → OpIn (· < W.heap.size) W B ps → Calls Tryz.prog 60 #[.slice B ps.length cc] W (R_ W (.int .i64 (0))))) (HO : Hid (∀ W, OpsIn W A L → Calls Tryz.prog 17 #[edgeV s h A L.length c] W (RetEdge W s h L))) (HD : Hid (∀ W, OpIn (· < W.heap.size) W B ps → Calls Tryz.prog 8 #[.slice B ps.length cc] W (RetOp W ps))) :
 Calls Tryz.prog 109 #[edgeV s h A L.length c, .slice B ps.length cc] w (RetSent w s h L ps 0) := by
 have hn : decide (0 < L.length) = false := by simp [hl0.out]
 obtain ⟨W1, hW1⟩ : ∃ W1, W1 = w.alloc (.cells #[.int .i64 s, .int .i64 h, .slice A L.length c] 55) := ⟨_, rfl⟩
 obtain ⟨WA, hWA⟩ : ∃ WA, WA = W1.alloc (.cells #[.int .i64 0, .int .i64 0, .slice none 0 0] 55) := ⟨_, rfl⟩
 have g1 : W1.heap.size = w.heap.size + 1 := by rw [hW1]; simp
 have g2 : WA.heap.size = W1.heap.size + 1 := by rw [hWA]; simp
 have k1 : Below w.heap.size w W1 := by rw [hW1]; exact bA_
 have k2 : Below W1.heap.size W1 WA := by rw [hWA]; exact bA_
 have HA := h_ (show SendAt w WA W1.heap.size s h A L.length c from ⟨(k2.block _ (by omega)).trans (by rw [hW1]; show (w.heap.push _)[w.heap.size]? = _; simp), by rw [hWA]; show (W1.heap.push _)[W1.heap.size]? = _; simp, bThen k1 k2⟩)
 have HW := h_ (show (w.alloc (.cells #[.int .i64 s, .int .i64 h, .slice A L.length c] 55)).alloc (.cells #[.int .i64 0, .int .i64 0, .slice none 0 0] 55) = WA by rw [hWA, hW1])
 obtain ⟨R, hR⟩ : ∃ R, R = W1.heap.size := ⟨_, rfl⟩
 have HE2 := h_ (show w.heap.size + 1 = R by omega)
 have hRB : w.heap.size < R := by omega
 have hRz : R < WA.heap.size := by omega
 rw [← hR] at HA
 clear hR k1 k2 g1 g2 hWA hW1
 go_enter Tryz.func109, Tryz.ntmps109
 go_wp2_with fail
 rw [HW.out, HE2.out]
 refine (HC.out _ (HT.out.later HA.out.b) (HS.out.later HA.out.b) HM.out).mono ?_
 rintro e w1 ⟨rfl, hb1⟩
 have H1 := h_ (HA.out.later hb1)
 have hz1 := hb1.size
 obtain ⟨e0, e1, e2, _, _, _, hez⟩ := b_ H1.out.e
 obtain ⟨r0, r1, r2, q0, q1, q2, hrz⟩ := b_ H1.out.r
 clear hb1
 go_wp2_with fail
 refine (HF.out _ (HT.out.later H1.out.b) (Sl.later HP.out H1.out.b)).mono ?_
 rintro e w2 ⟨rfl, hb2⟩
 have H2 := h_ (H1.out.later hb2)
 have hz2 := hb2.size
 obtain ⟨e0, e1, e2, _, _, _, hez⟩ := b_ H2.out.e
 obtain ⟨r0, r1, r2, q0, q1, q2, hrz⟩ := b_ H2.out.r
 clear hb2
 go_wp2_with fail
 refine (HO.out _ (HS.out.later H2.out.b)).mono ?_
 rintro e wc ⟨A3, c3, L3, rfl, hps3, hown3, hb3⟩
 have hL3 : L3.length ≤ 1048576 := by have := congrArg List.length hps3; simp at this; omega
 have HPS := h_ hps3
 obtain ⟨O, hO⟩ : ∃ O, O = wc.heap.size := ⟨_, rfl⟩
 obtain ⟨WX, hWX⟩ : ∃ WX, WX = wc.alloc (.cells #[.int .i64 (s + 1), .int .i64 h, .slice A3 L3.length c3] 55) := ⟨_, rfl⟩
 have hbX : Below wc.heap.size wc WX := by rw [hWX]; exact bA_
 have hzc := hb3.size
 have HX := h_ ((H2.out.later hb3).later hbX)
 have HXO := h_ (show EdgeAt WX O (s + 1) h A3 L3.length c3 by rw [hWX, hO]; show (wc.heap.push _)[wc.heap.size]? = _; simp)
 have HXP := h_ ((hown3.kept hbX.size (fun b _ hb => hbX.block b hb)).mono (show WA.heap.size ≤ w2.heap.size by omega))
 have HNE := h_ (m_ HXP.out.row HXO.out (by decide))
 have HNR := h_ (m_ HXP.out.row HX.out.r (by decide))
 have hXz : WA.heap.size ≤ WX.heap.size := by have := hbX.size; omega
 have hAz := HA.out.b.size
 have HWX := h_ hWX
 have hOR : R < O := by omega
 have HOO := h_ hO
 have HPX := h_ (Sl.later HP.out HX.out.b)
 obtain ⟨e0, e1, e2, _, _, _, hez⟩ := b_ (H2.out.later hb3).e
 clear hWX hbX hb3 hown3 hps3 hO hzc
 go_wp2_with fail
 rw [← HWX.out, ← HOO.out]
 obtain ⟨y0, y1, y2, y3, y4, y5, y6⟩ := b_ HXO.out
 obtain ⟨j0, hj, jz0, jz1, jz2⟩ := info_parts infoOp
 go_region_law (first
  | (refine w_ _ rfl _ _ 25 rfl WA.heap.size 30 j0 (.slice none 0 0) 1 24 Tryz.underlying25 hj jz0 jz1 jz2 rfl (by decide) _ _ _ rfl (World.ownsRow.alloc (el_ HXP.out.row) _) (fun _ => True) _ _ _ _ rfl (et_ rfl (by simp)) ?_ ?_ ?_ ?_ ?_; (intro u hu; simp at hu; subst hu; rfl); (unfold maxLen; omega); omega; (simp; omega); intro A' c' w3 hown' hgrow hat; obtain ⟨y0, y1, y2, y3, y4, y5, y6⟩ := b_ (bh_ HXO.out HNE.out hgrow))
  | (go_simp; go_at_call 8; refine (HD.out _ ?_).mono ?_; exact HPX.out; rintro e wd ⟨A2, c2, rfl, ho2, hb2⟩; obtain ⟨⟨d2, os2⟩, rfl⟩ := a_ hb2))
 all_goals (
  have HB2 : Below WX.heap.size WX (Go.Sort.grow (redrawn WX d2) os2) := ⟨hb2.os, hb2.tape, hb2.output, hb2.size, hb2.block⟩
  have ho3 : (Go.Sort.grow (redrawn WX d2) os2).ownsRow WX.heap.size 73 3 (.slice A2 ps.length c2) ps.length (opCells ps) := ho2
  have hR3 := bh_ HX.out.r HNR.out hgrow
  have hO3 := bh_ HXO.out HNE.out hgrow
  have hP := HXP.out.push hXz HB2 ho3 hgrow hown' hat
  have hF := bs_ HX.out.b HB2 hgrow (fun g hg => by have := (HXP.out.row.lt g hg).1; omega)
  clear hown' hgrow hat ho2 ho3 hb2 HB2 y0 y1 y2 y3 y4 y5 y6
  refine n_ (fun G => EdgeAt G O (s + 1) h A' (L3.length + 1) c' ∧ OpsOwn G WA.heap.size A' c' (L3 ++ [⟨A2, c2, ps⟩]) ∧ EdgeAt G R 0 0 none 0 0 ∧ Below w.heap.size w G) ⟨y_ hO3, hP.set2 hO3, (bH_ (by show R ≠ O; omega)).trans hR3, bSet hF (by show w.heap.size ≤ O; omega) _⟩ ?_
  rintro G ⟨hO4, hP4, hR4, hF4⟩
  clear hR3 hO3 hP hF
  obtain ⟨y0, y1, y2, y3, y4, y5, y6⟩ := b_ hO4
  obtain ⟨r0, r1, r2, q0, q1, q2, hrz⟩ := b_ hR4
  have HO4 := h_ hP4
  clear hP4
  go_wp2_with fail
  obtain ⟨hR5, hO5, hF5⟩ := hc_ (s := s + 1) (h := h) (n := L3.length + 1) hRB hRz hR4 HO4.out hF4
  clear HO4 hF4 hR4
  refine n_ (fun G => EdgeAt G R (s + 1) h A' (L3.length + 1) c' ∧ OpsOwn G WA.heap.size A' c' (L3 ++ [⟨A2, c2, ps⟩]) ∧ Below w.heap.size w G) ⟨hR5, hO5, hF5⟩ ?_
  clear hR5 hO5 hF5
  rintro G' ⟨hR5, hO5, hF5⟩
  obtain ⟨t0, t1, t2, _, _, _, _⟩ := b_ hR5
  refine bodyPost_ret (v := .tuple #[edgeV (s + 1) h A' (L3.length + 1) c', .int .i64 0]) (by simp [results, Tryz.results109, go_sem, t0, t1, t2]) rfl ?_
  exact ⟨fun h0 => absurd rfl h0, fun _ => ⟨A', c', L3 ++ [⟨A2, c2, ps⟩], by simp, by simp [HPS.out], hO5.mono hAz, hF5⟩⟩)
theorem uw_ (w : World) (s h : Int) (A : Option Addr) (c : Nat) (L : List OpV) (HT : Hid (Tabs w)) (HS : Hid (OpsIn w A L)) (HM : Hid (∀ o ∈ L, o.Small)) (B : Option Addr) (cc : Nat) (ps : List PartD) (HP : Hid (OpIn (· < w.heap.size) w B ps)) (qA : Option Addr) (qc : Nat) (qp : List PartD) (hlast : L.getLast? = some ⟨qA, qc, qp⟩) (a1 a2 b1 : Int) (hll : L.length ≤ 1048576) (hs0 : 0 ≤ s) (hs1 : s < 1048576) (_f1 : (s == 1048576) = false) (_f2 : decide (1048576 ≤ s) = false) (HC : Hid (∀ W, Tabs W → OpsIn W A L → (∀ o ∈ L, o.Small) → Calls Tryz.prog 104 #[edgeV s h A L.length c] W (R_ W (.bool true)))) (HF : Hid (∀ W, Tabs W → OpIn (· < W.heap.size) W B ps → Calls Tryz.prog 60 #[.slice B ps.length cc] W (R_ W (.int .i64 (0))))) (HL : Hid (∀ W, OpIn (· < W.heap.size) W B ps → Calls Tryz.prog 59 #[.slice B ps.length cc] W (R_ W (.tuple #[.int .i64 a1, .int .i64 a2])))) (HQ : Hid (∀ W, OpIn (· < W.heap.size) W qA qp → Calls Tryz.prog 59 #[.slice qA qp.length qc] W (R_ W (.tuple #[.int .i64 b1, .int .i64 a1])))) (HO : Hid (∀ W, OpsIn W A L → Calls Tryz.prog 17 #[edgeV s h A L.length c] W (RetEdge W s h L))) (HD : Hid (∀ W, OpIn (· < W.heap.size) W B ps → Calls Tryz.prog 8 #[.slice B ps.length cc] W (RetOp W ps))) :
 Calls Tryz.prog 109 #[edgeV s h A L.length c, .slice B ps.length cc] w (RetSent w s h L ps 0) := by
 obtain ⟨b, o, rfl, hbs, hcell, hop⟩ := da_ HS.out hlast
 have hn : decide (0 < L.length) = true := by simpa using bp_ hlast
 have hlp := bp_ hlast
 have HQI := h_ hop
 have HCL := h_ hcell
 clear hop hcell hlast
 obtain ⟨W1, hW1⟩ : ∃ W1, W1 = w.alloc (.cells #[.int .i64 s, .int .i64 h, .slice (some ⟨b, o, none⟩) L.length c] 55) := ⟨_, rfl⟩
 obtain ⟨WA, hWA⟩ : ∃ WA, WA = W1.alloc (.cells #[.int .i64 0, .int .i64 0, .slice none 0 0] 55) := ⟨_, rfl⟩
 have g1 : W1.heap.size = w.heap.size + 1 := by rw [hW1]; simp
 have g2 : WA.heap.size = W1.heap.size + 1 := by rw [hWA]; simp
 have k1 : Below w.heap.size w W1 := by rw [hW1]; exact bA_
 have k2 : Below W1.heap.size W1 WA := by rw [hWA]; exact bA_
 have HA := h_ (show SendAt w WA W1.heap.size s h (some ⟨b, o, none⟩) L.length c from ⟨(k2.block _ (by omega)).trans (by rw [hW1]; show (w.heap.push _)[w.heap.size]? = _; simp), by rw [hWA]; show (W1.heap.push _)[W1.heap.size]? = _; simp, bThen k1 k2⟩)
 have HW := h_ (show (w.alloc (.cells #[.int .i64 s, .int .i64 h, .slice (some ⟨b, o, none⟩) L.length c] 55)).alloc (.cells #[.int .i64 0, .int .i64 0, .slice none 0 0] 55) = WA by rw [hWA, hW1])
 obtain ⟨R, hR⟩ : ∃ R, R = W1.heap.size := ⟨_, rfl⟩
 have HE2 := h_ (show w.heap.size + 1 = R by omega)
 have hRB : w.heap.size < R := by omega
 have hRz : R < WA.heap.size := by omega
 rw [← hR] at HA
 clear hR k1 k2 g1 g2 hWA hW1
 go_enter Tryz.func109, Tryz.ntmps109
 go_wp2_with fail
 rw [HW.out, HE2.out]
 refine (HC.out _ (HT.out.later HA.out.b) (HS.out.later HA.out.b) HM.out).mono ?_
 rintro e w1 ⟨rfl, hb1⟩
 have H1 := h_ (HA.out.later hb1)
 have hz1 := hb1.size
 obtain ⟨e0, e1, e2, _, _, _, hez⟩ := b_ H1.out.e
 obtain ⟨r0, r1, r2, q0, q1, q2, hrz⟩ := b_ H1.out.r
 clear hb1
 have lc : w1.cell? ⟨b, o + (L.length - 1), none⟩ = some (.slice qA qp.length qc) := (H1.out.b.cell (p := ⟨b, o + (L.length - 1), none⟩) hbs).trans HCL.out
 go_wp2_with fail
 refine (HF.out _ (HT.out.later H1.out.b) (Sl.later HP.out H1.out.b)).mono ?_
 rintro e w2 ⟨rfl, hb2⟩
 have H2 := h_ (H1.out.later hb2)
 have hz2 := hb2.size
 obtain ⟨e0, e1, e2, _, _, _, hez⟩ := b_ H2.out.e
 obtain ⟨r0, r1, r2, q0, q1, q2, hrz⟩ := b_ H2.out.r
 clear hb2
 have lc : w2.cell? ⟨b, o + (L.length - 1), none⟩ = some (.slice qA qp.length qc) := (H2.out.b.cell (p := ⟨b, o + (L.length - 1), none⟩) hbs).trans HCL.out
 go_wp2_with fail
 refine (HL.out _ (Sl.later HP.out H2.out.b)).mono ?_
 rintro e w3 ⟨rfl, hb3⟩
 have H3 := h_ (H2.out.later hb3)
 have hz3 := hb3.size
 obtain ⟨e0, e1, e2, _, _, _, hez⟩ := b_ H3.out.e
 obtain ⟨r0, r1, r2, q0, q1, q2, hrz⟩ := b_ H3.out.r
 clear hb3
 have lc : w3.cell? ⟨b, o + (L.length - 1), none⟩ = some (.slice qA qp.length qc) := (H3.out.b.cell (p := ⟨b, o + (L.length - 1), none⟩) hbs).trans HCL.out
 go_wp2_with fail
 refine (HQ.out _ (Sl.later HQI.out H3.out.b)).mono ?_
 rintro e w4 ⟨rfl, hb4⟩
 have H4 := h_ (H3.out.later hb4)
 have hz4 := hb4.size
 obtain ⟨e0, e1, e2, _, _, _, hez⟩ := b_ H4.out.e
 obtain ⟨r0, r1, r2, q0, q1, q2, hrz⟩ := b_ H4.out.r
 clear hb4
 have lc : w4.cell? ⟨b, o + (L.length - 1), none⟩ = some (.slice qA qp.length qc) := (H4.out.b.cell (p := ⟨b, o + (L.length - 1), none⟩) hbs).trans HCL.out
 go_wp2_with fail
 refine (HO.out _ (HS.out.later H4.out.b)).mono ?_
 rintro e wc ⟨A3, c3, L3, rfl, hps3, hown3, hb3⟩
 have hL3 : L3.length ≤ 1048576 := by have := congrArg List.length hps3; simp at this; omega
 have HPS := h_ hps3
 obtain ⟨O, hO⟩ : ∃ O, O = wc.heap.size := ⟨_, rfl⟩
 obtain ⟨WX, hWX⟩ : ∃ WX, WX = wc.alloc (.cells #[.int .i64 (s + 1), .int .i64 h, .slice A3 L3.length c3] 55) := ⟨_, rfl⟩
 have hbX : Below wc.heap.size wc WX := by rw [hWX]; exact bA_
 have hzc := hb3.size
 have HX := h_ ((H4.out.later hb3).later hbX)
 have HXO := h_ (show EdgeAt WX O (s + 1) h A3 L3.length c3 by rw [hWX, hO]; show (wc.heap.push _)[wc.heap.size]? = _; simp)
 have HXP := h_ ((hown3.kept hbX.size (fun b _ hb => hbX.block b hb)).mono (show WA.heap.size ≤ w4.heap.size by omega))
 have HNE := h_ (m_ HXP.out.row HXO.out (by decide))
 have HNR := h_ (m_ HXP.out.row HX.out.r (by decide))
 have hXz : WA.heap.size ≤ WX.heap.size := by have := hbX.size; omega
 have hAz := HA.out.b.size
 have HWX := h_ hWX
 have hOR : R < O := by omega
 have HOO := h_ hO
 have HPX := h_ (Sl.later HP.out HX.out.b)
 obtain ⟨e0, e1, e2, _, _, _, hez⟩ := b_ (H4.out.later hb3).e
 clear hWX hbX hb3 hown3 hps3 hO hzc
 go_wp2_with fail
 rw [← HWX.out, ← HOO.out]
 obtain ⟨y0, y1, y2, y3, y4, y5, y6⟩ := b_ HXO.out
 obtain ⟨j0, hj, jz0, jz1, jz2⟩ := info_parts infoOp
 go_region_law (first
  | (refine w_ _ rfl _ _ 25 rfl WA.heap.size 30 j0 (.slice none 0 0) 1 24 Tryz.underlying25 hj jz0 jz1 jz2 rfl (by decide) _ _ _ rfl (World.ownsRow.alloc (el_ HXP.out.row) _) (fun _ => True) _ _ _ _ rfl (et_ rfl (by simp)) ?_ ?_ ?_ ?_ ?_; (intro u hu; simp at hu; subst hu; rfl); (unfold maxLen; omega); omega; (simp; omega); intro A' c' w3 hown' hgrow hat; obtain ⟨y0, y1, y2, y3, y4, y5, y6⟩ := b_ (bh_ HXO.out HNE.out hgrow))
  | (go_simp; go_at_call 8; refine (HD.out _ ?_).mono ?_; exact HPX.out; rintro e wd ⟨A2, c2, rfl, ho2, hb2⟩; obtain ⟨⟨d2, os2⟩, rfl⟩ := a_ hb2))
 all_goals (
  have HB2 : Below WX.heap.size WX (Go.Sort.grow (redrawn WX d2) os2) := ⟨hb2.os, hb2.tape, hb2.output, hb2.size, hb2.block⟩
  have ho3 : (Go.Sort.grow (redrawn WX d2) os2).ownsRow WX.heap.size 73 3 (.slice A2 ps.length c2) ps.length (opCells ps) := ho2
  have hR3 := bh_ HX.out.r HNR.out hgrow
  have hO3 := bh_ HXO.out HNE.out hgrow
  have hP := HXP.out.push hXz HB2 ho3 hgrow hown' hat
  have hF := bs_ HX.out.b HB2 hgrow (fun g hg => by have := (HXP.out.row.lt g hg).1; omega)
  clear hown' hgrow hat ho2 ho3 hb2 HB2 y0 y1 y2 y3 y4 y5 y6
  refine n_ (fun G => EdgeAt G O (s + 1) h A' (L3.length + 1) c' ∧ OpsOwn G WA.heap.size A' c' (L3 ++ [⟨A2, c2, ps⟩]) ∧ EdgeAt G R 0 0 none 0 0 ∧ Below w.heap.size w G) ⟨y_ hO3, hP.set2 hO3, (bH_ (by show R ≠ O; omega)).trans hR3, bSet hF (by show w.heap.size ≤ O; omega) _⟩ ?_
  rintro G ⟨hO4, hP4, hR4, hF4⟩
  clear hR3 hO3 hP hF
  obtain ⟨y0, y1, y2, y3, y4, y5, y6⟩ := b_ hO4
  obtain ⟨r0, r1, r2, q0, q1, q2, hrz⟩ := b_ hR4
  have HO4 := h_ hP4
  clear hP4
  go_wp2_with fail
  obtain ⟨hR5, hO5, hF5⟩ := hc_ (s := s + 1) (h := h) (n := L3.length + 1) hRB hRz hR4 HO4.out hF4
  clear HO4 hF4 hR4
  refine n_ (fun G => EdgeAt G R (s + 1) h A' (L3.length + 1) c' ∧ OpsOwn G WA.heap.size A' c' (L3 ++ [⟨A2, c2, ps⟩]) ∧ Below w.heap.size w G) ⟨hR5, hO5, hF5⟩ ?_
  clear hR5 hO5 hF5
  rintro G' ⟨hR5, hO5, hF5⟩
  obtain ⟨t0, t1, t2, _, _, _, _⟩ := b_ hR5
  refine bodyPost_ret (v := .tuple #[edgeV (s + 1) h A' (L3.length + 1) c', .int .i64 0]) (by simp [results, Tryz.results109, go_sem, t0, t1, t2]) rfl ?_
  exact ⟨fun h0 => absurd rfl h0, fun _ => ⟨A', c', L3 ++ [⟨A2, c2, ps⟩], by simp, by simp [HPS.out], hO5.mono hAz, hF5⟩⟩)
theorem uu_ (w : World) (s h : Int) (A : Option Addr) (c : Nat) (L : List OpV) (hT : Tabs w) (hs : OpsIn w A L) (hm : ∀ o ∈ L, o.Small) (hll : L.length ≤ 1048576) (B : Option Addr) (cc : Nat) (ps : List PartD) (hop : OpIn (· < w.heap.size) w B ps) (hpl : ps.length ≤ 1048576) (htt : ∀ p ∈ ps, p.text.size ≤ 1048576) :
 Calls Tryz.prog 101 #[edgeV s h A L.length c, .slice B ps.length cc] w (RetSent w s h L ps (sendErr s h L ps)) := by
 have HC := h_ (fun W hT hs hm => ge_ W s h A c L hT hs hm)
 have HF := h_ (fun W hT hs => bj_ W B cc ps hT hs hpl htt)
 have HL := h_ (fun W hs => bt_ W B cc ps hs hpl htt)
 have HO := h_ (fun W hs => own_c W s h A c L hs hll hm)
 have HD := h_ (fun W hs => cr_ W B cc ps hs hpl)
 unfold sendErr
 by_cases h1 : edgeMay s h L
 · rw [if_neg (not_not_intro h1)]
   rw [show edgeErr s h L = 0 from if_pos h1] at HC
   by_cases h2 : opFault ps = 0
   · rw [if_neg (not_not_intro h2)]
     rw [h2] at HF
     have hs0 : 0 ≤ s ∧ s ≤ 1048576 := h1.1.1
     unfold badLast
     rcases hlast : L.getLast? with _ | ⟨qA, qc, qp⟩
     · have hl0 : L.length = 0 := by rw [List.getLast?_eq_none_iff.1 hlast]; rfl
       rw [if_neg (by simp)]
       by_cases h4 : s = 1048576
       · rw [if_pos h4]
         exact rj_ w s h A c L hT hs hm B cc ps hop hl0 (by simpa using h4) (by simp; omega) HC HF
       · rw [if_neg h4]
         exact uo_ w s h A c L hT hs hm B cc ps hop hl0 hll hs0.1 (by omega) (by simpa using h4) (by simp; omega) HC HF HO HD
     · have hmem : (⟨qA, qc, qp⟩ : OpV) ∈ L := List.mem_of_getLast? hlast
       have hsm := hm _ hmem
       have HQ := h_ (fun W hs => bt_ W qA qc qp hs hsm.len hsm.text)
       dsimp only
       by_cases h3 : (lens ps).1 = (lens qp).2
       · rw [if_neg (by simpa using h3)]
         rw [← h3] at HQ
         by_cases h4 : s = 1048576
         · rw [if_pos h4]
           exact sv_ w s h A c L hT hs hm B cc ps hop qA qc qp hlast _ _ _ hll (by simpa using h4) (by simp; omega) HC HF HL HQ
         · rw [if_neg h4]
           exact xm_ w s h A c L hT hs hm B cc ps hop qA qc qp hlast _ _ _ hll hs0.1 (by omega) (by simpa using h4) (by simp; omega) HC HF HL HQ HO HD
       · rw [if_pos (by simpa using h3)]
         exact rk_ w s h A c L hT hs hm B cc ps hop qA qc qp hlast _ _ _ _ (by simpa using h3) hll HC HF HL HQ
   · rw [if_pos h2]
     exact ri_ w s h A c L hT hs hm B cc ps hop _ (by simpa using h2) HC HF
 · rw [if_pos h1]
   rw [show edgeErr s h L = 9 from if_neg h1] at HC
   exact rl_ w s h A c L hT hs hm B cc ps HC
theorem pr_ (w : World) (s h : Int) (A : Option Addr) (c : Nat) (L : List OpV) (hT : Tabs w) (hs : OpsIn w A L) (hm : ∀ o ∈ L, o.Small) (hll : L.length ≤ 1048576) (B : Option Addr) (cc : Nat) (ps : List PartD) (hop : OpIn (· < w.heap.size) w B ps) (hpl : ps.length ≤ 1048576) (htt : ∀ p ∈ ps, p.text.size ≤ 1048576) :
 Calls Tryz.prog 109 #[edgeV s h A L.length c, .slice B ps.length cc] w (RetSent w s h L ps (sendErr s h L ps)) := by
 have HC := h_ (fun W hT hs hm => hm_ W s h A c L hT hs hm)
 have HF := h_ (fun W hT hs => bc_ W B cc ps hT hs hpl htt)
 have HL := h_ (fun W hs => bi_ W B cc ps hs hpl htt)
 have HO := h_ (fun W hs => kv_ W s h A c L hs hll hm)
 have HD := h_ (fun W hs => ds_ W B cc ps hs hpl)
 unfold sendErr
 by_cases h1 : edgeMay s h L
 · rw [if_neg (not_not_intro h1)]
   rw [show edgeB s h L = true from decide_eq_true h1] at HC
   by_cases h2 : opFault ps = 0
   · rw [if_neg (not_not_intro h2)]
     rw [h2] at HF
     have hs0 : 0 ≤ s ∧ s ≤ 1048576 := h1.1.1
     unfold badLast
     rcases hlast : L.getLast? with _ | ⟨qA, qc, qp⟩
     · have hl0 : L.length = 0 := by rw [List.getLast?_eq_none_iff.1 hlast]; rfl
       rw [if_neg (by simp)]
       by_cases h4 : s = 1048576
       · rw [if_pos h4]
         exact pt_ w s h A c L hT hs hm B cc ps hop hl0 (by simpa using h4) (by simp; omega) HC HF
       · rw [if_neg h4]
         exact tk_ w s h A c L hT hs hm B cc ps hop hl0 hll hs0.1 (by omega) (by simpa using h4) (by simp; omega) HC HF HO HD
     · have hmem : (⟨qA, qc, qp⟩ : OpV) ∈ L := List.mem_of_getLast? hlast
       have hsm := hm _ hmem
       have HQ := h_ (fun W hs => bi_ W qA qc qp hs hsm.len hsm.text)
       dsimp only
       by_cases h3 : (lens ps).1 = (lens qp).2
       · rw [if_neg (by simpa using h3)]
         rw [← h3] at HQ
         by_cases h4 : s = 1048576
         · rw [if_pos h4]
           exact rq_ w s h A c L hT hs hm B cc ps hop qA qc qp hlast _ _ _ hll (by simpa using h4) (by simp; omega) HC HF HL HQ
         · rw [if_neg h4]
           exact uw_ w s h A c L hT hs hm B cc ps hop qA qc qp hlast _ _ _ hll hs0.1 (by omega) (by simpa using h4) (by simp; omega) HC HF HL HQ HO HD
       · rw [if_pos (by simpa using h3)]
         exact pu_ w s h A c L hT hs hm B cc ps hop qA qc qp hlast _ _ _ _ (by simpa using h3) hll HC HF HL HQ
   · rw [if_pos h2]
     exact ps_ w s h A c L hT hs hm B cc ps hop _ (by simpa using h2) HC HF
 · rw [if_pos h1]
   rw [show edgeB s h L = false from decide_eq_false h1] at HC
   exact pv_ w s h A c L hT hs hm B cc ps HC
end Go.Proofs.YtacacoklddogmaaGreatDoor
