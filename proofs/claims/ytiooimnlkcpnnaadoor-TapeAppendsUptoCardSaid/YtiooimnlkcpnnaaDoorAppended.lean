/-
  Contract of the reference's TapeAppended.
-/
import Derived.Test.YtiooimnlkcpnnaaDoorRows
import Derived.Test.YtiooimnlkcpnnaaDoorAppend
import Derived.Test.YtiooimnlkcpnnaaDoorHide
namespace Go.Proofs.YtiooimnlkcpnnaaDoor
open Go.ChangeShapes Go.WideShapes Go.ChangeAt Go.RowKit Go.Sort
set_option maxRecDepth 100000
theorem three_cells2 (n : Nat) (h : n ≤ 8388608) : (three n).map byteV = [.int .u8 (IntKind.u8.wrap (IntKind.i64.wrap ((n : Int) / 65536))), .int .u8 (IntKind.u8.wrap ((IntKind.i64.wrap ((n : Int) / 256)).tmod 256)), .int .u8 (IntKind.u8.wrap ((n : Int).tmod 256))] := by
  have a1 : IntKind.u8.wrap (IntKind.i64.wrap ((n : Int) / 65536)) = (n : Int) / 65536 := by
    rw [IntKind.wrap_i64, IntKind.wrap_u8]
    omega
  have a2 : IntKind.u8.wrap ((IntKind.i64.wrap ((n : Int) / 256)).tmod 256) = (n : Int) / 256 % 256 := by
    rw [show IntKind.i64.wrap ((n : Int) / 256) = (n : Int) / 256 by rw [IntKind.wrap_i64]; omega, Int.tmod_eq_emod_of_nonneg (by omega), IntKind.wrap_u8]
    omega
  have a3 : IntKind.u8.wrap ((n : Int).tmod 256) = (n : Int) % 256 := by
    rw [Int.tmod_eq_emod_of_nonneg (by omega), IntKind.wrap_u8]
    omega
  rw [a1, a2, a3]
  exact three_cells n h
theorem Appended_state (w : World) (A : Option Addr) (c : Nat) (bs : List UInt8) (sy : Int) (h : ¬ tapeOk bs sy) (ep : Int) (B : Option Addr) (n cc : Nat) :
    Calls Tryd.prog 42 #[tapeV A bs.length c sy, recordV ep B n cc] w (RetTapeE w [] 0 9) := by
  obtain ⟨W1, hW1⟩ : ∃ W1, W1 = w.alloc (.cells #[.slice A bs.length c, .int .i64 sy] 71) := ⟨_, rfl⟩
  obtain ⟨W2, hW2⟩ : ∃ W2, W2 = W1.alloc (.cells #[.int .i64 ep, .slice B n cc] 64) := ⟨_, rfl⟩
  obtain ⟨WA, hWA⟩ : ∃ WA, WA = W2.alloc (.cells #[.slice none 0 0, .int .i64 0] 71) := ⟨_, rfl⟩
  have g1 : W1.heap.size = w.heap.size + 1 := by rw [hW1]; simp
  have g2 : W2.heap.size = W1.heap.size + 1 := by rw [hW2]; simp
  have g3 : WA.heap.size = W2.heap.size + 1 := by rw [hWA]; simp
  have k1 : Below w.heap.size w W1 := by rw [hW1]; exact bAlloc (Below.refl _ _) _
  have k2 : Below W1.heap.size W1 W2 := by rw [hW2]; exact bAlloc (Below.refl _ _) _
  have k3 : Below W2.heap.size W2 WA := by rw [hWA]; exact bAlloc (Below.refl _ _) _
  have HRA := Lib.hid (show RecAt WA W1.heap.size ep B n cc from (k3.block _ (by omega)).trans (by rw [hW2]; show (W1.heap.push _)[W1.heap.size]? = _; simp))
  have HTA := Lib.hid (show TapeAt WA w.heap.size A bs.length c sy from (k3.block _ (by omega)).trans ((k2.block _ (by omega)).trans (by rw [hW1]; show (w.heap.push _)[w.heap.size]? = _; simp)))
  have HQA := Lib.hid (show TapeAt WA W2.heap.size none 0 0 0 by rw [hWA]; show (W2.heap.push _)[W2.heap.size]? = _; simp)
  have HBA := Lib.hid (bThen k1 (bThen k2 k3))
  have HW := Lib.hid (show ((w.alloc (.cells #[.slice A bs.length c, .int .i64 sy] 71)).alloc (.cells #[.int .i64 ep, .slice B n cc] 64)).alloc (.cells #[.slice none 0 0, .int .i64 0] 71) = WA by rw [hWA, hW2, hW1])
  obtain ⟨R, hR⟩ : ∃ R, R = W1.heap.size := ⟨_, rfl⟩
  obtain ⟨Q, hQ⟩ : ∃ Q, Q = W2.heap.size := ⟨_, rfl⟩
  have HE1 := Lib.hid (show w.heap.size + 1 + 1 = Q by omega)
  have HE2 := Lib.hid (show w.heap.size + 1 = R by omega)
  have hRB : w.heap.size < R := by omega
  have hBQ : R < Q := by omega
  have hQz : Q < WA.heap.size := by omega
  rw [← hR] at HRA
  rw [← hQ] at HQA
  clear hR hQ k1 k2 k3 g1 g2 g3 hWA hW2 hW1
  go_enter Tryd.func42, Tryd.ntmps42
  go_wp2_with fail
  rw [HW.out, HE1.out, HE2.out]
  refine (TapeMay_no WA A c bs sy h).mono ?_
  rintro e w1 ⟨rfl, hb1⟩
  have HB1 := Lib.hid (bThen HBA.out hb1)
  have hz1 := hb1.size
  obtain ⟨r0, r1, r2, r3, r4⟩ := two_cell ((hb1.block _ (by omega)).trans HQA.out)
  have HQ1 := Lib.hid (show TapeAt w1 Q none 0 0 0 from (hb1.block _ (by omega)).trans HQA.out)
  clear hb1
  go_wp2_with fail
  have hrw : TapeAt w1 Q none 0 0 0 := HQ1.out
  have z0 := (two_cell (two_set0 (x := .slice none 0 0) hrw)).1
  have z1 := (two_cell (two_set1 (x := .int .i64 0) (two_set0 (x := .slice none 0 0) hrw))).2.1
  refine bodyPost_ret (v := .tuple #[.agg #[.slice none 0 0, .int .i64 0], .int .i64 9]) (by simp [results, Tryd.results42, go_sem, z0, z1]) rfl ?_
  exact ⟨none, 0, rfl, World.ownsRow_nil _ _ _ _, by repeat (first | exact HB1.out | apply Below.drew | apply bSet | apply bAlloc | exact Nat.le_of_lt hRB | exact Nat.le_of_lt (Nat.lt_trans hRB hBQ))⟩
set_option maxHeartbeats 1000000 in
theorem Appended_rec (w : World) (A : Option Addr) (c : Nat) (bs : List UInt8) (sy : Int) (hs : Sl (· < w.heap.size) w 1 A bs.length (bs.map byteV)) (h : tapeOk bs sy) (HT : Hid (Tabs w)) (ep : Int) (B : Option Addr) (cc : Nat) (ps : List PartD) (hop : OpIn (· < w.heap.size) w B ps) (er : Int) (_he : (er != 0) = true)
    (HE : Hid (∀ W, Tabs W → OpIn (· < W.heap.size) W B ps → Calls Tryd.prog 106 #[recordV ep B ps.length cc] W (RetBytesE W [] er))) :
    Calls Tryd.prog 42 #[tapeV A bs.length c sy, recordV ep B ps.length cc] w (RetTapeE w [] 0 er) := by
  obtain ⟨W1, hW1⟩ : ∃ W1, W1 = w.alloc (.cells #[.slice A bs.length c, .int .i64 sy] 71) := ⟨_, rfl⟩
  obtain ⟨W2, hW2⟩ : ∃ W2, W2 = W1.alloc (.cells #[.int .i64 ep, .slice B ps.length cc] 64) := ⟨_, rfl⟩
  obtain ⟨WA, hWA⟩ : ∃ WA, WA = W2.alloc (.cells #[.slice none 0 0, .int .i64 0] 71) := ⟨_, rfl⟩
  have g1 : W1.heap.size = w.heap.size + 1 := by rw [hW1]; simp
  have g2 : W2.heap.size = W1.heap.size + 1 := by rw [hW2]; simp
  have g3 : WA.heap.size = W2.heap.size + 1 := by rw [hWA]; simp
  have k1 : Below w.heap.size w W1 := by rw [hW1]; exact bAlloc (Below.refl _ _) _
  have k2 : Below W1.heap.size W1 W2 := by rw [hW2]; exact bAlloc (Below.refl _ _) _
  have k3 : Below W2.heap.size W2 WA := by rw [hWA]; exact bAlloc (Below.refl _ _) _
  have HRA := Lib.hid (show RecAt WA W1.heap.size ep B ps.length cc from (k3.block _ (by omega)).trans (by rw [hW2]; show (W1.heap.push _)[W1.heap.size]? = _; simp))
  have HTA := Lib.hid (show TapeAt WA w.heap.size A bs.length c sy from (k3.block _ (by omega)).trans ((k2.block _ (by omega)).trans (by rw [hW1]; show (w.heap.push _)[w.heap.size]? = _; simp)))
  have HQA := Lib.hid (show TapeAt WA W2.heap.size none 0 0 0 by rw [hWA]; show (W2.heap.push _)[W2.heap.size]? = _; simp)
  have HBA := Lib.hid (bThen k1 (bThen k2 k3))
  have HW := Lib.hid (show ((w.alloc (.cells #[.slice A bs.length c, .int .i64 sy] 71)).alloc (.cells #[.int .i64 ep, .slice B ps.length cc] 64)).alloc (.cells #[.slice none 0 0, .int .i64 0] 71) = WA by rw [hWA, hW2, hW1])
  obtain ⟨R, hR⟩ : ∃ R, R = W1.heap.size := ⟨_, rfl⟩
  obtain ⟨Q, hQ⟩ : ∃ Q, Q = W2.heap.size := ⟨_, rfl⟩
  have HE1 := Lib.hid (show w.heap.size + 1 + 1 = Q by omega)
  have HE2 := Lib.hid (show w.heap.size + 1 = R by omega)
  have hRB : w.heap.size < R := by omega
  have hBQ : R < Q := by omega
  have hQz : Q < WA.heap.size := by omega
  rw [← hR] at HRA
  rw [← hQ] at HQA
  clear hR hQ k1 k2 k3 g1 g2 g3 hWA hW2 hW1
  go_enter Tryd.func42, Tryd.ntmps42
  go_wp2_with fail
  rw [HW.out, HE1.out, HE2.out]
  refine (TapeMay_ok WA A c bs sy h).mono ?_
  rintro e w1 ⟨rfl, hb1⟩
  have HB1 := Lib.hid (bThen HBA.out hb1)
  have hz1 := hb1.size
  obtain ⟨r0, r1, r2, r3, r4⟩ := two_cell ((hb1.block _ (by omega)).trans HQA.out)
  obtain ⟨s0, s1, s2, s3, s4⟩ := two_cell ((hb1.block _ (by omega)).trans HRA.out)
  have HQ1 := Lib.hid (show TapeAt w1 Q none 0 0 0 from (hb1.block _ (by omega)).trans HQA.out)
  have HT1 := Lib.hid (show TapeAt w1 w.heap.size A bs.length c sy from (hb1.block _ (by omega)).trans HTA.out)
  clear hb1
  go_wp2_with fail
  refine (HE.out w1 (HT.out.later HB1.out) (Sl.later hop HB1.out)).mono ?_
  rintro e w2 ⟨A2, c2, rfl, ho2, hb2⟩
  have hz2 := hb2.size
  obtain ⟨t0, t1, t2, t3, t4⟩ := two_cell ((hb2.block _ (by omega)).trans HT1.out)
  obtain ⟨r0, r1, r2, r3, r4⟩ := two_cell ((hb2.block _ (by omega)).trans HQ1.out)
  have HQ2 := Lib.hid (show TapeAt w2 Q none 0 0 0 from (hb2.block _ (by omega)).trans HQ1.out)
  have HT2 := Lib.hid (show TapeAt w2 w.heap.size A bs.length c sy from (hb2.block _ (by omega)).trans HT1.out)
  have HB2 := Lib.hid (bThen HB1.out hb2)
  have HO2 := Lib.hid (Sl.later hs HB2.out)
  have HP2 := Lib.hid (own_sl ho2)
  clear hb2 ho2
  go_wp2_with fail
  have hrw : TapeAt w2 Q none 0 0 0 := HQ2.out
  have z0 := (two_cell (two_set0 (x := .slice none 0 0) hrw)).1
  have z1 := (two_cell (two_set1 (x := .int .i64 0) (two_set0 (x := .slice none 0 0) hrw))).2.1
  refine bodyPost_ret (v := .tuple #[.agg #[.slice none 0 0, .int .i64 0], .int .i64 er]) (by simp [results, Tryd.results42, go_sem, z0, z1]) rfl ?_
  exact ⟨none, 0, rfl, World.ownsRow_nil _ _ _ _, by repeat (first | exact HB2.out | apply Below.drew | apply bSet | apply bAlloc | exact Nat.le_of_lt hRB | exact Nat.le_of_lt (Nat.lt_trans hRB hBQ))⟩
set_option maxHeartbeats 1000000 in
theorem Appended_full (w : World) (A : Option Addr) (c : Nat) (bs : List UInt8) (sy : Int) (hs : Sl (· < w.heap.size) w 1 A bs.length (bs.map byteV)) (h : tapeOk bs sy) (HT : Hid (Tabs w)) (ep : Int) (B : Option Addr) (cc : Nat) (ps : List PartD) (hop : OpIn (· < w.heap.size) w B ps) (rs : List UInt8) (hrs : rs.length ≤ 9000000100) (_hf : 8388608 < bs.length + 3 + rs.length)
    (HE : Hid (∀ W, Tabs W → OpIn (· < W.heap.size) W B ps → Calls Tryd.prog 106 #[recordV ep B ps.length cc] W (RetBytesE W rs 0))) :
    Calls Tryd.prog 42 #[tapeV A bs.length c sy, recordV ep B ps.length cc] w (RetTapeE w [] 0 8) := by
  have hbl := h.2.2
  have e1 : decide ((8388608 : Int) < (bs.length : Int) + 3 + (rs.length : Int)) = true := by simp; omega
  obtain ⟨W1, hW1⟩ : ∃ W1, W1 = w.alloc (.cells #[.slice A bs.length c, .int .i64 sy] 71) := ⟨_, rfl⟩
  obtain ⟨W2, hW2⟩ : ∃ W2, W2 = W1.alloc (.cells #[.int .i64 ep, .slice B ps.length cc] 64) := ⟨_, rfl⟩
  obtain ⟨WA, hWA⟩ : ∃ WA, WA = W2.alloc (.cells #[.slice none 0 0, .int .i64 0] 71) := ⟨_, rfl⟩
  have g1 : W1.heap.size = w.heap.size + 1 := by rw [hW1]; simp
  have g2 : W2.heap.size = W1.heap.size + 1 := by rw [hW2]; simp
  have g3 : WA.heap.size = W2.heap.size + 1 := by rw [hWA]; simp
  have k1 : Below w.heap.size w W1 := by rw [hW1]; exact bAlloc (Below.refl _ _) _
  have k2 : Below W1.heap.size W1 W2 := by rw [hW2]; exact bAlloc (Below.refl _ _) _
  have k3 : Below W2.heap.size W2 WA := by rw [hWA]; exact bAlloc (Below.refl _ _) _
  have HRA := Lib.hid (show RecAt WA W1.heap.size ep B ps.length cc from (k3.block _ (by omega)).trans (by rw [hW2]; show (W1.heap.push _)[W1.heap.size]? = _; simp))
  have HTA := Lib.hid (show TapeAt WA w.heap.size A bs.length c sy from (k3.block _ (by omega)).trans ((k2.block _ (by omega)).trans (by rw [hW1]; show (w.heap.push _)[w.heap.size]? = _; simp)))
  have HQA := Lib.hid (show TapeAt WA W2.heap.size none 0 0 0 by rw [hWA]; show (W2.heap.push _)[W2.heap.size]? = _; simp)
  have HBA := Lib.hid (bThen k1 (bThen k2 k3))
  have HW := Lib.hid (show ((w.alloc (.cells #[.slice A bs.length c, .int .i64 sy] 71)).alloc (.cells #[.int .i64 ep, .slice B ps.length cc] 64)).alloc (.cells #[.slice none 0 0, .int .i64 0] 71) = WA by rw [hWA, hW2, hW1])
  obtain ⟨R, hR⟩ : ∃ R, R = W1.heap.size := ⟨_, rfl⟩
  obtain ⟨Q, hQ⟩ : ∃ Q, Q = W2.heap.size := ⟨_, rfl⟩
  have HE1 := Lib.hid (show w.heap.size + 1 + 1 = Q by omega)
  have HE2 := Lib.hid (show w.heap.size + 1 = R by omega)
  have hRB : w.heap.size < R := by omega
  have hBQ : R < Q := by omega
  have hQz : Q < WA.heap.size := by omega
  rw [← hR] at HRA
  rw [← hQ] at HQA
  clear hR hQ k1 k2 k3 g1 g2 g3 hWA hW2 hW1
  go_enter Tryd.func42, Tryd.ntmps42
  go_wp2_with fail
  rw [HW.out, HE1.out, HE2.out]
  refine (TapeMay_ok WA A c bs sy h).mono ?_
  rintro e w1 ⟨rfl, hb1⟩
  have HB1 := Lib.hid (bThen HBA.out hb1)
  have hz1 := hb1.size
  obtain ⟨r0, r1, r2, r3, r4⟩ := two_cell ((hb1.block _ (by omega)).trans HQA.out)
  obtain ⟨s0, s1, s2, s3, s4⟩ := two_cell ((hb1.block _ (by omega)).trans HRA.out)
  have HQ1 := Lib.hid (show TapeAt w1 Q none 0 0 0 from (hb1.block _ (by omega)).trans HQA.out)
  have HT1 := Lib.hid (show TapeAt w1 w.heap.size A bs.length c sy from (hb1.block _ (by omega)).trans HTA.out)
  clear hb1
  go_wp2_with fail
  refine (HE.out w1 (HT.out.later HB1.out) (Sl.later hop HB1.out)).mono ?_
  rintro e w2 ⟨A2, c2, rfl, ho2, hb2⟩
  have hz2 := hb2.size
  obtain ⟨t0, t1, t2, t3, t4⟩ := two_cell ((hb2.block _ (by omega)).trans HT1.out)
  obtain ⟨r0, r1, r2, r3, r4⟩ := two_cell ((hb2.block _ (by omega)).trans HQ1.out)
  have HQ2 := Lib.hid (show TapeAt w2 Q none 0 0 0 from (hb2.block _ (by omega)).trans HQ1.out)
  have HT2 := Lib.hid (show TapeAt w2 w.heap.size A bs.length c sy from (hb2.block _ (by omega)).trans HT1.out)
  have HB2 := Lib.hid (bThen HB1.out hb2)
  have HO2 := Lib.hid (Sl.later hs HB2.out)
  have HP2 := Lib.hid (own_sl ho2)
  clear hb2 ho2
  go_wp2_with fail
  have hrw : TapeAt w2 Q none 0 0 0 := HQ2.out
  have z0 := (two_cell (two_set0 (x := .slice none 0 0) hrw)).1
  have z1 := (two_cell (two_set1 (x := .int .i64 0) (two_set0 (x := .slice none 0 0) hrw))).2.1
  refine bodyPost_ret (v := .tuple #[.agg #[.slice none 0 0, .int .i64 0], .int .i64 8]) (by simp [results, Tryd.results42, go_sem, z0, z1]) rfl ?_
  exact ⟨none, 0, rfl, World.ownsRow_nil _ _ _ _, by repeat (first | exact HB2.out | apply Below.drew | apply bSet | apply bAlloc | exact Nat.le_of_lt hRB | exact Nat.le_of_lt (Nat.lt_trans hRB hBQ))⟩
set_option maxHeartbeats 1000000 in
theorem Appended_ok (w : World) (A : Option Addr) (c : Nat) (bs : List UInt8) (sy : Int) (hs : Sl (· < w.heap.size) w 1 A bs.length (bs.map byteV)) (h : tapeOk bs sy) (HT : Hid (Tabs w)) (ep : Int) (B : Option Addr) (cc : Nat) (ps : List PartD) (hop : OpIn (· < w.heap.size) w B ps) (rs : List UInt8) (hf : bs.length + 3 + rs.length ≤ 8388608)
    (HE : Hid (∀ W, Tabs W → OpIn (· < W.heap.size) W B ps → Calls Tryd.prog 106 #[recordV ep B ps.length cc] W (RetBytesE W rs 0))) :
    Calls Tryd.prog 42 #[tapeV A bs.length c sy, recordV ep B ps.length cc] w (RetTapeE w (bs ++ three rs.length ++ rs) sy 0) := by
  have e1 : decide ((8388608 : Int) < (bs.length : Int) + 3 + (rs.length : Int)) = false := by simp; omega
  obtain ⟨W1, hW1⟩ : ∃ W1, W1 = w.alloc (.cells #[.slice A bs.length c, .int .i64 sy] 71) := ⟨_, rfl⟩
  obtain ⟨W2, hW2⟩ : ∃ W2, W2 = W1.alloc (.cells #[.int .i64 ep, .slice B ps.length cc] 64) := ⟨_, rfl⟩
  obtain ⟨WA, hWA⟩ : ∃ WA, WA = W2.alloc (.cells #[.slice none 0 0, .int .i64 0] 71) := ⟨_, rfl⟩
  have g1 : W1.heap.size = w.heap.size + 1 := by rw [hW1]; simp
  have g2 : W2.heap.size = W1.heap.size + 1 := by rw [hW2]; simp
  have g3 : WA.heap.size = W2.heap.size + 1 := by rw [hWA]; simp
  have k1 : Below w.heap.size w W1 := by rw [hW1]; exact bAlloc (Below.refl _ _) _
  have k2 : Below W1.heap.size W1 W2 := by rw [hW2]; exact bAlloc (Below.refl _ _) _
  have k3 : Below W2.heap.size W2 WA := by rw [hWA]; exact bAlloc (Below.refl _ _) _
  have HRA := Lib.hid (show RecAt WA W1.heap.size ep B ps.length cc from (k3.block _ (by omega)).trans (by rw [hW2]; show (W1.heap.push _)[W1.heap.size]? = _; simp))
  have HTA := Lib.hid (show TapeAt WA w.heap.size A bs.length c sy from (k3.block _ (by omega)).trans ((k2.block _ (by omega)).trans (by rw [hW1]; show (w.heap.push _)[w.heap.size]? = _; simp)))
  have HQA := Lib.hid (show TapeAt WA W2.heap.size none 0 0 0 by rw [hWA]; show (W2.heap.push _)[W2.heap.size]? = _; simp)
  have HBA := Lib.hid (bThen k1 (bThen k2 k3))
  have HW := Lib.hid (show ((w.alloc (.cells #[.slice A bs.length c, .int .i64 sy] 71)).alloc (.cells #[.int .i64 ep, .slice B ps.length cc] 64)).alloc (.cells #[.slice none 0 0, .int .i64 0] 71) = WA by rw [hWA, hW2, hW1])
  obtain ⟨R, hR⟩ : ∃ R, R = W1.heap.size := ⟨_, rfl⟩
  obtain ⟨Q, hQ⟩ : ∃ Q, Q = W2.heap.size := ⟨_, rfl⟩
  have HE1 := Lib.hid (show w.heap.size + 1 + 1 = Q by omega)
  have HE2 := Lib.hid (show w.heap.size + 1 = R by omega)
  have hRB : w.heap.size < R := by omega
  have hBQ : R < Q := by omega
  have hQz : Q < WA.heap.size := by omega
  rw [← hR] at HRA
  rw [← hQ] at HQA
  clear hR hQ k1 k2 k3 g1 g2 g3 hWA hW2 hW1
  go_enter Tryd.func42, Tryd.ntmps42
  go_wp2_with fail
  rw [HW.out, HE1.out, HE2.out]
  refine (TapeMay_ok WA A c bs sy h).mono ?_
  rintro e w1 ⟨rfl, hb1⟩
  have HB1 := Lib.hid (bThen HBA.out hb1)
  have hz1 := hb1.size
  obtain ⟨r0, r1, r2, r3, r4⟩ := two_cell ((hb1.block _ (by omega)).trans HQA.out)
  obtain ⟨s0, s1, s2, s3, s4⟩ := two_cell ((hb1.block _ (by omega)).trans HRA.out)
  have HQ1 := Lib.hid (show TapeAt w1 Q none 0 0 0 from (hb1.block _ (by omega)).trans HQA.out)
  have HT1 := Lib.hid (show TapeAt w1 w.heap.size A bs.length c sy from (hb1.block _ (by omega)).trans HTA.out)
  clear hb1
  go_wp2_with fail
  refine (HE.out w1 (HT.out.later HB1.out) (Sl.later hop HB1.out)).mono ?_
  rintro e w2 ⟨A2, c2, rfl, ho2, hb2⟩
  have hz2 := hb2.size
  obtain ⟨t0, t1, t2, t3, t4⟩ := two_cell ((hb2.block _ (by omega)).trans HT1.out)
  obtain ⟨r0, r1, r2, r3, r4⟩ := two_cell ((hb2.block _ (by omega)).trans HQ1.out)
  have HQ2 := Lib.hid (show TapeAt w2 Q none 0 0 0 from (hb2.block _ (by omega)).trans HQ1.out)
  have HT2 := Lib.hid (show TapeAt w2 w.heap.size A bs.length c sy from (hb2.block _ (by omega)).trans HT1.out)
  have HB2 := Lib.hid (bThen HB1.out hb2)
  have HO2 := Lib.hid (Sl.later hs HB2.out)
  have HP2 := Lib.hid (own_sl ho2)
  clear hb2 ho2
  have HC3 := Lib.hid (three_cells2 rs.length (by omega))
  have HD := Lib.hid (show ∀ (X : World) (o : Obj), (X.alloc o).drew = X.drew.alloc o from fun _ _ => rfl)
  have HL3 := Lib.hid (show (three rs.length).length = 3 from rfl)
  have n1 : ¬ w.heap.size = Q := by omega
  have n2 : ¬ Q = w.heap.size := by omega
  go_wp2_with fail
  have hkeep : ∀ (W : World) (d : Nat) (os : Array Obj) (o1 o2 : Obj) (u v : Value), W = w2 ∨ W = w2.drew → ((grow (redrawn ((((W.setCell ⟨Q, 0, none⟩ u).setCell ⟨Q, 1, none⟩ v).alloc o1).alloc o2) d) os).cell? ⟨w.heap.size, 0, none⟩ = some (.slice A bs.length c)) ∧ ((grow (redrawn ((((W.setCell ⟨Q, 0, none⟩ u).setCell ⟨Q, 1, none⟩ v).alloc o1).alloc o2) d) os).cell? ⟨w.heap.size, 1, none⟩ = some (.int .i64 sy)) := by
    intro W d os o1 o2 u v hW
    have hWh : W.heap = w2.heap := by rcases hW with q | q <;> rw [q] <;> rfl
    have h1 : W.heap[w.heap.size]? = some (.cells #[.slice A bs.length c, .int .i64 sy] 71 (0, 0)) := by rw [hWh]; exact HT2.out
    have hsz : w.heap.size < W.heap.size := by rw [hWh]; omega
    have h2 := (Below.heap_setCell (W.setCell ⟨Q, 0, none⟩ u) ⟨Q, 1, none⟩ v w.heap.size n1).trans ((Below.heap_setCell W ⟨Q, 0, none⟩ u w.heap.size n1).trans h1)
    have h3 := (heap_alloc_old _ o2 w.heap.size (by simp [World.setCell]; omega)).trans ((heap_alloc_old _ o1 w.heap.size (by simp [World.setCell]; omega)).trans h2)
    have h4 := ((below_regrown _ d os).block w.heap.size (by simp [World.setCell]; omega)).trans h3
    exact ⟨(two_cell h4).1, (two_cell h4).2.1⟩
  have hfin : ∀ (W : World) (d : Nat) (os : Array Obj) (o1 o2 : Obj) (u v : Value), W = w2 ∨ W = w2.drew → ((grow (redrawn ((((W.setCell ⟨Q, 0, none⟩ u).setCell ⟨Q, 1, none⟩ v).alloc o1).alloc o2) d) os).heap[Q]? = some (.cells #[u, v] 71 (0, 0))) ∧ Below w.heap.size w (grow (redrawn ((((W.setCell ⟨Q, 0, none⟩ u).setCell ⟨Q, 1, none⟩ v).alloc o1).alloc o2) d) os) := by
    intro W d os o1 o2 u v hW
    have hWh : W.heap = w2.heap := by rcases hW with q | q <;> rw [q] <;> rfl
    have h1 : W.heap[Q]? = some (.cells #[.slice none 0 0, .int .i64 0] 71 (0, 0)) := by rw [hWh]; exact HQ2.out
    have hsz : Q < W.heap.size := by rw [hWh]; omega
    have h3 := (heap_alloc_old _ o2 Q (by simp [World.setCell]; omega)).trans ((heap_alloc_old _ o1 Q (by simp [World.setCell]; omega)).trans (two_set1 (x := v) (two_set0 (x := u) h1)))
    have h4 := ((below_regrown _ d os).block Q (by simp [World.setCell]; omega)).trans h3
    have h5 : Below w.heap.size w W := by rcases hW with q | q <;> rw [q]; exact HB2.out; exact HB2.out.drew
    exact ⟨h4, bGrow (bAlloc (bAlloc (bSet (bSet h5 (p := ⟨Q, 0, none⟩) (show w.heap.size ≤ Q by omega) _) (p := ⟨Q, 1, none⟩) (show w.heap.size ≤ Q by omega) _) _) _) d os⟩
  have HK := Lib.hid hkeep
  have HFN := Lib.hid hfin
  clear hkeep hfin
  go_region_held3 (fun w' => w'.cell? ⟨w.heap.size, 0, none⟩ = some (.slice A bs.length c) ∧ w'.cell? ⟨w.heap.size, 1, none⟩ = some (.int .i64 sy))
    (first | with_reducible exact HK.out _ _ _ _ _ _ _ (.inl rfl) | with_reducible exact HK.out _ _ _ _ _ _ _ (.inr rfl) | go_keep)
    ((go_at_call 90; rw [HD.out]; refine (joined_three _ _ _ _ _ _ _ _ _ _ _ _ bs (three rs.length) rs _ ?_ rfl HL3.out.symm rfl ?_ ?_ ?_ ?_).mono ?_; simp; (exact Sl.later HO2.out (by repeat (first | exact Below.refl _ _ | apply bGrow | apply bAlloc | apply Below.drew | apply bDrewN | apply bIter))); (rw [HC3.out]; exact Sl.new _ _ _ 1 3 rfl (by simp)); (exact Sl.later HP2.out (by repeat (first | exact Below.refl _ _ | apply bGrow | apply bAlloc | apply Below.drew | apply bDrewN | apply bIter))); (show bs.length + 3 + rs.length ≤ _; omega); rintro e w3 ⟨A3, c3, rfl, ho3, hb3⟩; obtain ⟨⟨d3, os3⟩, rfl⟩ := beyond_of hb3))
  refine post_hide (fun G => TapeAt G Q A3 (bs.length + ((three rs.length).length + rs.length)) c3 sy ∧ Below w.heap.size w G ∧ G.ownsRow w.heap.size 5 1 (.slice A3 (bs ++ three rs.length ++ rs).length c3) (bs ++ three rs.length ++ rs).length ((bs ++ three rs.length ++ rs).map byteV)) ⟨?_, ?_, ?_⟩ ?_
  · first | exact (HFN.out _ _ _ _ _ _ _ (.inl rfl)).1 | exact (HFN.out _ _ _ _ _ _ _ (.inr rfl)).1
  · first | exact (HFN.out _ _ _ _ _ _ _ (.inl rfl)).2 | exact (HFN.out _ _ _ _ _ _ _ (.inr rfl)).2
  · exact own_swap (by simp [World.setCell]) (Nat.le_refl _) (by simp; omega) ho3
  clear ho3 hb3
  rintro G ⟨hG1, hG2, hG3⟩
  obtain ⟨x0, x1, x2, x3, x4⟩ := two_cell hG1
  have HG2 := Lib.hid hG2
  have HG3 := Lib.hid hG3
  clear hG1 hG2 hG3
  go_wp2_with fail
  refine bodyPost_ret (v := .tuple #[.agg #[.slice A3 (bs.length + ((three rs.length).length + rs.length)) c3, .int .i64 sy], .int .i64 0]) (by simp [results, Tryd.results42, go_sem, x0, x1]) rfl ?_
  exact ⟨A3, c3, by simp, HG3.out, HG2.out⟩
end Go.Proofs.YtiooimnlkcpnnaaDoor
