/-
  Contracts of tape.Append.
-/
import Derived.Test.YtiooimnlkcpnnaaDoorRows
import Derived.Test.YtiooimnlkcpnnaaDoorConcat
import Derived.Test.YtiooimnlkcpnnaaDoorRecords
import Derived.Test.YtiooimnlkcpnnaaDoorReads
namespace Go.Proofs.YtiooimnlkcpnnaaDoor
open Go.ChangeShapes Go.WideShapes Go.ChangeAt Go.RowKit
set_option maxRecDepth 100000
/-- The block of a tape's own two cells. -/
abbrev TapeAt (w : World) (P : Nat) (A : Option Addr) (n c : Nat) (sy : Int) : Prop := w.heap[P]? = some (.cells #[.slice A n c, .int .i64 sy] 71 (0, 0))
theorem concat_three (W : World) (A A1 A2 A3 : Option Addr) (c c1 c2 c3 n1 n2 n3 : Nat) (b1 b2 b3 : List UInt8) (t : TypeId) (hA : A = some ⟨W.heap.size, 0, none⟩) (e1 : n1 = b1.length) (e2 : n2 = b2.length) (e3 : n3 = b3.length)
    (h1 : Sl (· < W.heap.size) W 1 A1 n1 (b1.map byteV)) (h2 : Sl (· < W.heap.size) W 1 A2 n2 (b2.map byteV)) (h3 : Sl (· < W.heap.size) W 1 A3 n3 (b3.map byteV)) (hf : b1.length + b2.length + b3.length ≤ 140737488351232) :
    Calls Tryd.prog 104 #[.slice A 3 c] (W.alloc (.cells #[.slice A1 n1 c1, .slice A2 n2 c2, .slice A3 n3 c3] t)) (RetBytes (W.alloc (.cells #[.slice A1 n1 c1, .slice A2 n2 c2, .slice A3 n3 c3] t)) (b1 ++ b2 ++ b3)) := by
  subst hA e1 e2 e3
  have h := Concat_c (W.alloc (.cells (([⟨A1, c1, b1⟩, ⟨A2, c2, b2⟩, ⟨A3, c3, b3⟩] : List Bsl).map Bsl.val).toArray t)) (some ⟨W.heap.size, 0, none⟩) c (([⟨A1, c1, b1⟩, ⟨A2, c2, b2⟩, ⟨A3, c3, b3⟩] : List Bsl).map Bsl.bs) (bss_list _ (by
    intro x hx
    simp only [List.mem_cons, List.not_mem_nil, or_false] at hx
    rcases hx with rfl | rfl | rfl
    · exact h1
    · exact h2
    · exact h3)) (by simp) (by simp; omega)
  have e : (([⟨A1, c1, b1⟩, ⟨A2, c2, b2⟩, ⟨A3, c3, b3⟩] : List Bsl).map Bsl.bs).flatten = b1 ++ b2 ++ b3 := by simp
  rw [e] at h
  exact h
/-- A number's three bytes, the highest first. -/
def three (n : Nat) : List UInt8 := [UInt8.ofNat (n / 65536), UInt8.ofNat (n / 256), UInt8.ofNat n]
theorem three_cells (n : Nat) (h : n ≤ 8388608) : (three n).map byteV = [.int .u8 ((n : Int) / 65536), .int .u8 ((n : Int) / 256 % 256), .int .u8 ((n : Int) % 256)] := by
  unfold three
  simp only [List.map_cons, List.map_nil, byteV, UInt8.toNat_ofNat']
  congr 1
  congr 1; omega
theorem Append_state (w : World) (A : Option Addr) (c : Nat) (bs : List UInt8) (sy : Int) (h : ¬ tapeOk bs sy) (hm : bs.length ≤ 140737488351232) (ep : Int) (B : Option Addr) (n cc : Nat) :
    Calls Tryd.prog 41 #[tapeV A bs.length c sy, recordV ep B n cc] w (RetTapeE w [] 0 9) := by
  obtain ⟨W1, hW1⟩ : ∃ W1, W1 = w.alloc (.cells #[.slice A bs.length c, .int .i64 sy] 71) := ⟨_, rfl⟩
  obtain ⟨W2, hW2⟩ : ∃ W2, W2 = W1.alloc (.cells #[.int .i64 ep, .slice B n cc] 64) := ⟨_, rfl⟩
  obtain ⟨WA, hWA⟩ : ∃ WA, WA = W2.alloc (.cells #[.slice none 0 0, .int .i64 0] 71) := ⟨_, rfl⟩
  have g1 : W1.heap.size = w.heap.size + 1 := by rw [hW1]; simp
  have g2 : W2.heap.size = W1.heap.size + 1 := by rw [hW2]; simp
  have g3 : WA.heap.size = W2.heap.size + 1 := by rw [hWA]; simp
  have k1 : Below w.heap.size w W1 := by rw [hW1]; exact bAlloc (Below.refl _ _) _
  have k2 : Below W1.heap.size W1 W2 := by rw [hW2]; exact bAlloc (Below.refl _ _) _
  have k3 : Below W2.heap.size W2 WA := by rw [hWA]; exact bAlloc (Below.refl _ _) _
  have HRA := Lib.hid (show RecAt WA W1.heap.size ep B n cc from (k3.block _ (by omega)).trans (by rw [hW2]; show (W1.heap.push _)[W1.heap.size]? = _; simp))
  have HQA := Lib.hid (show TapeAt WA W2.heap.size none 0 0 0 by rw [hWA]; show (W2.heap.push _)[W2.heap.size]? = _; simp)
  have HBA := Lib.hid (bThen k1 (bThen k2 k3))
  have HW := Lib.hid (show ((w.alloc (.cells #[.slice A bs.length c, .int .i64 sy] 71)).alloc (.cells #[.int .i64 ep, .slice B n cc] 64)).alloc (.cells #[.slice none 0 0, .int .i64 0] 71) = WA by rw [hWA, hW2, hW1])
  obtain ⟨R, hR⟩ : ∃ R, R = W1.heap.size := ⟨_, rfl⟩
  obtain ⟨Q, hQ⟩ : ∃ Q, Q = W2.heap.size := ⟨_, rfl⟩
  have HE1 := Lib.hid (show w.heap.size + 1 + 1 = Q by omega)
  have HE2 := Lib.hid (show w.heap.size + 1 = R by omega)
  have hRB : w.heap.size < R := by omega
  have hBQ : R < Q := by omega
  have hQz : Q < WA.heap.size := by omega
  rw [← hR] at HRA
  rw [← hQ] at HQA
  clear hR hQ k1 k2 k3 g1 g2 g3 hWA hW2 hW1
  go_enter Tryd.func41, Tryd.ntmps41
  go_wp2_with fail
  rw [HW.out, HE1.out, HE2.out]
  refine (open_no WA A c bs sy h hm).mono ?_
  rintro e w1 ⟨rfl, hb1⟩
  have HB1 := Lib.hid (bThen HBA.out hb1)
  have hz1 := hb1.size
  obtain ⟨r0, r1, r2, r3, r4⟩ := two_cell ((hb1.block _ (by omega)).trans HQA.out)
  have HQ1 := Lib.hid (show TapeAt w1 Q none 0 0 0 from (hb1.block _ (by omega)).trans HQA.out)
  clear hb1
  go_wp2_with fail
  have hall : TapeAt (((w1.setCell ⟨Q, 0, none⟩ (.slice none 0 0)).setCell ⟨Q, 1, none⟩ (.int .i64 0)).alloc (.cells #[.slice none 0 0, .int .i64 0] 71)) Q none 0 0 0 := (heap_alloc_old _ _ Q (by simp [World.setCell]; omega)).trans (two_set1 (two_set0 HQ1.out))
  have z0 := (two_cell hall).1
  have z1 := (two_cell hall).2.1
  refine bodyPost_ret (v := .tuple #[.agg #[.slice none 0 0, .int .i64 0], .int .i64 9]) (by simp [results, Tryd.results41, go_sem, z0, z1]) rfl ?_
  exact ⟨none, 0, rfl, World.ownsRow_nil _ _ _ _, by repeat (first | exact HB1.out | apply Below.drew | apply bSet | apply bAlloc | exact Nat.le_of_lt hRB | exact Nat.le_of_lt (Nat.lt_trans hRB hBQ))⟩
set_option maxHeartbeats 1000000 in
theorem Append_rec (w : World) (A : Option Addr) (c : Nat) (bs : List UInt8) (sy : Int) (hs : Sl (· < w.heap.size) w 1 A bs.length (bs.map byteV)) (h : tapeOk bs sy) (HT : Hid (Tabs w)) (ep : Int) (B : Option Addr) (cc : Nat) (ps : List PartD) (hop : OpIn (· < w.heap.size) w B ps) (er : Int) (_he : (er != 0) = true)
    (HE : Hid (∀ W, Tabs W → OpIn (· < W.heap.size) W B ps → Calls Tryd.prog 103 #[recordV ep B ps.length cc] W (RetBytesE W [] er))) :
    Calls Tryd.prog 41 #[tapeV A bs.length c sy, recordV ep B ps.length cc] w (RetTapeE w [] 0 er) := by
  obtain ⟨W1, hW1⟩ : ∃ W1, W1 = w.alloc (.cells #[.slice A bs.length c, .int .i64 sy] 71) := ⟨_, rfl⟩
  obtain ⟨W2, hW2⟩ : ∃ W2, W2 = W1.alloc (.cells #[.int .i64 ep, .slice B ps.length cc] 64) := ⟨_, rfl⟩
  obtain ⟨WA, hWA⟩ : ∃ WA, WA = W2.alloc (.cells #[.slice none 0 0, .int .i64 0] 71) := ⟨_, rfl⟩
  have g1 : W1.heap.size = w.heap.size + 1 := by rw [hW1]; simp
  have g2 : W2.heap.size = W1.heap.size + 1 := by rw [hW2]; simp
  have g3 : WA.heap.size = W2.heap.size + 1 := by rw [hWA]; simp
  have k1 : Below w.heap.size w W1 := by rw [hW1]; exact bAlloc (Below.refl _ _) _
  have k2 : Below W1.heap.size W1 W2 := by rw [hW2]; exact bAlloc (Below.refl _ _) _
  have k3 : Below W2.heap.size W2 WA := by rw [hWA]; exact bAlloc (Below.refl _ _) _
  have HRA := Lib.hid (show RecAt WA W1.heap.size ep B ps.length cc from (k3.block _ (by omega)).trans (by rw [hW2]; show (W1.heap.push _)[W1.heap.size]? = _; simp))
  have HQA := Lib.hid (show TapeAt WA W2.heap.size none 0 0 0 by rw [hWA]; show (W2.heap.push _)[W2.heap.size]? = _; simp)
  have HBA := Lib.hid (bThen k1 (bThen k2 k3))
  have HW := Lib.hid (show ((w.alloc (.cells #[.slice A bs.length c, .int .i64 sy] 71)).alloc (.cells #[.int .i64 ep, .slice B ps.length cc] 64)).alloc (.cells #[.slice none 0 0, .int .i64 0] 71) = WA by rw [hWA, hW2, hW1])
  obtain ⟨R, hR⟩ : ∃ R, R = W1.heap.size := ⟨_, rfl⟩
  obtain ⟨Q, hQ⟩ : ∃ Q, Q = W2.heap.size := ⟨_, rfl⟩
  have HE1 := Lib.hid (show w.heap.size + 1 + 1 = Q by omega)
  have HE2 := Lib.hid (show w.heap.size + 1 = R by omega)
  have hRB : w.heap.size < R := by omega
  have hBQ : R < Q := by omega
  have hQz : Q < WA.heap.size := by omega
  rw [← hR] at HRA
  rw [← hQ] at HQA
  clear hR hQ k1 k2 k3 g1 g2 g3 hWA hW2 hW1
  go_enter Tryd.func41, Tryd.ntmps41
  go_wp2_with fail
  rw [HW.out, HE1.out, HE2.out]
  refine (open_ok WA A c bs sy (Sl.later hs HBA.out) h).mono ?_
  rintro e w1 ⟨A1, c1, rfl, ho1, hb1⟩
  have HB1 := Lib.hid (bThen HBA.out hb1)
  have hz1 := hb1.size
  obtain ⟨r0, r1, r2, r3, r4⟩ := two_cell ((hb1.block _ (by omega)).trans HQA.out)
  obtain ⟨s0, s1, s2, s3, s4⟩ := two_cell ((hb1.block _ (by omega)).trans HRA.out)
  have HQ1 := Lib.hid (show TapeAt w1 Q none 0 0 0 from (hb1.block _ (by omega)).trans HQA.out)
  have HO1 := Lib.hid (own_sl ho1)
  clear hb1 ho1
  obtain ⟨WX, hWX⟩ : ∃ WX, WX = w1.alloc (.cells #[.slice A1 bs.length c1, .int .i64 sy] 71) := ⟨_, rfl⟩
  have hzX : WX.heap.size = w1.heap.size + 1 := by rw [hWX]; simp
  have hbX : Below w1.heap.size w1 WX := by rw [hWX]; exact bAlloc (Below.refl _ _) _
  have HXX := Lib.hid (show TapeAt WX w1.heap.size A1 bs.length c1 sy by rw [hWX]; show (w1.heap.push _)[w1.heap.size]? = _; simp)
  have HBX := Lib.hid (bThen HB1.out hbX)
  have HQX := Lib.hid (show TapeAt WX Q none 0 0 0 from (hbX.block _ (by omega)).trans HQ1.out)
  have HOX := Lib.hid (Sl.later HO1.out hbX)
  have HWX := Lib.hid hWX
  clear hWX hbX
  go_wp2_with fail
  rw [← HWX.out]
  refine (HE.out WX (HT.out.later HBX.out) (Sl.later hop HBX.out)).mono ?_
  rintro e w2 ⟨A2, c2, rfl, ho2, hb2⟩
  have hz2 := hb2.size
  obtain ⟨t0, t1, t2, t3, t4⟩ := two_cell ((hb2.block _ (by omega)).trans HXX.out)
  obtain ⟨r0, r1, r2, r3, r4⟩ := two_cell ((hb2.block _ (by omega)).trans HQX.out)
  have HQ2 := Lib.hid (show TapeAt w2 Q none 0 0 0 from (hb2.block _ (by omega)).trans HQX.out)
  have HX2 := Lib.hid (show TapeAt w2 w1.heap.size A1 bs.length c1 sy from (hb2.block _ (by omega)).trans HXX.out)
  have HB2 := Lib.hid (bThen HBX.out hb2)
  have HO2 := Lib.hid (Sl.later HOX.out hb2)
  have HP2 := Lib.hid (own_sl ho2)
  clear hb2 ho2
  go_wp2_with fail
  have hrw : TapeAt w2 Q none 0 0 0 := HQ2.out
  have z0 := (two_cell (two_set0 (x := .slice none 0 0) hrw)).1
  have z1 := (two_cell (two_set1 (x := .int .i64 0) (two_set0 (x := .slice none 0 0) hrw))).2.1
  refine bodyPost_ret (v := .tuple #[.agg #[.slice none 0 0, .int .i64 0], .int .i64 er]) (by simp [results, Tryd.results41, go_sem, z0, z1]) rfl ?_
  exact ⟨none, 0, rfl, World.ownsRow_nil _ _ _ _, by repeat (first | exact HB2.out | apply Below.drew | apply bSet | apply bAlloc | exact Nat.le_of_lt hRB | exact Nat.le_of_lt (Nat.lt_trans hRB hBQ))⟩
set_option maxHeartbeats 1000000 in
theorem Append_full (w : World) (A : Option Addr) (c : Nat) (bs : List UInt8) (sy : Int) (hs : Sl (· < w.heap.size) w 1 A bs.length (bs.map byteV)) (h : tapeOk bs sy) (HT : Hid (Tabs w)) (ep : Int) (B : Option Addr) (cc : Nat) (ps : List PartD) (hop : OpIn (· < w.heap.size) w B ps) (rs : List UInt8) (hrs : rs.length ≤ 9000000100) (_hf : 8388608 < bs.length + 3 + rs.length)
    (HE : Hid (∀ W, Tabs W → OpIn (· < W.heap.size) W B ps → Calls Tryd.prog 103 #[recordV ep B ps.length cc] W (RetBytesE W rs 0))) :
    Calls Tryd.prog 41 #[tapeV A bs.length c sy, recordV ep B ps.length cc] w (RetTapeE w [] 0 8) := by
  have hbl := h.2.2
  have e1 : decide ((8388608 : Int) < (bs.length : Int) + 3 + (rs.length : Int)) = true := by simp; omega
  obtain ⟨W1, hW1⟩ : ∃ W1, W1 = w.alloc (.cells #[.slice A bs.length c, .int .i64 sy] 71) := ⟨_, rfl⟩
  obtain ⟨W2, hW2⟩ : ∃ W2, W2 = W1.alloc (.cells #[.int .i64 ep, .slice B ps.length cc] 64) := ⟨_, rfl⟩
  obtain ⟨WA, hWA⟩ : ∃ WA, WA = W2.alloc (.cells #[.slice none 0 0, .int .i64 0] 71) := ⟨_, rfl⟩
  have g1 : W1.heap.size = w.heap.size + 1 := by rw [hW1]; simp
  have g2 : W2.heap.size = W1.heap.size + 1 := by rw [hW2]; simp
  have g3 : WA.heap.size = W2.heap.size + 1 := by rw [hWA]; simp
  have k1 : Below w.heap.size w W1 := by rw [hW1]; exact bAlloc (Below.refl _ _) _
  have k2 : Below W1.heap.size W1 W2 := by rw [hW2]; exact bAlloc (Below.refl _ _) _
  have k3 : Below W2.heap.size W2 WA := by rw [hWA]; exact bAlloc (Below.refl _ _) _
  have HRA := Lib.hid (show RecAt WA W1.heap.size ep B ps.length cc from (k3.block _ (by omega)).trans (by rw [hW2]; show (W1.heap.push _)[W1.heap.size]? = _; simp))
  have HQA := Lib.hid (show TapeAt WA W2.heap.size none 0 0 0 by rw [hWA]; show (W2.heap.push _)[W2.heap.size]? = _; simp)
  have HBA := Lib.hid (bThen k1 (bThen k2 k3))
  have HW := Lib.hid (show ((w.alloc (.cells #[.slice A bs.length c, .int .i64 sy] 71)).alloc (.cells #[.int .i64 ep, .slice B ps.length cc] 64)).alloc (.cells #[.slice none 0 0, .int .i64 0] 71) = WA by rw [hWA, hW2, hW1])
  obtain ⟨R, hR⟩ : ∃ R, R = W1.heap.size := ⟨_, rfl⟩
  obtain ⟨Q, hQ⟩ : ∃ Q, Q = W2.heap.size := ⟨_, rfl⟩
  have HE1 := Lib.hid (show w.heap.size + 1 + 1 = Q by omega)
  have HE2 := Lib.hid (show w.heap.size + 1 = R by omega)
  have hRB : w.heap.size < R := by omega
  have hBQ : R < Q := by omega
  have hQz : Q < WA.heap.size := by omega
  rw [← hR] at HRA
  rw [← hQ] at HQA
  clear hR hQ k1 k2 k3 g1 g2 g3 hWA hW2 hW1
  go_enter Tryd.func41, Tryd.ntmps41
  go_wp2_with fail
  rw [HW.out, HE1.out, HE2.out]
  refine (open_ok WA A c bs sy (Sl.later hs HBA.out) h).mono ?_
  rintro e w1 ⟨A1, c1, rfl, ho1, hb1⟩
  have HB1 := Lib.hid (bThen HBA.out hb1)
  have hz1 := hb1.size
  obtain ⟨r0, r1, r2, r3, r4⟩ := two_cell ((hb1.block _ (by omega)).trans HQA.out)
  obtain ⟨s0, s1, s2, s3, s4⟩ := two_cell ((hb1.block _ (by omega)).trans HRA.out)
  have HQ1 := Lib.hid (show TapeAt w1 Q none 0 0 0 from (hb1.block _ (by omega)).trans HQA.out)
  have HO1 := Lib.hid (own_sl ho1)
  clear hb1 ho1
  obtain ⟨WX, hWX⟩ : ∃ WX, WX = w1.alloc (.cells #[.slice A1 bs.length c1, .int .i64 sy] 71) := ⟨_, rfl⟩
  have hzX : WX.heap.size = w1.heap.size + 1 := by rw [hWX]; simp
  have hbX : Below w1.heap.size w1 WX := by rw [hWX]; exact bAlloc (Below.refl _ _) _
  have HXX := Lib.hid (show TapeAt WX w1.heap.size A1 bs.length c1 sy by rw [hWX]; show (w1.heap.push _)[w1.heap.size]? = _; simp)
  have HBX := Lib.hid (bThen HB1.out hbX)
  have HQX := Lib.hid (show TapeAt WX Q none 0 0 0 from (hbX.block _ (by omega)).trans HQ1.out)
  have HOX := Lib.hid (Sl.later HO1.out hbX)
  have HWX := Lib.hid hWX
  clear hWX hbX
  go_wp2_with fail
  rw [← HWX.out]
  refine (HE.out WX (HT.out.later HBX.out) (Sl.later hop HBX.out)).mono ?_
  rintro e w2 ⟨A2, c2, rfl, ho2, hb2⟩
  have hz2 := hb2.size
  obtain ⟨t0, t1, t2, t3, t4⟩ := two_cell ((hb2.block _ (by omega)).trans HXX.out)
  obtain ⟨r0, r1, r2, r3, r4⟩ := two_cell ((hb2.block _ (by omega)).trans HQX.out)
  have HQ2 := Lib.hid (show TapeAt w2 Q none 0 0 0 from (hb2.block _ (by omega)).trans HQX.out)
  have HX2 := Lib.hid (show TapeAt w2 w1.heap.size A1 bs.length c1 sy from (hb2.block _ (by omega)).trans HXX.out)
  have HB2 := Lib.hid (bThen HBX.out hb2)
  have HO2 := Lib.hid (Sl.later HOX.out hb2)
  have HP2 := Lib.hid (own_sl ho2)
  clear hb2 ho2
  go_wp2_with fail
  have hrw : TapeAt w2 Q none 0 0 0 := HQ2.out
  have z0 := (two_cell (two_set0 (x := .slice none 0 0) hrw)).1
  have z1 := (two_cell (two_set1 (x := .int .i64 0) (two_set0 (x := .slice none 0 0) hrw))).2.1
  refine bodyPost_ret (v := .tuple #[.agg #[.slice none 0 0, .int .i64 0], .int .i64 8]) (by simp [results, Tryd.results41, go_sem, z0, z1]) rfl ?_
  exact ⟨none, 0, rfl, World.ownsRow_nil _ _ _ _, by repeat (first | exact HB2.out | apply Below.drew | apply bSet | apply bAlloc | exact Nat.le_of_lt hRB | exact Nat.le_of_lt (Nat.lt_trans hRB hBQ))⟩
set_option maxHeartbeats 1000000 in
theorem Append_ok (w : World) (A : Option Addr) (c : Nat) (bs : List UInt8) (sy : Int) (hs : Sl (· < w.heap.size) w 1 A bs.length (bs.map byteV)) (h : tapeOk bs sy) (HT : Hid (Tabs w)) (ep : Int) (B : Option Addr) (cc : Nat) (ps : List PartD) (hop : OpIn (· < w.heap.size) w B ps) (rs : List UInt8) (hf : bs.length + 3 + rs.length ≤ 8388608)
    (HE : Hid (∀ W, Tabs W → OpIn (· < W.heap.size) W B ps → Calls Tryd.prog 103 #[recordV ep B ps.length cc] W (RetBytesE W rs 0))) :
    Calls Tryd.prog 41 #[tapeV A bs.length c sy, recordV ep B ps.length cc] w (RetTapeE w (bs ++ three rs.length ++ rs) sy 0) := by
  have e1 : decide ((8388608 : Int) < (bs.length : Int) + 3 + (rs.length : Int)) = false := by simp; omega
  obtain ⟨W1, hW1⟩ : ∃ W1, W1 = w.alloc (.cells #[.slice A bs.length c, .int .i64 sy] 71) := ⟨_, rfl⟩
  obtain ⟨W2, hW2⟩ : ∃ W2, W2 = W1.alloc (.cells #[.int .i64 ep, .slice B ps.length cc] 64) := ⟨_, rfl⟩
  obtain ⟨WA, hWA⟩ : ∃ WA, WA = W2.alloc (.cells #[.slice none 0 0, .int .i64 0] 71) := ⟨_, rfl⟩
  have g1 : W1.heap.size = w.heap.size + 1 := by rw [hW1]; simp
  have g2 : W2.heap.size = W1.heap.size + 1 := by rw [hW2]; simp
  have g3 : WA.heap.size = W2.heap.size + 1 := by rw [hWA]; simp
  have k1 : Below w.heap.size w W1 := by rw [hW1]; exact bAlloc (Below.refl _ _) _
  have k2 : Below W1.heap.size W1 W2 := by rw [hW2]; exact bAlloc (Below.refl _ _) _
  have k3 : Below W2.heap.size W2 WA := by rw [hWA]; exact bAlloc (Below.refl _ _) _
  have HRA := Lib.hid (show RecAt WA W1.heap.size ep B ps.length cc from (k3.block _ (by omega)).trans (by rw [hW2]; show (W1.heap.push _)[W1.heap.size]? = _; simp))
  have HQA := Lib.hid (show TapeAt WA W2.heap.size none 0 0 0 by rw [hWA]; show (W2.heap.push _)[W2.heap.size]? = _; simp)
  have HBA := Lib.hid (bThen k1 (bThen k2 k3))
  have HW := Lib.hid (show ((w.alloc (.cells #[.slice A bs.length c, .int .i64 sy] 71)).alloc (.cells #[.int .i64 ep, .slice B ps.length cc] 64)).alloc (.cells #[.slice none 0 0, .int .i64 0] 71) = WA by rw [hWA, hW2, hW1])
  obtain ⟨R, hR⟩ : ∃ R, R = W1.heap.size := ⟨_, rfl⟩
  obtain ⟨Q, hQ⟩ : ∃ Q, Q = W2.heap.size := ⟨_, rfl⟩
  have HE1 := Lib.hid (show w.heap.size + 1 + 1 = Q by omega)
  have HE2 := Lib.hid (show w.heap.size + 1 = R by omega)
  have hRB : w.heap.size < R := by omega
  have hBQ : R < Q := by omega
  have hQz : Q < WA.heap.size := by omega
  rw [← hR] at HRA
  rw [← hQ] at HQA
  clear hR hQ k1 k2 k3 g1 g2 g3 hWA hW2 hW1
  go_enter Tryd.func41, Tryd.ntmps41
  go_wp2_with fail
  rw [HW.out, HE1.out, HE2.out]
  refine (open_ok WA A c bs sy (Sl.later hs HBA.out) h).mono ?_
  rintro e w1 ⟨A1, c1, rfl, ho1, hb1⟩
  have HB1 := Lib.hid (bThen HBA.out hb1)
  have hz1 := hb1.size
  obtain ⟨r0, r1, r2, r3, r4⟩ := two_cell ((hb1.block _ (by omega)).trans HQA.out)
  obtain ⟨s0, s1, s2, s3, s4⟩ := two_cell ((hb1.block _ (by omega)).trans HRA.out)
  have HQ1 := Lib.hid (show TapeAt w1 Q none 0 0 0 from (hb1.block _ (by omega)).trans HQA.out)
  have HO1 := Lib.hid (own_sl ho1)
  clear hb1 ho1
  obtain ⟨WX, hWX⟩ : ∃ WX, WX = w1.alloc (.cells #[.slice A1 bs.length c1, .int .i64 sy] 71) := ⟨_, rfl⟩
  have hzX : WX.heap.size = w1.heap.size + 1 := by rw [hWX]; simp
  have hbX : Below w1.heap.size w1 WX := by rw [hWX]; exact bAlloc (Below.refl _ _) _
  have HXX := Lib.hid (show TapeAt WX w1.heap.size A1 bs.length c1 sy by rw [hWX]; show (w1.heap.push _)[w1.heap.size]? = _; simp)
  have HBX := Lib.hid (bThen HB1.out hbX)
  have HQX := Lib.hid (show TapeAt WX Q none 0 0 0 from (hbX.block _ (by omega)).trans HQ1.out)
  have HOX := Lib.hid (Sl.later HO1.out hbX)
  have HWX := Lib.hid hWX
  clear hWX hbX
  go_wp2_with fail
  rw [← HWX.out]
  refine (HE.out WX (HT.out.later HBX.out) (Sl.later hop HBX.out)).mono ?_
  rintro e w2 ⟨A2, c2, rfl, ho2, hb2⟩
  have hz2 := hb2.size
  obtain ⟨t0, t1, t2, t3, t4⟩ := two_cell ((hb2.block _ (by omega)).trans HXX.out)
  obtain ⟨r0, r1, r2, r3, r4⟩ := two_cell ((hb2.block _ (by omega)).trans HQX.out)
  have HQ2 := Lib.hid (show TapeAt w2 Q none 0 0 0 from (hb2.block _ (by omega)).trans HQX.out)
  have HX2 := Lib.hid (show TapeAt w2 w1.heap.size A1 bs.length c1 sy from (hb2.block _ (by omega)).trans HXX.out)
  have HB2 := Lib.hid (bThen HBX.out hb2)
  have HO2 := Lib.hid (Sl.later HOX.out hb2)
  have HP2 := Lib.hid (own_sl ho2)
  clear hb2 ho2
  go_wp2_with fail
  have HS3 := Lib.hid (show Sl (· < (w2.alloc (.cells #[.int .u8 ((rs.length : Int) / 65536), .int .u8 ((rs.length : Int) / 256 % 256), .int .u8 ((rs.length : Int) % 256)] 5)).heap.size) (w2.alloc (.cells #[.int .u8 ((rs.length : Int) / 65536), .int .u8 ((rs.length : Int) / 256 % 256), .int .u8 ((rs.length : Int) % 256)] 5)) 1 (some ⟨w2.heap.size, 0, none⟩) 3 ((three rs.length).map byteV) by
    rw [three_cells _ (by omega)]
    exact Sl.new w2 _ _ 1 3 rfl (by simp))
  have HL3 := Lib.hid (show (three rs.length).length = 3 from rfl)
  generalize three rs.length = tr at *
  refine (concat_three _ _ _ _ _ _ _ _ _ _ _ _ bs tr rs _ ?_ rfl HL3.out.symm rfl ?_ HS3.out ?_ ?_).mono ?_
  · simp
  · exact Sl.later HO2.out (bAlloc (Below.refl _ _) _)
  · exact Sl.later HP2.out (bAlloc (Below.refl _ _) _)
  · rw [HL3.out]; omega
  rintro e w3 ⟨A3, c3, rfl, ho3, hb3⟩
  have hz3 := hb3.size
  simp at hz3
  have hb3' := (show Below w2.heap.size w2 w3 from bThen (bAlloc (bAlloc (Below.refl _ _) _) _) hb3)
  obtain ⟨t0, t1, t2, t3, t4⟩ := two_cell ((hb3'.block _ (by omega)).trans HX2.out)
  obtain ⟨r0, r1, r2, r3, r4⟩ := two_cell ((hb3'.block _ (by omega)).trans HQ2.out)
  have HQ3 := Lib.hid (show TapeAt w3 Q none 0 0 0 from (hb3'.block _ (by omega)).trans HQ2.out)
  have HB3 := Lib.hid (bThen HB2.out hb3')
  have HO3 := Lib.hid ho3
  have n1 : ¬ Q = w1.heap.size := by omega
  have n2 : ¬ w1.heap.size = Q := by omega
  clear hb3 hb3' ho3
  go_wp2_with fail
  have hrw : TapeAt (w3.setCell ⟨w1.heap.size, 0, none⟩ (.slice A3 (bs.length + (tr.length + rs.length)) c3)) Q none 0 0 0 := (Below.heap_setCell _ _ _ _ (show Q ≠ w1.heap.size by omega)).trans HQ3.out
  have z0 := (two_cell (two_set0 (x := .slice A3 (bs.length + (tr.length + rs.length)) c3) hrw)).1
  have z1 := (two_cell (two_set1 (x := .int .i64 sy) (two_set0 (x := .slice A3 (bs.length + (tr.length + rs.length)) c3) hrw))).2.1
  refine bodyPost_ret (v := .tuple #[.agg #[.slice A3 (bs.length + (tr.length + rs.length)) c3, .int .i64 sy], .int .i64 0]) (by simp [results, Tryd.results41, go_sem, z0, z1]) rfl ?_
  refine ⟨A3, c3, by simp, ?_, by repeat (first | exact HB3.out | apply Below.drew | apply bSet | apply bAlloc | exact Nat.le_of_lt hRB | (show w.heap.size ≤ w1.heap.size; omega) | exact Nat.le_of_lt (Nat.lt_trans hRB hBQ))⟩
  exact own_lower (ownsRow_setCell_below (ownsRow_setCell_below (ownsRow_setCell_below HO3.out (a := ⟨w1.heap.size, 0, none⟩) (show w1.heap.size < _ by simp; omega) _) (a := ⟨Q, 0, none⟩) (show Q < _ by simp; omega) _) (a := ⟨Q, 1, none⟩) (show Q < _ by simp; omega) _) (by simp; omega)
end Go.Proofs.YtiooimnlkcpnnaaDoor
