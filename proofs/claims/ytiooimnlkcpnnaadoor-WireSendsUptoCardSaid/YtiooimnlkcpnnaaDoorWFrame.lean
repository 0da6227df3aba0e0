/-
  Contract of the writer's method frame.
-/
import Derived.Test.YtiooimnlkcpnnaaDoorRows
import Derived.Test.YtiooimnlkcpnnaaDoorWriter
import Derived.Test.YtiooimnlkcpnnaaDoorRecords
import Derived.Test.YtiooimnlkcpnnaaDoorPackets
namespace Go.Proofs.YtiooimnlkcpnnaaDoor
open Go.ChangeShapes Go.WideShapes Go.ChangeAt Go.RowKit
set_option maxRecDepth 100000
/-- A frame as bytes. -/
def frameL (k h e : Int) (ps : List PartD) (s : ByteArray) : List UInt8 :=
  sevensL k.toNat ++ (if k = 1 then sevensL h.toNat ++ opL ps else sevensL e.toNat ++ (if k = 3 then textL s else sevensL h.toNat))
set_option maxHeartbeats 1000000 in
theorem wframe_1 (w : World) (base B : Nat) (bs : List UInt8) (h e : Int) (A : Option Addr) (c : Nat) (ps : List PartD) (s : ByteArray) (hw : Wr w base B bs) (hs : OpIn (· < base) w A ps) (hm : ps.length ≤ 8001) (hp : ∀ p ∈ ps, p.Writ) (hst : s.size ≤ 1048576)
    (h0 : 0 ≤ h) (h1 : h ≤ 1048576) (e0 : 0 ≤ e) (e1 : e ≤ 1048576) (hl : bs.length ≤ 1000000) (hbs : base ≤ w.heap.size) :
    Calls Tryd.prog 88 #[.pointer (some ⟨B, 0, none⟩), frameV 1 h e A ps.length c s] w (WrTo base B (bs ++ (sevensL (1 : Int).toNat ++ (sevensL h.toNat ++ opL ps))) w) := by
  have hm1 := sevens_ten (n := (1 : Int).toNat) (by decide)
  have hm2 := sevens_ten (n := h.toNat) (by omega)
  have hm3 := sevens_ten (n := e.toNat) (by omega)
  have HP := Lib.hid (And.intro hp (And.intro hst (And.intro hm hs)))
  have HRw := Lib.hid (And.intro hw.lt hw.row)
  have hne1 : w.heap.size ≠ B := by have := HRw.out.1.2; omega
  have hne2 : rowOf w B ≠ some w.heap.size := fun e => by have := (HRw.out.2 _ e).2; omega
  obtain ⟨WA, hWA⟩ : ∃ WA, WA = w.alloc (.cells #[.int .i64 1, .int .i64 h, .int .i64 e, .slice A ps.length c, .string s] 56) := ⟨_, rfl⟩
  have hba : Below w.heap.size w WA := by rw [hWA]; exact bAlloc (Below.refl _ _) _
  have hWA1 : WA.heap.size = w.heap.size + 1 := by rw [hWA]; simp
  have hWc : ∀ j, WA.cell? ⟨w.heap.size, j, none⟩ = (#[Value.int .i64 1, .int .i64 h, .int .i64 e, .slice A ps.length c, .string s])[j]? := by intro j; rw [hWA, World.cell?_alloc_new]
  have hrow : rowOf WA B = rowOf w B := by unfold rowOf; rw [hba.block B HRw.out.1.2]
  have HWa := Lib.hid (Buf.later hw hba)
  have hc0 := fun (w2 : World) (h : Kept B WA w2) (j : Nat) => (h.cell (k := w.heap.size) (j := j) (by omega) hne1 (by rw [hrow]; exact hne2)).trans (hWc j)
  have HC := Lib.hid hc0
  have HKW := Lib.hid (Kept.of_below hba HRw.out.1.2)
  clear hc0 hWc hrow hba hp hw hst hm hs
  go_enter Tryd.func88, Tryd.ntmps88
  go_wp2_with fail
  rw [← hWA]
  refine (put_c WA base B bs 1 HWa.out (by decide) (by decide) (by omega) (by omega)).mono ?_
  rintro er w2 ⟨rfl, hw2, hb2⟩
  have x0 := HC.out w2 hb2 0
  have x1 := HC.out w2 hb2 1
  have x2 := HC.out w2 hb2 2
  have hz2 := hb2.size
  simp at x0 x1 x2
  have HW2 := Lib.hid hw2
  have HB2 := Lib.hid hb2
  clear hw2 hb2
  go_wp2_with fail
  refine (put_c w2 base B _ h HW2.out h0 (by omega) (by rw [List.length_append]; omega) (by omega)).mono ?_
  rintro er w3 ⟨rfl, hw3, hb3⟩
  have K3 := HB2.out.trans hb3
  have y0 := HC.out w3 K3 0
  have y1 := HC.out w3 K3 1
  have y3 := HC.out w3 K3 3
  have y4 := HC.out w3 K3 4
  have hz3 := hb3.size
  simp at y0 y1 y3 y4
  have HW3 := Lib.hid hw3
  have HK3 := Lib.hid (HKW.out.trans K3)
  have HS := Lib.hid (Sl.below HP.out.2.2.2 (HK3.out.below HRw.out.1.1 (fun x hx => (HRw.out.2 x hx).1) hbs) (Nat.le_refl _))
  clear hw3 hb3 K3
  go_wp2_with fail
  refine (wop_c w3 base B _ A c ps HW3.out HS.out HP.out.2.2.1 HP.out.1 (by rw [List.length_append, List.length_append]; omega) (by omega)).mono ?_
  rintro er w4 ⟨rfl, hw4, hb4⟩
  go_wp2_with fail
  refine bodyPost_ret (results_none rfl _ _ _) rfl ⟨rfl, by simpa [List.append_assoc] using hw4, HK3.out.trans hb4⟩
set_option maxHeartbeats 1000000 in
theorem wframe_2 (w : World) (base B : Nat) (bs : List UInt8) (h e : Int) (A : Option Addr) (c : Nat) (ps : List PartD) (s : ByteArray) (hw : Wr w base B bs) (hs : OpIn (· < base) w A ps) (hm : ps.length ≤ 8001) (hp : ∀ p ∈ ps, p.Writ) (hst : s.size ≤ 1048576)
    (h0 : 0 ≤ h) (h1 : h ≤ 1048576) (e0 : 0 ≤ e) (e1 : e ≤ 1048576) (hl : bs.length ≤ 1000000) (hbs : base ≤ w.heap.size) :
    Calls Tryd.prog 88 #[.pointer (some ⟨B, 0, none⟩), frameV 2 h e A ps.length c s] w (WrTo base B (bs ++ (sevensL (2 : Int).toNat ++ (sevensL e.toNat ++ sevensL h.toNat))) w) := by
  have hm1 := sevens_ten (n := (2 : Int).toNat) (by decide)
  have hm2 := sevens_ten (n := h.toNat) (by omega)
  have hm3 := sevens_ten (n := e.toNat) (by omega)
  have HP := Lib.hid (And.intro hp (And.intro hst (And.intro hm hs)))
  have HRw := Lib.hid (And.intro hw.lt hw.row)
  have hne1 : w.heap.size ≠ B := by have := HRw.out.1.2; omega
  have hne2 : rowOf w B ≠ some w.heap.size := fun e => by have := (HRw.out.2 _ e).2; omega
  obtain ⟨WA, hWA⟩ : ∃ WA, WA = w.alloc (.cells #[.int .i64 2, .int .i64 h, .int .i64 e, .slice A ps.length c, .string s] 56) := ⟨_, rfl⟩
  have hba : Below w.heap.size w WA := by rw [hWA]; exact bAlloc (Below.refl _ _) _
  have hWA1 : WA.heap.size = w.heap.size + 1 := by rw [hWA]; simp
  have hWc : ∀ j, WA.cell? ⟨w.heap.size, j, none⟩ = (#[Value.int .i64 2, .int .i64 h, .int .i64 e, .slice A ps.length c, .string s])[j]? := by intro j; rw [hWA, World.cell?_alloc_new]
  have hrow : rowOf WA B = rowOf w B := by unfold rowOf; rw [hba.block B HRw.out.1.2]
  have HWa := Lib.hid (Buf.later hw hba)
  have hc0 := fun (w2 : World) (h : Kept B WA w2) (j : Nat) => (h.cell (k := w.heap.size) (j := j) (by omega) hne1 (by rw [hrow]; exact hne2)).trans (hWc j)
  have HC := Lib.hid hc0
  have HKW := Lib.hid (Kept.of_below hba HRw.out.1.2)
  clear hc0 hWc hrow hba hp hw hst hm hs
  go_enter Tryd.func88, Tryd.ntmps88
  go_wp2_with fail
  rw [← hWA]
  refine (put_c WA base B bs 2 HWa.out (by decide) (by decide) (by omega) (by omega)).mono ?_
  rintro er w2 ⟨rfl, hw2, hb2⟩
  have x0 := HC.out w2 hb2 0
  have x1 := HC.out w2 hb2 1
  have x2 := HC.out w2 hb2 2
  have hz2 := hb2.size
  simp at x0 x1 x2
  have HW2 := Lib.hid hw2
  have HB2 := Lib.hid hb2
  clear hw2 hb2
  go_wp2_with fail
  refine (put_c w2 base B _ e HW2.out e0 (by omega) (by rw [List.length_append]; omega) (by omega)).mono ?_
  rintro er w3 ⟨rfl, hw3, hb3⟩
  have K3 := HB2.out.trans hb3
  have y0 := HC.out w3 K3 0
  have y1 := HC.out w3 K3 1
  have y3 := HC.out w3 K3 3
  have y4 := HC.out w3 K3 4
  have hz3 := hb3.size
  simp at y0 y1 y3 y4
  have HW3 := Lib.hid hw3
  have HK3 := Lib.hid (HKW.out.trans K3)
  have HS := Lib.hid (Sl.below HP.out.2.2.2 (HK3.out.below HRw.out.1.1 (fun x hx => (HRw.out.2 x hx).1) hbs) (Nat.le_refl _))
  clear hw3 hb3 K3
  go_wp2_with fail
  refine (put_c w3 base B _ h HW3.out h0 (by omega) (by rw [List.length_append, List.length_append]; omega) (by omega)).mono ?_
  rintro er w4 ⟨rfl, hw4, hb4⟩
  go_wp2_with fail
  refine bodyPost_end (results_none rfl _ _ _) rfl ⟨rfl, by simpa [List.append_assoc] using hw4, HK3.out.trans hb4⟩
set_option maxHeartbeats 1000000 in
theorem wframe_3 (w : World) (base B : Nat) (bs : List UInt8) (h e : Int) (A : Option Addr) (c : Nat) (ps : List PartD) (s : ByteArray) (hw : Wr w base B bs) (hs : OpIn (· < base) w A ps) (hm : ps.length ≤ 8001) (hp : ∀ p ∈ ps, p.Writ) (hst : s.size ≤ 1048576)
    (h0 : 0 ≤ h) (h1 : h ≤ 1048576) (e0 : 0 ≤ e) (e1 : e ≤ 1048576) (hl : bs.length ≤ 1000000) (hbs : base ≤ w.heap.size) :
    Calls Tryd.prog 88 #[.pointer (some ⟨B, 0, none⟩), frameV 3 h e A ps.length c s] w (WrTo base B (bs ++ (sevensL (3 : Int).toNat ++ (sevensL e.toNat ++ textL s))) w) := by
  have hm1 := sevens_ten (n := (3 : Int).toNat) (by decide)
  have hm2 := sevens_ten (n := h.toNat) (by omega)
  have hm3 := sevens_ten (n := e.toNat) (by omega)
  have HP := Lib.hid (And.intro hp (And.intro hst (And.intro hm hs)))
  have HRw := Lib.hid (And.intro hw.lt hw.row)
  have hne1 : w.heap.size ≠ B := by have := HRw.out.1.2; omega
  have hne2 : rowOf w B ≠ some w.heap.size := fun e => by have := (HRw.out.2 _ e).2; omega
  obtain ⟨WA, hWA⟩ : ∃ WA, WA = w.alloc (.cells #[.int .i64 3, .int .i64 h, .int .i64 e, .slice A ps.length c, .string s] 56) := ⟨_, rfl⟩
  have hba : Below w.heap.size w WA := by rw [hWA]; exact bAlloc (Below.refl _ _) _
  have hWA1 : WA.heap.size = w.heap.size + 1 := by rw [hWA]; simp
  have hWc : ∀ j, WA.cell? ⟨w.heap.size, j, none⟩ = (#[Value.int .i64 3, .int .i64 h, .int .i64 e, .slice A ps.length c, .string s])[j]? := by intro j; rw [hWA, World.cell?_alloc_new]
  have hrow : rowOf WA B = rowOf w B := by unfold rowOf; rw [hba.block B HRw.out.1.2]
  have HWa := Lib.hid (Buf.later hw hba)
  have hc0 := fun (w2 : World) (h : Kept B WA w2) (j : Nat) => (h.cell (k := w.heap.size) (j := j) (by omega) hne1 (by rw [hrow]; exact hne2)).trans (hWc j)
  have HC := Lib.hid hc0
  have HKW := Lib.hid (Kept.of_below hba HRw.out.1.2)
  clear hc0 hWc hrow hba hp hw hst hm hs
  go_enter Tryd.func88, Tryd.ntmps88
  go_wp2_with fail
  rw [← hWA]
  refine (put_c WA base B bs 3 HWa.out (by decide) (by decide) (by omega) (by omega)).mono ?_
  rintro er w2 ⟨rfl, hw2, hb2⟩
  have x0 := HC.out w2 hb2 0
  have x1 := HC.out w2 hb2 1
  have x2 := HC.out w2 hb2 2
  have hz2 := hb2.size
  simp at x0 x1 x2
  have HW2 := Lib.hid hw2
  have HB2 := Lib.hid hb2
  clear hw2 hb2
  go_wp2_with fail
  refine (put_c w2 base B _ e HW2.out e0 (by omega) (by rw [List.length_append]; omega) (by omega)).mono ?_
  rintro er w3 ⟨rfl, hw3, hb3⟩
  have K3 := HB2.out.trans hb3
  have y0 := HC.out w3 K3 0
  have y1 := HC.out w3 K3 1
  have y3 := HC.out w3 K3 3
  have y4 := HC.out w3 K3 4
  have hz3 := hb3.size
  simp at y0 y1 y3 y4
  have HW3 := Lib.hid hw3
  have HK3 := Lib.hid (HKW.out.trans K3)
  have HS := Lib.hid (Sl.below HP.out.2.2.2 (HK3.out.below HRw.out.1.1 (fun x hx => (HRw.out.2 x hx).1) hbs) (Nat.le_refl _))
  clear hw3 hb3 K3
  go_wp2_with fail
  refine (wtext_c w3 base B _ s HW3.out HP.out.2.1 (by rw [List.length_append, List.length_append]; omega) (by omega)).mono ?_
  rintro er w4 ⟨rfl, hw4, hb4⟩
  go_wp2_with fail
  refine bodyPost_ret (results_none rfl _ _ _) rfl ⟨rfl, by simpa [List.append_assoc] using hw4, HK3.out.trans hb4⟩
theorem wframe_c (w : World) (base B : Nat) (bs : List UInt8) (k h e : Int) (A : Option Addr) (c : Nat) (ps : List PartD) (s : ByteArray) (hw : Wr w base B bs) (hs : OpIn (· < base) w A ps) (hm : ps.length ≤ 8001) (hp : ∀ p ∈ ps, p.Writ) (hst : s.size ≤ 1048576)
    (k0 : 1 ≤ k) (k1 : k ≤ 3) (h0 : 0 ≤ h) (h1 : h ≤ 1048576) (e0 : 0 ≤ e) (e1 : e ≤ 1048576) (hl : bs.length ≤ 1000000) (hbs : base ≤ w.heap.size) :
    Calls Tryd.prog 88 #[.pointer (some ⟨B, 0, none⟩), frameV k h e A ps.length c s] w (WrTo base B (bs ++ frameL k h e ps s) w) := by
  obtain rfl | rfl | rfl : k = 1 ∨ k = 2 ∨ k = 3 := by omega
  · exact wframe_1 w base B bs h e A c ps s hw hs hm hp hst h0 h1 e0 e1 hl hbs
  · exact wframe_2 w base B bs h e A c ps s hw hs hm hp hst h0 h1 e0 e1 hl hbs
  · exact wframe_3 w base B bs h e A c ps s hw hs hm hp hst h0 h1 e0 e1 hl hbs
end Go.Proofs.YtiooimnlkcpnnaaDoor
