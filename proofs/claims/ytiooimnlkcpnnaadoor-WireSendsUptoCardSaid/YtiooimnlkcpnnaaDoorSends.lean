/-
  Contract of wire.EncodePacket.
-/
import Derived.Test.YtiooimnlkcpnnaaDoorRows
import Derived.Test.YtiooimnlkcpnnaaDoorWFrame
namespace Go.Proofs.YtiooimnlkcpnnaaDoor
open Go.ChangeShapes Go.WideShapes Go.ChangeAt Go.RowKit
set_option maxRecDepth 100000
/-- A packet as bytes. -/
def packetL (ep nu : Int) (b : Bool) (ak k h e : Int) (ps : List PartD) (s : ByteArray) : List UInt8 :=
  sevensL ep.toNat ++ sevensL ak.toNat ++ sevensL nu.toNat ++ (if b = true then [] else frameL k h e ps s)
theorem frame_facts {k h e : Int} {ps : List PartD} {s : ByteArray} (hf : frameFault ⟨k, h, e, ps, s⟩ = 0) : (1 ≤ k ∧ k ≤ 3) ∧ (0 ≤ h ∧ h ≤ 1048576) ∧ (0 ≤ e ∧ e ≤ 1048576) ∧ opFault ps = 0 ∧ (k ≠ 1 → ps = []) ∧ (k ≠ 3 → s.toList = []) := by
  unfold frameFault at hf
  dsimp only at hf
  by_cases a1 : k < 1 ∨ 3 < k
  · rw [if_pos a1] at hf; cases hf
  rw [if_neg a1] at hf
  by_cases a2 : (h < 0 ∨ 1048576 < h) ∨ (e < 0 ∨ 1048576 < e)
  · rw [if_pos a2] at hf; cases hf
  rw [if_neg a2] at hf
  by_cases a3 : opFault ps = 0
  · rw [if_neg (fun q => q a3)] at hf
    by_cases a4 : textFault s = 0
    · rw [if_neg (fun q => q a4)] at hf
      by_cases a6 : formOk ⟨k, h, e, ps, s⟩
      · unfold formOk at a6
        dsimp only at a6
        refine ⟨by omega, by omega, by omega, a3, ?_, ?_⟩
        · intro hk
          rw [if_neg hk] at a6
          by_cases a5 : k = 2
          · rw [if_pos a5] at a6
            exact a6.2.1
          · rw [if_neg a5] at a6
            exact a6.2.1
        · intro hk
          by_cases a5 : k = 1
          · rw [if_pos a5] at a6
            exact a6.2
          · rw [if_neg a5, if_pos (show k = 2 by omega)] at a6
            exact a6.2.2
      · rw [if_neg a6] at hf
        cases hf
    · rw [if_pos a4] at hf
      exact absurd hf a4
  · rw [if_pos a3] at hf
    exact absurd hf a3
theorem packet_facts {ep nu ak : Int} {b : Bool} {f : FrameD} (hf : packetFault ⟨ep, nu, b, ak, f⟩ = 0) : (0 ≤ ep ∧ ep ≤ 1048576) ∧ (0 ≤ nu ∧ nu ≤ 1048576) ∧ (0 ≤ ak ∧ ak ≤ 1048576) ∧ (b = true → nu = 0 ∧ emptyF f) ∧ (b = false → (1 ≤ nu ∧ 1 ≤ ep) ∧ frameFault f = 0) := by
  unfold packetFault at hf
  dsimp only at hf
  by_cases a1 : (ep < 0 ∨ 1048576 < ep) ∨ (nu < 0 ∨ 1048576 < nu) ∨ (ak < 0 ∨ 1048576 < ak)
  · rw [if_pos a1] at hf; cases hf
  rw [if_neg a1] at hf
  refine ⟨by omega, by omega, by omega, ?_, ?_⟩
  · intro hb
    rw [if_pos hb] at hf
    by_cases a2 : nu = 0 ∧ emptyF f
    · exact a2
    · rw [if_neg a2] at hf; cases hf
  · intro hb
    rw [if_neg (by simp [hb])] at hf
    by_cases a2 : nu = 0 ∨ ep = 0
    · rw [if_pos a2] at hf; cases hf
    · rw [if_neg a2] at hf
      exact ⟨by omega, hf⟩
theorem fresh_row (w : World) : rowOf (w.alloc (.cells #[.slice none 0 0] 129)) w.heap.size = none :=
  rowOf_eq (v := .slice none 0 0) (T := 129) (m := (0, 0)) (by show (w.heap.push _)[w.heap.size]? = _; simp)
theorem fresh_cell {w w2 : World} (K : Kept w.heap.size (w.alloc (.cells #[.slice none 0 0] 129)) w2) {b : Nat} (hb : b < w.heap.size) (j : Nat) : w2.cell? ⟨b, j, none⟩ = w.cell? ⟨b, j, none⟩ := by
  rw [K.cell (by simp; omega) (by omega) (by rw [fresh_row]; simp)]
  exact (bAlloc (Below.refl w.heap.size w) _).cell (p := ⟨b, j, none⟩) hb
theorem fresh_below {w w2 : World} (K : Kept w.heap.size (w.alloc (.cells #[.slice none 0 0] 129)) w2) : Below w.heap.size w w2 :=
  (bAlloc (Below.refl w.heap.size w) _).trans (K.below (Nat.le_refl _) (by rw [fresh_row]; intro x hx; cases hx) (by simp))
theorem EncodePacket_no (w : World) (ep nu : Int) (b : Bool) (ak k h e : Int) (A : Option Addr) (c : Nat) (ps : List PartD) (s : ByteArray) (hT : Tabs w) (hs : OpIn (· < w.heap.size) w A ps) (hm : ps.length ≤ 1048576) (ht : ∀ p ∈ ps, p.text.size ≤ 1048576) (hst : s.size ≤ 1048576) (hf : packetFault ⟨ep, nu, b, ak, ⟨k, h, e, ps, s⟩⟩ ≠ 0) :
    Calls Tryd.prog 34 #[packetV ep nu b ak k h e A ps.length c s] w (RetBytesE w [] (packetFault ⟨ep, nu, b, ak, ⟨k, h, e, ps, s⟩⟩)) := by
  have H := Lib.hid (fun W hT hs => CheckPacket_c W ep nu b ak k h e A c ps s hT hs hm ht hst)
  have hb0 : (packetFault ⟨ep, nu, b, ak, ⟨k, h, e, ps, s⟩⟩ != 0) = true := by simpa using hf
  generalize packetFault ⟨ep, nu, b, ak, ⟨k, h, e, ps, s⟩⟩ = x at *
  clear hf ht
  go_enter Tryd.func34, Tryd.ntmps34
  go_wp2_with fail
  refine (H.out _ (hT.later (by repeat (first | exact Below.refl _ _ | apply bGrow | apply bAlloc | apply Below.drew | apply bDrewN | apply bIter))) (Sl.later hs (by repeat (first | exact Below.refl _ _ | apply bGrow | apply bAlloc | apply Below.drew | apply bDrewN | apply bIter)))).mono ?_
  rintro er w1 ⟨rfl, hb1⟩
  go_wp2_with fail
  go_ret2
  exact ⟨none, 0, rfl, World.ownsRow_nil _ _ _ _, box_below hb1⟩
set_option maxHeartbeats 1000000 in
theorem EncodePacket_bare (w : World) (ep ak k h e : Int) (A : Option Addr) (n c : Nat) (s : ByteArray) (q1 : 0 ≤ ep) (q2 : ep ≤ 1048576) (q3 : 0 ≤ ak) (q4 : ak ≤ 1048576)
    (H : Hid (∀ W, Below w.heap.size w W → Calls Tryd.prog 86 #[packetV ep 0 true ak k h e A n c s] W fun r w' => r = .returned (.int .i64 0) ∧ Below W.heap.size W w')) :
    Calls Tryd.prog 34 #[packetV ep 0 true ak k h e A n c s] w (RetBytesE w (sevensL ep.toNat ++ sevensL ak.toNat ++ sevensL (0 : Int).toNat) 0) := by
  have hm1 := sevens_ten (n := ep.toNat) (by omega)
  have hm2 := sevens_ten (n := ak.toNat) (by omega)
  go_enter Tryd.func34, Tryd.ntmps34
  go_wp2_with fail
  refine (H.out _ (by repeat (first | exact Below.refl _ _ | apply bGrow | apply bAlloc | apply Below.drew | apply bDrewN | apply bIter))).mono ?_
  rintro er w1 ⟨rfl, hb1⟩
  have x0 := box_at hb1 0
  have x1 := box_at hb1 1
  have x2 := box_at hb1 2
  have x3 := box_at hb1 3
  simp at x0 x1 x2 x3
  have hz : w.heap.size < w1.heap.size := by have := hb1.size; simp at this; omega
  have HB := Lib.hid (box_below hb1)
  clear hb1
  go_wp2_with fail
  refine (put_c _ w1.heap.size w1.heap.size [] ep (Buf.fresh w1 _ (Nat.le_refl _)) (by omega) (by omega) (by simp) (by simp)).mono ?_
  rintro er w2 ⟨rfl, hw2, k2⟩
  have y3 := (fresh_cell k2 hz 3).trans x3
  have hz2 := k2.size
  simp at hz2
  have HW2 := Lib.hid hw2
  have HK2 := Lib.hid k2
  clear hw2 k2
  go_wp2_with fail
  refine (put_c w2 w1.heap.size w1.heap.size _ ak HW2.out (by omega) (by omega) (by rw [List.length_append, List.length_nil]; omega) (by omega)).mono ?_
  rintro er w3 ⟨rfl, hw3, k3⟩
  have K3 := HK2.out.trans k3
  have z1 := (fresh_cell K3 hz 1).trans x1
  have hz3 := k3.size
  have HW3 := Lib.hid hw3
  have HK3 := Lib.hid K3
  clear hw3 k3 K3
  go_wp2_with fail
  refine (put_c w3 w1.heap.size w1.heap.size _ 0 HW3.out (by omega) (by omega) (by rw [List.length_append, List.length_append, List.length_nil]; omega) (by omega)).mono ?_
  rintro er w4 ⟨rfl, hw4, k4⟩
  have K4 := HK3.out.trans k4
  have u2 := (fresh_cell K4 hz 2).trans x2
  have HK4 := Lib.hid K4
  obtain ⟨_, A2, c2, hobj, hown⟩ := hw4
  obtain ⟨v1, v2, v3⟩ := box_cell hobj
  clear k4 K4 hobj
  rw [List.nil_append] at v1 hown
  go_wp2_with fail
  go_ret2
  exact ⟨A2, c2, by simp [List.append_assoc], own_lower hown (by omega), bThen HB.out (fresh_below HK4.out)⟩
set_option maxHeartbeats 2000000 in
theorem EncodePacket_frame (w : World) (ep nu ak k h e : Int) (A : Option Addr) (c : Nat) (ps : List PartD) (s : ByteArray) (q1 : 0 ≤ ep) (q2 : ep ≤ 1048576) (q3 : 0 ≤ ak) (q4 : ak ≤ 1048576) (q5 : 0 ≤ nu) (q6 : nu ≤ 1048576)
    (k0 : 1 ≤ k) (k1 : k ≤ 3) (h0 : 0 ≤ h) (h1 : h ≤ 1048576) (e0 : 0 ≤ e) (e1 : e ≤ 1048576) (hm : ps.length ≤ 8001) (hp : ∀ p ∈ ps, p.Writ) (hst : s.size ≤ 1048576) (hs : OpIn (· < w.heap.size) w A ps)
    (H : Hid (∀ W, Below w.heap.size w W → Calls Tryd.prog 86 #[packetV ep nu false ak k h e A ps.length c s] W fun r w' => r = .returned (.int .i64 0) ∧ Below W.heap.size W w')) :
    Calls Tryd.prog 34 #[packetV ep nu false ak k h e A ps.length c s] w (RetBytesE w (sevensL ep.toNat ++ sevensL ak.toNat ++ sevensL nu.toNat ++ frameL k h e ps s) 0) := by
  have hm1 := sevens_ten (n := ep.toNat) (by omega)
  have hm2 := sevens_ten (n := ak.toNat) (by omega)
  have hm3 := sevens_ten (n := nu.toNat) (by omega)
  have HP := Lib.hid hp
  clear hp
  go_enter Tryd.func34, Tryd.ntmps34
  go_wp2_with fail
  refine (H.out _ (by repeat (first | exact Below.refl _ _ | apply bGrow | apply bAlloc | apply Below.drew | apply bDrewN | apply bIter))).mono ?_
  rintro er w1 ⟨rfl, hb1⟩
  have x0 := box_at hb1 0
  have x1 := box_at hb1 1
  have x2 := box_at hb1 2
  have x3 := box_at hb1 3
  have x4 := box_at hb1 4
  have x5 := box_at hb1 5
  have x6 := box_at hb1 6
  have x7 := box_at hb1 7
  have x8 := box_at hb1 8
  simp at x0 x1 x2 x3 x4 x5 x6 x7 x8
  have hz : w.heap.size < w1.heap.size := by have := hb1.size; simp at this; omega
  have HB := Lib.hid (box_below hb1)
  clear hb1
  go_wp2_with fail
  refine (put_c _ w1.heap.size w1.heap.size [] ep (Buf.fresh w1 _ (Nat.le_refl _)) (by omega) (by omega) (by simp) (by simp)).mono ?_
  rintro er w2 ⟨rfl, hw2, k2⟩
  have y3 := (fresh_cell k2 hz 3).trans x3
  have hz2 := k2.size
  simp at hz2
  have HW2 := Lib.hid hw2
  have HK2 := Lib.hid k2
  clear hw2 k2
  go_wp2_with fail
  refine (put_c w2 w1.heap.size w1.heap.size _ ak HW2.out (by omega) (by omega) (by rw [List.length_append, List.length_nil]; omega) (by omega)).mono ?_
  rintro er w3 ⟨rfl, hw3, k3⟩
  have K3 := HK2.out.trans k3
  have z1 := (fresh_cell K3 hz 1).trans x1
  have hz3 := k3.size
  have HW3 := Lib.hid hw3
  have HK3 := Lib.hid K3
  clear hw3 k3 K3
  go_wp2_with fail
  refine (put_c w3 w1.heap.size w1.heap.size _ nu HW3.out (by omega) (by omega) (by rw [List.length_append, List.length_append, List.length_nil]; omega) (by omega)).mono ?_
  rintro er w4 ⟨rfl, hw4, k4⟩
  have K4 := HK3.out.trans k4
  have u2 := (fresh_cell K4 hz 2).trans x2
  have u4 := (fresh_cell K4 hz 4).trans x4
  have u5 := (fresh_cell K4 hz 5).trans x5
  have u6 := (fresh_cell K4 hz 6).trans x6
  have u7 := (fresh_cell K4 hz 7).trans x7
  have u8 := (fresh_cell K4 hz 8).trans x8
  have hz4 := k4.size
  have HW4 := Lib.hid hw4
  have HK4 := Lib.hid K4
  have HS := Lib.hid (Sl.below hs (bThen HB.out (fresh_below K4)) (show w.heap.size ≤ w1.heap.size by omega))
  clear hw4 k4 K4 x0 x1 x2 x3 x4 x5 x6 x7 x8
  go_wp2_with fail
  refine (wframe_c w4 w1.heap.size w1.heap.size _ k h e A c ps s HW4.out HS.out hm HP.out hst k0 k1 h0 h1 e0 e1 (by rw [List.length_append, List.length_append, List.length_append, List.length_nil]; omega) (by omega)).mono ?_
  rintro er w5 ⟨rfl, hw5, k5⟩
  have HK5 := Lib.hid (HK4.out.trans k5)
  obtain ⟨_, A2, c2, hobj, hown⟩ := hw5
  obtain ⟨v1, v2, v3⟩ := box_cell hobj
  clear k5 hobj
  rw [List.nil_append] at v1 hown
  go_wp2_with fail
  go_ret2
  exact ⟨A2, c2, by simp [List.append_assoc], own_lower hown (by omega), bThen HB.out (fresh_below HK5.out)⟩
theorem EncodePacket_c (w : World) (ep nu : Int) (b : Bool) (ak k h e : Int) (A : Option Addr) (c : Nat) (ps : List PartD) (s : ByteArray) (hT : Tabs w) (hs : OpIn (· < w.heap.size) w A ps) (hm : ps.length ≤ 1048576) (ht : ∀ p ∈ ps, p.text.size ≤ 1048576) (hst : s.size ≤ 1048576) :
    Calls Tryd.prog 34 #[packetV ep nu b ak k h e A ps.length c s] w (RetBytesE w (if packetFault ⟨ep, nu, b, ak, ⟨k, h, e, ps, s⟩⟩ = 0 then packetL ep nu b ak k h e ps s else []) (packetFault ⟨ep, nu, b, ak, ⟨k, h, e, ps, s⟩⟩)) := by
  by_cases hf : packetFault ⟨ep, nu, b, ak, ⟨k, h, e, ps, s⟩⟩ = 0
  · have hC : Hid (∀ W, Below w.heap.size w W → Calls Tryd.prog 86 #[packetV ep nu b ak k h e A ps.length c s] W fun r w' => r = .returned (.int .i64 0) ∧ Below W.heap.size W w') := by
      have := fun W (hb : Below w.heap.size w W) => CheckPacket_c W ep nu b ak k h e A c ps s (hT.later hb) (Sl.later hs hb) hm ht hst
      rw [hf] at this
      exact this
    rw [if_pos hf, hf]
    obtain ⟨⟨q1, q2⟩, ⟨q5, q6⟩, ⟨q3, q4⟩, qb, qf⟩ := packet_facts hf
    unfold packetL
    cases b with
    | true =>
      obtain ⟨rfl, _⟩ := qb rfl
      rw [if_pos rfl, List.append_nil]
      exact EncodePacket_bare w ep ak k h e A _ c s q1 q2 q3 q4 hC
    | false =>
      obtain ⟨_, hff⟩ := qf rfl
      obtain ⟨⟨k0, k1⟩, ⟨h0, h1⟩, ⟨e0, e1⟩, hop, _, _⟩ := frame_facts hff
      rw [if_neg (by decide)]
      exact EncodePacket_frame w ep nu ak k h e A c ps s q1 q2 q3 q4 q5 q6 k0 k1 h0 h1 e0 e1 (opFault_zero hop).1 (writ_of hop ht) hst hs hC
  · rw [if_neg hf]
    exact EncodePacket_no w ep nu b ak k h e A c ps s hT hs hm ht hst hf
end Go.Proofs.YtiooimnlkcpnnaaDoor
