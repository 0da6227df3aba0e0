/-
  Contracts of wire.CheckPacket and its reference PacketFault.
-/
import Derived.Test.YtgcapkkgminidaaDoorRows
import Derived.Test.YtgcapkkgminidaaDoorFrames
namespace Go.Proofs.YtgcapkkgminidaaDoor
open Go.ChangeShapes Go.WideShapes Go.ChangeAt Go.RowKit
set_option maxRecDepth 100000
/-- A packet's data. -/
structure PacketD where
  epoch : Int
  number : Int
  bare : Bool
  ack : Int
  frame : FrameD
def emptyF (f : FrameD) : Prop := f.kind = 0 ∧ f.heard = 0 ∧ f.epoch = 0 ∧ f.op = [] ∧ f.text.toList = []
instance (f : FrameD) : Decidable (emptyF f) := by
  unfold emptyF
  exact inferInstance
/-- What a packet is refused for. -/
def packetFault (p : PacketD) : Int :=
  if (p.epoch < 0 ∨ 1048576 < p.epoch) ∨ (p.number < 0 ∨ 1048576 < p.number) ∨ (p.ack < 0 ∨ 1048576 < p.ack) then 2
  else if p.bare = true then (if p.number = 0 ∧ emptyF p.frame then 0 else 4)
  else if p.number = 0 ∨ p.epoch = 0 then 4 else frameFault p.frame
abbrev packetV (ep nu : Int) (b : Bool) (ak k h e : Int) (A : Option Addr) (n c : Nat) (s : ByteArray) : Value := .agg #[.int .i64 ep, .int .i64 nu, .bool b, .int .i64 ak, .int .i64 k, .int .i64 h, .int .i64 e, .slice A n c, .string s]
theorem empty_0 (w : World) (k h e : Int) (A : Option Addr) (n : Nat) (c : Nat) (s : ByteArray) (_q : (k == 0) = false) : Calls Tryd.prog 105 #[frameV k h e A n c s] w fun r w' => r = .returned (.bool false) ∧ Below w.heap.size w w' := by
  go_enter Tryd.func105, Tryd.ntmps105
  go_wp2_with fail
  go_ret
  exact ⟨rfl, (by repeat (first | exact Below.refl _ _ | apply bGrow | apply bAlloc | apply Below.drew | apply bDrewN | apply bIter))⟩
theorem empty_1 (w : World) (h e : Int) (A : Option Addr) (n : Nat) (c : Nat) (s : ByteArray) (_q : (h == 0) = false) : Calls Tryd.prog 105 #[frameV 0 h e A n c s] w fun r w' => r = .returned (.bool false) ∧ Below w.heap.size w w' := by
  go_enter Tryd.func105, Tryd.ntmps105
  go_wp2_with fail
  go_ret
  exact ⟨rfl, (by repeat (first | exact Below.refl _ _ | apply bGrow | apply bAlloc | apply Below.drew | apply bDrewN | apply bIter))⟩
theorem empty_2 (w : World) (e : Int) (A : Option Addr) (n : Nat) (c : Nat) (s : ByteArray) (_q : (e == 0) = false) : Calls Tryd.prog 105 #[frameV 0 0 e A n c s] w fun r w' => r = .returned (.bool false) ∧ Below w.heap.size w w' := by
  go_enter Tryd.func105, Tryd.ntmps105
  go_wp2_with fail
  go_ret
  exact ⟨rfl, (by repeat (first | exact Below.refl _ _ | apply bGrow | apply bAlloc | apply Below.drew | apply bDrewN | apply bIter))⟩
theorem empty_3 (w : World) (A : Option Addr) (n : Nat) (c : Nat) (s : ByteArray) : Calls Tryd.prog 105 #[frameV 0 0 0 A (n + 1) c s] w fun r w' => r = .returned (.bool false) ∧ Below w.heap.size w w' := by
  go_enter Tryd.func105, Tryd.ntmps105
  go_wp2_with fail
  go_ret
  exact ⟨rfl, (by repeat (first | exact Below.refl _ _ | apply bGrow | apply bAlloc | apply Below.drew | apply bDrewN | apply bIter))⟩
theorem empty_4 (w : World) (A : Option Addr) (c : Nat) (s : ByteArray) (_q : s.toList.isEmpty = false) : Calls Tryd.prog 105 #[frameV 0 0 0 A 0 c s] w fun r w' => r = .returned (.bool false) ∧ Below w.heap.size w w' := by
  go_enter Tryd.func105, Tryd.ntmps105
  go_wp2_with fail
  go_ret
  exact ⟨rfl, (by repeat (first | exact Below.refl _ _ | apply bGrow | apply bAlloc | apply Below.drew | apply bDrewN | apply bIter))⟩
theorem empty_5 (w : World) (A : Option Addr) (c : Nat) (s : ByteArray) (_q : s.toList.isEmpty = true) : Calls Tryd.prog 105 #[frameV 0 0 0 A 0 c s] w fun r w' => r = .returned (.bool true) ∧ Below w.heap.size w w' := by
  go_enter Tryd.func105, Tryd.ntmps105
  go_wp2_with fail
  go_ret
  exact ⟨rfl, (by repeat (first | exact Below.refl _ _ | apply bGrow | apply bAlloc | apply Below.drew | apply bDrewN | apply bIter))⟩
theorem empty_c (w : World) (f : FrameD) (A : Option Addr) (c : Nat) : Calls Tryd.prog 105 #[frameV f.kind f.heard f.epoch A f.op.length c f.text] w fun r w' => r = .returned (.bool (decide (emptyF f))) ∧ Below w.heap.size w w' := by
  obtain ⟨k, h, e, ps, s⟩ := f
  dsimp only
  by_cases h0 : k = 0
  · subst h0
    by_cases h1 : h = 0
    · subst h1
      by_cases h2 : e = 0
      · subst h2
        rcases ps with _ | ⟨p, r⟩
        · by_cases h4 : s.toList = []
          · rw [decide_eq_true (show emptyF ⟨0, 0, 0, [], s⟩ from ⟨rfl, rfl, rfl, rfl, h4⟩)]
            exact empty_5 w A c s (by simpa using h4)
          · rw [decide_eq_false (show ¬ emptyF ⟨0, 0, 0, [], s⟩ from fun q => h4 q.2.2.2.2)]
            exact empty_4 w A c s (by simpa using h4)
        · rw [decide_eq_false (show ¬ emptyF ⟨0, 0, 0, p :: r, s⟩ from fun q => by cases q.2.2.2.1)]
          exact empty_3 w A r.length c s
      · rw [decide_eq_false (show ¬ emptyF ⟨0, 0, e, ps, s⟩ from fun q => h2 q.2.2.1)]
        exact empty_2 w e A ps.length c s (by simpa using h2)
    · rw [decide_eq_false (show ¬ emptyF ⟨0, h, e, ps, s⟩ from fun q => h1 q.2.1)]
      exact empty_1 w h e A ps.length c s (by simpa using h1)
  · rw [decide_eq_false (show ¬ emptyF ⟨k, h, e, ps, s⟩ from fun q => h0 q.1)]
    exact empty_0 w k h e A ps.length c s (by simpa using h0)
theorem CheckPacket_r1 (w : World) (ep nu : Int) (b : Bool) (ak k h e : Int) (A : Option Addr) (n c : Nat) (s : ByteArray) (H : Hid (ep < 0 ∨ 1048576 < ep)) : Calls Tryd.prog 59 #[packetV ep nu b ak k h e A n c s] w fun r w' => r = .returned (.int .i64 2) ∧ Below w.heap.size w w' := by
  go_enter Tryd.func59, Tryd.ntmps59
  go_wp2_with fail
  refine (number_no _ _ H.out).mono ?_
  rintro e w1 ⟨rfl, rfl⟩
  go_wp2_with fail
  go_ret
  exact ⟨rfl, (by repeat (first | exact Below.refl _ _ | apply bGrow | apply bAlloc | apply Below.drew | apply bDrewN | apply bIter))⟩
theorem CheckPacket_r2 (w : World) (ep nu : Int) (b : Bool) (ak k h e : Int) (A : Option Addr) (n c : Nat) (s : ByteArray) (h1 : 0 ≤ ep) (h2 : ep ≤ 1048576) (H : Hid (nu < 0 ∨ 1048576 < nu)) : Calls Tryd.prog 59 #[packetV ep nu b ak k h e A n c s] w fun r w' => r = .returned (.int .i64 2) ∧ Below w.heap.size w w' := by
  go_enter Tryd.func59, Tryd.ntmps59
  go_wp2_with fail
  refine (number_yes _ _ (by omega) (by omega)).mono ?_
  rintro e w1 ⟨rfl, rfl⟩
  go_wp2_with fail
  refine (number_no _ _ H.out).mono ?_
  rintro e w1 ⟨rfl, rfl⟩
  go_wp2_with fail
  go_ret
  exact ⟨rfl, (by repeat (first | exact Below.refl _ _ | apply bGrow | apply bAlloc | apply Below.drew | apply bDrewN | apply bIter))⟩
theorem CheckPacket_r3 (w : World) (ep nu : Int) (b : Bool) (ak k h e : Int) (A : Option Addr) (n c : Nat) (s : ByteArray) (h1 : 0 ≤ ep) (h2 : ep ≤ 1048576) (h3 : 0 ≤ nu) (h4 : nu ≤ 1048576) (H : Hid (ak < 0 ∨ 1048576 < ak)) : Calls Tryd.prog 59 #[packetV ep nu b ak k h e A n c s] w fun r w' => r = .returned (.int .i64 2) ∧ Below w.heap.size w w' := by
  go_enter Tryd.func59, Tryd.ntmps59
  go_wp2_with fail
  refine (number_yes _ _ (by omega) (by omega)).mono ?_
  rintro e w1 ⟨rfl, rfl⟩
  go_wp2_with fail
  refine (number_yes _ _ (by omega) (by omega)).mono ?_
  rintro e w1 ⟨rfl, rfl⟩
  go_wp2_with fail
  refine (number_no _ _ H.out).mono ?_
  rintro e w1 ⟨rfl, rfl⟩
  go_wp2_with fail
  go_ret
  exact ⟨rfl, (by repeat (first | exact Below.refl _ _ | apply bGrow | apply bAlloc | apply Below.drew | apply bDrewN | apply bIter))⟩
theorem CheckPacket_b1 (w : World) (ep nu : Int) (ak k h e : Int) (A : Option Addr) (n c : Nat) (s : ByteArray) (h1 : 0 ≤ ep) (h2 : ep ≤ 1048576) (h3 : 0 ≤ nu) (h4 : nu ≤ 1048576) (h5 : 0 ≤ ak) (h6 : ak ≤ 1048576) (_q : (nu != 0) = true) : Calls Tryd.prog 59 #[packetV ep nu true ak k h e A n c s] w fun r w' => r = .returned (.int .i64 4) ∧ Below w.heap.size w w' := by
  go_enter Tryd.func59, Tryd.ntmps59
  go_wp2_with fail
  refine (number_yes _ _ (by omega) (by omega)).mono ?_
  rintro e w1 ⟨rfl, rfl⟩
  go_wp2_with fail
  refine (number_yes _ _ (by omega) (by omega)).mono ?_
  rintro e w1 ⟨rfl, rfl⟩
  go_wp2_with fail
  refine (number_yes _ _ (by omega) (by omega)).mono ?_
  rintro e w1 ⟨rfl, rfl⟩
  go_wp2_with fail
  go_ret
  exact ⟨rfl, (by repeat (first | exact Below.refl _ _ | apply bGrow | apply bAlloc | apply Below.drew | apply bDrewN | apply bIter))⟩
theorem CheckPacket_b2 (w : World) (ep ak : Int) (f : FrameD) (A : Option Addr) (c : Nat) (h1 : 0 ≤ ep) (h2 : ep ≤ 1048576) (h5 : 0 ≤ ak) (h6 : ak ≤ 1048576) (q : emptyF f) : Calls Tryd.prog 59 #[packetV ep 0 true ak f.kind f.heard f.epoch A f.op.length c f.text] w fun r w' => r = .returned (.int .i64 0) ∧ Below w.heap.size w w' := by
  have HE := Lib.hid (fun W => empty_c W f A c)
  rw [decide_eq_true q] at HE
  clear q
  obtain ⟨k, h, e, ps, s⟩ := f
  dsimp only at *
  go_enter Tryd.func59, Tryd.ntmps59
  go_wp2_with fail
  refine (number_yes _ _ (by omega) (by omega)).mono ?_
  rintro e w1 ⟨rfl, rfl⟩
  go_wp2_with fail
  refine (number_yes _ _ (by omega) (by omega)).mono ?_
  rintro e w1 ⟨rfl, rfl⟩
  go_wp2_with fail
  refine (number_yes _ _ (by omega) (by omega)).mono ?_
  rintro e w1 ⟨rfl, rfl⟩
  go_wp2_with fail
  refine (HE.out _).mono ?_
  rintro r w2 ⟨rfl, hb2⟩
  obtain ⟨⟨d2, os2⟩, rfl⟩ := beyond_of hb2
  go_wp2_with fail
  go_ret
  exact ⟨rfl, (by repeat (first | exact Below.refl _ _ | apply bGrow | apply bAlloc | apply Below.drew | apply bDrewN | apply bIter))⟩
theorem CheckPacket_b3 (w : World) (ep ak : Int) (f : FrameD) (A : Option Addr) (c : Nat) (h1 : 0 ≤ ep) (h2 : ep ≤ 1048576) (h5 : 0 ≤ ak) (h6 : ak ≤ 1048576) (q : ¬ emptyF f) : Calls Tryd.prog 59 #[packetV ep 0 true ak f.kind f.heard f.epoch A f.op.length c f.text] w fun r w' => r = .returned (.int .i64 4) ∧ Below w.heap.size w w' := by
  have HE := Lib.hid (fun W => empty_c W f A c)
  rw [decide_eq_false q] at HE
  clear q
  obtain ⟨k, h, e, ps, s⟩ := f
  dsimp only at *
  go_enter Tryd.func59, Tryd.ntmps59
  go_wp2_with fail
  refine (number_yes _ _ (by omega) (by omega)).mono ?_
  rintro e w1 ⟨rfl, rfl⟩
  go_wp2_with fail
  refine (number_yes _ _ (by omega) (by omega)).mono ?_
  rintro e w1 ⟨rfl, rfl⟩
  go_wp2_with fail
  refine (number_yes _ _ (by omega) (by omega)).mono ?_
  rintro e w1 ⟨rfl, rfl⟩
  go_wp2_with fail
  refine (HE.out _).mono ?_
  rintro r w2 ⟨rfl, hb2⟩
  obtain ⟨⟨d2, os2⟩, rfl⟩ := beyond_of hb2
  go_wp2_with fail
  go_ret
  exact ⟨rfl, (by repeat (first | exact Below.refl _ _ | apply bGrow | apply bAlloc | apply Below.drew | apply bDrewN | apply bIter))⟩
theorem CheckPacket_f1 (w : World) (ep : Int) (ak k h e : Int) (A : Option Addr) (n c : Nat) (s : ByteArray) (h1 : 0 ≤ ep) (h2 : ep ≤ 1048576) (h5 : 0 ≤ ak) (h6 : ak ≤ 1048576) : Calls Tryd.prog 59 #[packetV ep 0 false ak k h e A n c s] w fun r w' => r = .returned (.int .i64 4) ∧ Below w.heap.size w w' := by
  go_enter Tryd.func59, Tryd.ntmps59
  go_wp2_with fail
  refine (number_yes _ _ (by omega) (by omega)).mono ?_
  rintro e w1 ⟨rfl, rfl⟩
  go_wp2_with fail
  refine (number_yes _ _ (by omega) (by omega)).mono ?_
  rintro e w1 ⟨rfl, rfl⟩
  go_wp2_with fail
  refine (number_yes _ _ (by omega) (by omega)).mono ?_
  rintro e w1 ⟨rfl, rfl⟩
  go_wp2_with fail
  go_ret
  exact ⟨rfl, (by repeat (first | exact Below.refl _ _ | apply bGrow | apply bAlloc | apply Below.drew | apply bDrewN | apply bIter))⟩
theorem CheckPacket_f2 (w : World) (nu : Int) (ak k h e : Int) (A : Option Addr) (n c : Nat) (s : ByteArray) (h3 : 1 ≤ nu) (h4 : nu ≤ 1048576) (h5 : 0 ≤ ak) (h6 : ak ≤ 1048576) : Calls Tryd.prog 59 #[packetV 0 nu false ak k h e A n c s] w fun r w' => r = .returned (.int .i64 4) ∧ Below w.heap.size w w' := by
  have z1 : decide (nu < 1) = false := by simp; omega
  go_enter Tryd.func59, Tryd.ntmps59
  go_wp2_with fail
  refine (number_yes _ _ (by omega) (by omega)).mono ?_
  rintro e w1 ⟨rfl, rfl⟩
  go_wp2_with fail
  refine (number_yes _ _ (by omega) (by omega)).mono ?_
  rintro e w1 ⟨rfl, rfl⟩
  go_wp2_with fail
  refine (number_yes _ _ (by omega) (by omega)).mono ?_
  rintro e w1 ⟨rfl, rfl⟩
  go_wp2_with fail
  go_ret
  exact ⟨rfl, (by repeat (first | exact Below.refl _ _ | apply bGrow | apply bAlloc | apply Below.drew | apply bDrewN | apply bIter))⟩
theorem CheckPacket_f3 (w : World) (ep nu ak k h e : Int) (A : Option Addr) (c : Nat) (ps : List PartD) (s : ByteArray) (h1 : 1 ≤ ep) (h2 : ep ≤ 1048576) (h3 : 1 ≤ nu) (h4 : nu ≤ 1048576) (h5 : 0 ≤ ak) (h6 : ak ≤ 1048576) (hT : Tabs w) (hs : OpIn (· < w.heap.size) w A ps) (hm : ps.length ≤ 1048576) (ht : ∀ p ∈ ps, p.text.size ≤ 1048576) (hst : s.size ≤ 1048576) : Calls Tryd.prog 59 #[packetV ep nu false ak k h e A ps.length c s] w fun r w' => r = .returned (.int .i64 (frameFault ⟨k, h, e, ps, s⟩)) ∧ Below w.heap.size w w' := by
  have z1 : decide (nu < 1) = false := by simp; omega
  have z3 : decide (ep < 1) = false := by simp; omega
  have HT := Lib.hid hT
  have HTX := Lib.hid ht
  have HC := Lib.hid (fun W => CheckFrame_c W k h e A c ps s)
  clear hT ht
  generalize frameFault ⟨k, h, e, ps, s⟩ = x at *
  go_enter Tryd.func59, Tryd.ntmps59
  go_wp2_with fail
  refine (number_yes _ _ (by omega) (by omega)).mono ?_
  rintro e w1 ⟨rfl, rfl⟩
  go_wp2_with fail
  refine (number_yes _ _ (by omega) (by omega)).mono ?_
  rintro e w1 ⟨rfl, rfl⟩
  go_wp2_with fail
  refine (number_yes _ _ (by omega) (by omega)).mono ?_
  rintro e w1 ⟨rfl, rfl⟩
  go_wp2_with fail
  refine (HC.out _ (HT.out.later (by repeat (first | exact Below.refl _ _ | apply bGrow | apply bAlloc | apply Below.drew | apply bDrewN | apply bIter))) (Sl.later hs (by repeat (first | exact Below.refl _ _ | apply bGrow | apply bAlloc | apply Below.drew | apply bDrewN | apply bIter))) hm HTX.out hst).mono ?_
  rintro r w2 ⟨rfl, hb2⟩
  obtain ⟨⟨d2, os2⟩, rfl⟩ := beyond_of hb2
  go_wp2_with fail
  go_ret
  exact ⟨rfl, (by repeat (first | exact Below.refl _ _ | apply bGrow | apply bAlloc | apply Below.drew | apply bDrewN | apply bIter))⟩
theorem CheckPacket_c (w : World) (ep nu : Int) (b : Bool) (ak k h e : Int) (A : Option Addr) (c : Nat) (ps : List PartD) (s : ByteArray) (hT : Tabs w) (hs : OpIn (· < w.heap.size) w A ps) (hm : ps.length ≤ 1048576) (ht : ∀ p ∈ ps, p.text.size ≤ 1048576) (hst : s.size ≤ 1048576) :
    Calls Tryd.prog 59 #[packetV ep nu b ak k h e A ps.length c s] w fun r w' => r = .returned (.int .i64 (packetFault ⟨ep, nu, b, ak, ⟨k, h, e, ps, s⟩⟩)) ∧ Below w.heap.size w w' := by
  by_cases g1 : ep < 0 ∨ 1048576 < ep
  · rw [show packetFault ⟨ep, nu, b, ak, ⟨k, h, e, ps, s⟩⟩ = 2 from if_pos (.inl g1)]
    exact CheckPacket_r1 w ep nu b ak k h e A ps.length c s (Lib.hid g1)
  by_cases g2 : nu < 0 ∨ 1048576 < nu
  · rw [show packetFault ⟨ep, nu, b, ak, ⟨k, h, e, ps, s⟩⟩ = 2 from if_pos (.inr (.inl g2))]
    exact CheckPacket_r2 w ep nu b ak k h e A ps.length c s (by omega) (by omega) (Lib.hid g2)
  by_cases g3 : ak < 0 ∨ 1048576 < ak
  · rw [show packetFault ⟨ep, nu, b, ak, ⟨k, h, e, ps, s⟩⟩ = 2 from if_pos (.inr (.inr g3))]
    exact CheckPacket_r3 w ep nu b ak k h e A ps.length c s (by omega) (by omega) (by omega) (by omega) (Lib.hid g3)
  have g : ¬ ((ep < 0 ∨ 1048576 < ep) ∨ (nu < 0 ∨ 1048576 < nu) ∨ (ak < 0 ∨ 1048576 < ak)) := by omega
  cases b with
  | true =>
    rw [show packetFault ⟨ep, nu, true, ak, ⟨k, h, e, ps, s⟩⟩ = if nu = 0 ∧ emptyF ⟨k, h, e, ps, s⟩ then 0 else 4 from (if_neg g).trans (if_pos rfl)]
    by_cases z : nu = 0
    · subst z
      by_cases q : emptyF ⟨k, h, e, ps, s⟩
      · rw [if_pos ⟨rfl, q⟩]
        exact CheckPacket_b2 w ep ak ⟨k, h, e, ps, s⟩ A c (by omega) (by omega) (by omega) (by omega) q
      · rw [if_neg (fun h => q h.2)]
        exact CheckPacket_b3 w ep ak ⟨k, h, e, ps, s⟩ A c (by omega) (by omega) (by omega) (by omega) q
    · rw [if_neg (fun q => z q.1)]
      exact CheckPacket_b1 w ep nu ak k h e A ps.length c s (by omega) (by omega) (by omega) (by omega) (by omega) (by omega) (by simpa using z)
  | false =>
    rw [show packetFault ⟨ep, nu, false, ak, ⟨k, h, e, ps, s⟩⟩ = if nu = 0 ∨ ep = 0 then 4 else frameFault ⟨k, h, e, ps, s⟩ from (if_neg g).trans (if_neg (show ¬ false = true by decide))]
    by_cases z : nu = 0
    · subst z
      rw [if_pos (.inl rfl)]
      exact CheckPacket_f1 w ep ak k h e A ps.length c s (by omega) (by omega) (by omega) (by omega)
    · by_cases y : ep = 0
      · subst y
        rw [if_pos (.inr rfl)]
        exact CheckPacket_f2 w nu ak k h e A ps.length c s (by omega) (by omega) (by omega) (by omega)
      · rw [if_neg (by omega)]
        exact CheckPacket_f3 w ep nu ak k h e A c ps s (by omega) (by omega) (by omega) (by omega) (by omega) (by omega) hT hs hm ht hst
theorem PacketFault_r1 (w : World) (ep nu : Int) (b : Bool) (ak k h e : Int) (A : Option Addr) (n c : Nat) (s : ByteArray) (H : Hid (ep < 0 ∨ 1048576 < ep)) : Calls Tryd.prog 65 #[packetV ep nu b ak k h e A n c s] w fun r w' => r = .returned (.int .i64 2) ∧ Below w.heap.size w w' := by
  go_enter Tryd.func65, Tryd.ntmps65
  go_wp2_with fail
  refine (In_no _ _ _ _ H.out).mono ?_
  rintro e w1 ⟨rfl, rfl⟩
  go_wp2_with fail
  go_ret
  exact ⟨rfl, (by repeat (first | exact Below.refl _ _ | apply bGrow | apply bAlloc | apply Below.drew | apply bDrewN | apply bIter))⟩
theorem PacketFault_r2 (w : World) (ep nu : Int) (b : Bool) (ak k h e : Int) (A : Option Addr) (n c : Nat) (s : ByteArray) (h1 : 0 ≤ ep) (h2 : ep ≤ 1048576) (H : Hid (nu < 0 ∨ 1048576 < nu)) : Calls Tryd.prog 65 #[packetV ep nu b ak k h e A n c s] w fun r w' => r = .returned (.int .i64 2) ∧ Below w.heap.size w w' := by
  go_enter Tryd.func65, Tryd.ntmps65
  go_wp2_with fail
  refine (In_yes _ _ _ _ (by omega) (by omega)).mono ?_
  rintro e w1 ⟨rfl, rfl⟩
  go_wp2_with fail
  refine (In_no _ _ _ _ H.out).mono ?_
  rintro e w1 ⟨rfl, rfl⟩
  go_wp2_with fail
  go_ret
  exact ⟨rfl, (by repeat (first | exact Below.refl _ _ | apply bGrow | apply bAlloc | apply Below.drew | apply bDrewN | apply bIter))⟩
theorem PacketFault_r3 (w : World) (ep nu : Int) (b : Bool) (ak k h e : Int) (A : Option Addr) (n c : Nat) (s : ByteArray) (h1 : 0 ≤ ep) (h2 : ep ≤ 1048576) (h3 : 0 ≤ nu) (h4 : nu ≤ 1048576) (H : Hid (ak < 0 ∨ 1048576 < ak)) : Calls Tryd.prog 65 #[packetV ep nu b ak k h e A n c s] w fun r w' => r = .returned (.int .i64 2) ∧ Below w.heap.size w w' := by
  go_enter Tryd.func65, Tryd.ntmps65
  go_wp2_with fail
  refine (In_yes _ _ _ _ (by omega) (by omega)).mono ?_
  rintro e w1 ⟨rfl, rfl⟩
  go_wp2_with fail
  refine (In_yes _ _ _ _ (by omega) (by omega)).mono ?_
  rintro e w1 ⟨rfl, rfl⟩
  go_wp2_with fail
  refine (In_no _ _ _ _ H.out).mono ?_
  rintro e w1 ⟨rfl, rfl⟩
  go_wp2_with fail
  go_ret
  exact ⟨rfl, (by repeat (first | exact Below.refl _ _ | apply bGrow | apply bAlloc | apply Below.drew | apply bDrewN | apply bIter))⟩
theorem PacketFault_b1 (w : World) (ep nu : Int) (ak k h e : Int) (A : Option Addr) (n c : Nat) (s : ByteArray) (h1 : 0 ≤ ep) (h2 : ep ≤ 1048576) (h3 : 0 ≤ nu) (h4 : nu ≤ 1048576) (h5 : 0 ≤ ak) (h6 : ak ≤ 1048576) (_q : (nu != 0) = true) : Calls Tryd.prog 65 #[packetV ep nu true ak k h e A n c s] w fun r w' => r = .returned (.int .i64 4) ∧ Below w.heap.size w w' := by
  go_enter Tryd.func65, Tryd.ntmps65
  go_wp2_with fail
  refine (In_yes _ _ _ _ (by omega) (by omega)).mono ?_
  rintro e w1 ⟨rfl, rfl⟩
  go_wp2_with fail
  refine (In_yes _ _ _ _ (by omega) (by omega)).mono ?_
  rintro e w1 ⟨rfl, rfl⟩
  go_wp2_with fail
  refine (In_yes _ _ _ _ (by omega) (by omega)).mono ?_
  rintro e w1 ⟨rfl, rfl⟩
  go_wp2_with fail
  go_ret
  exact ⟨rfl, (by repeat (first | exact Below.refl _ _ | apply bGrow | apply bAlloc | apply Below.drew | apply bDrewN | apply bIter))⟩
theorem PacketFault_b20 (w : World) (ep ak k h e : Int) (A : Option Addr) (n c : Nat) (s : ByteArray) (h1 : 0 ≤ ep) (h2 : ep ≤ 1048576) (h5 : 0 ≤ ak) (h6 : ak ≤ 1048576) (_q : (k != 0) = true) : Calls Tryd.prog 65 #[packetV ep 0 true ak k h e A n c s] w fun r w' => r = .returned (.int .i64 4) ∧ Below w.heap.size w w' := by
  go_enter Tryd.func65, Tryd.ntmps65
  go_wp2_with fail
  refine (In_yes _ _ _ _ (by omega) (by omega)).mono ?_
  rintro e w1 ⟨rfl, rfl⟩
  go_wp2_with fail
  refine (In_yes _ _ _ _ (by omega) (by omega)).mono ?_
  rintro e w1 ⟨rfl, rfl⟩
  go_wp2_with fail
  refine (In_yes _ _ _ _ (by omega) (by omega)).mono ?_
  rintro e w1 ⟨rfl, rfl⟩
  go_wp2_with fail
  go_ret
  exact ⟨rfl, (by repeat (first | exact Below.refl _ _ | apply bGrow | apply bAlloc | apply Below.drew | apply bDrewN | apply bIter))⟩
theorem PacketFault_b21 (w : World) (ep ak h e : Int) (A : Option Addr) (n c : Nat) (s : ByteArray) (h1 : 0 ≤ ep) (h2 : ep ≤ 1048576) (h5 : 0 ≤ ak) (h6 : ak ≤ 1048576) (_q : (h != 0) = true) : Calls Tryd.prog 65 #[packetV ep 0 true ak 0 h e A n c s] w fun r w' => r = .returned (.int .i64 4) ∧ Below w.heap.size w w' := by
  go_enter Tryd.func65, Tryd.ntmps65
  go_wp2_with fail
  refine (In_yes _ _ _ _ (by omega) (by omega)).mono ?_
  rintro e w1 ⟨rfl, rfl⟩
  go_wp2_with fail
  refine (In_yes _ _ _ _ (by omega) (by omega)).mono ?_
  rintro e w1 ⟨rfl, rfl⟩
  go_wp2_with fail
  refine (In_yes _ _ _ _ (by omega) (by omega)).mono ?_
  rintro e w1 ⟨rfl, rfl⟩
  go_wp2_with fail
  go_ret
  exact ⟨rfl, (by repeat (first | exact Below.refl _ _ | apply bGrow | apply bAlloc | apply Below.drew | apply bDrewN | apply bIter))⟩
theorem PacketFault_b22 (w : World) (ep ak e : Int) (A : Option Addr) (n c : Nat) (s : ByteArray) (h1 : 0 ≤ ep) (h2 : ep ≤ 1048576) (h5 : 0 ≤ ak) (h6 : ak ≤ 1048576) (_q : (e != 0) = true) : Calls Tryd.prog 65 #[packetV ep 0 true ak 0 0 e A n c s] w fun r w' => r = .returned (.int .i64 4) ∧ Below w.heap.size w w' := by
  go_enter Tryd.func65, Tryd.ntmps65
  go_wp2_with fail
  refine (In_yes _ _ _ _ (by omega) (by omega)).mono ?_
  rintro e w1 ⟨rfl, rfl⟩
  go_wp2_with fail
  refine (In_yes _ _ _ _ (by omega) (by omega)).mono ?_
  rintro e w1 ⟨rfl, rfl⟩
  go_wp2_with fail
  refine (In_yes _ _ _ _ (by omega) (by omega)).mono ?_
  rintro e w1 ⟨rfl, rfl⟩
  go_wp2_with fail
  go_ret
  exact ⟨rfl, (by repeat (first | exact Below.refl _ _ | apply bGrow | apply bAlloc | apply Below.drew | apply bDrewN | apply bIter))⟩
theorem PacketFault_b23 (w : World) (ep ak : Int) (A : Option Addr) (n c : Nat) (s : ByteArray) (h1 : 0 ≤ ep) (h2 : ep ≤ 1048576) (h5 : 0 ≤ ak) (h6 : ak ≤ 1048576)  : Calls Tryd.prog 65 #[packetV ep 0 true ak 0 0 0 A (n + 1) c s] w fun r w' => r = .returned (.int .i64 4) ∧ Below w.heap.size w w' := by
  go_enter Tryd.func65, Tryd.ntmps65
  go_wp2_with fail
  refine (In_yes _ _ _ _ (by omega) (by omega)).mono ?_
  rintro e w1 ⟨rfl, rfl⟩
  go_wp2_with fail
  refine (In_yes _ _ _ _ (by omega) (by omega)).mono ?_
  rintro e w1 ⟨rfl, rfl⟩
  go_wp2_with fail
  refine (In_yes _ _ _ _ (by omega) (by omega)).mono ?_
  rintro e w1 ⟨rfl, rfl⟩
  go_wp2_with fail
  go_ret
  exact ⟨rfl, (by repeat (first | exact Below.refl _ _ | apply bGrow | apply bAlloc | apply Below.drew | apply bDrewN | apply bIter))⟩
theorem PacketFault_b24 (w : World) (ep ak : Int) (A : Option Addr) (c : Nat) (s : ByteArray) (h1 : 0 ≤ ep) (h2 : ep ≤ 1048576) (h5 : 0 ≤ ak) (h6 : ak ≤ 1048576) (_q : s.toList.isEmpty = false) : Calls Tryd.prog 65 #[packetV ep 0 true ak 0 0 0 A 0 c s] w fun r w' => r = .returned (.int .i64 4) ∧ Below w.heap.size w w' := by
  go_enter Tryd.func65, Tryd.ntmps65
  go_wp2_with fail
  refine (In_yes _ _ _ _ (by omega) (by omega)).mono ?_
  rintro e w1 ⟨rfl, rfl⟩
  go_wp2_with fail
  refine (In_yes _ _ _ _ (by omega) (by omega)).mono ?_
  rintro e w1 ⟨rfl, rfl⟩
  go_wp2_with fail
  refine (In_yes _ _ _ _ (by omega) (by omega)).mono ?_
  rintro e w1 ⟨rfl, rfl⟩
  go_wp2_with fail
  go_ret
  exact ⟨rfl, (by repeat (first | exact Below.refl _ _ | apply bGrow | apply bAlloc | apply Below.drew | apply bDrewN | apply bIter))⟩
theorem PacketFault_b25 (w : World) (ep ak : Int) (A : Option Addr) (c : Nat) (s : ByteArray) (h1 : 0 ≤ ep) (h2 : ep ≤ 1048576) (h5 : 0 ≤ ak) (h6 : ak ≤ 1048576) (_q : s.toList.isEmpty = true) : Calls Tryd.prog 65 #[packetV ep 0 true ak 0 0 0 A 0 c s] w fun r w' => r = .returned (.int .i64 0) ∧ Below w.heap.size w w' := by
  go_enter Tryd.func65, Tryd.ntmps65
  go_wp2_with fail
  refine (In_yes _ _ _ _ (by omega) (by omega)).mono ?_
  rintro e w1 ⟨rfl, rfl⟩
  go_wp2_with fail
  refine (In_yes _ _ _ _ (by omega) (by omega)).mono ?_
  rintro e w1 ⟨rfl, rfl⟩
  go_wp2_with fail
  refine (In_yes _ _ _ _ (by omega) (by omega)).mono ?_
  rintro e w1 ⟨rfl, rfl⟩
  go_wp2_with fail
  go_ret
  exact ⟨rfl, (by repeat (first | exact Below.refl _ _ | apply bGrow | apply bAlloc | apply Below.drew | apply bDrewN | apply bIter))⟩
theorem PacketFault_f1 (w : World) (ep : Int) (ak k h e : Int) (A : Option Addr) (n c : Nat) (s : ByteArray) (h1 : 0 ≤ ep) (h2 : ep ≤ 1048576) (h5 : 0 ≤ ak) (h6 : ak ≤ 1048576) : Calls Tryd.prog 65 #[packetV ep 0 false ak k h e A n c s] w fun r w' => r = .returned (.int .i64 4) ∧ Below w.heap.size w w' := by
  go_enter Tryd.func65, Tryd.ntmps65
  go_wp2_with fail
  refine (In_yes _ _ _ _ (by omega) (by omega)).mono ?_
  rintro e w1 ⟨rfl, rfl⟩
  go_wp2_with fail
  refine (In_yes _ _ _ _ (by omega) (by omega)).mono ?_
  rintro e w1 ⟨rfl, rfl⟩
  go_wp2_with fail
  refine (In_yes _ _ _ _ (by omega) (by omega)).mono ?_
  rintro e w1 ⟨rfl, rfl⟩
  go_wp2_with fail
  go_ret
  exact ⟨rfl, (by repeat (first | exact Below.refl _ _ | apply bGrow | apply bAlloc | apply Below.drew | apply bDrewN | apply bIter))⟩
theorem PacketFault_f2 (w : World) (nu : Int) (ak k h e : Int) (A : Option Addr) (n c : Nat) (s : ByteArray) (h3 : 1 ≤ nu) (h4 : nu ≤ 1048576) (h5 : 0 ≤ ak) (h6 : ak ≤ 1048576) : Calls Tryd.prog 65 #[packetV 0 nu false ak k h e A n c s] w fun r w' => r = .returned (.int .i64 4) ∧ Below w.heap.size w w' := by
  have z2 : (nu == 0) = false := by simp; omega
  go_enter Tryd.func65, Tryd.ntmps65
  go_wp2_with fail
  refine (In_yes _ _ _ _ (by omega) (by omega)).mono ?_
  rintro e w1 ⟨rfl, rfl⟩
  go_wp2_with fail
  refine (In_yes _ _ _ _ (by omega) (by omega)).mono ?_
  rintro e w1 ⟨rfl, rfl⟩
  go_wp2_with fail
  refine (In_yes _ _ _ _ (by omega) (by omega)).mono ?_
  rintro e w1 ⟨rfl, rfl⟩
  go_wp2_with fail
  go_ret
  exact ⟨rfl, (by repeat (first | exact Below.refl _ _ | apply bGrow | apply bAlloc | apply Below.drew | apply bDrewN | apply bIter))⟩
theorem PacketFault_f3 (w : World) (ep nu ak k h e : Int) (A : Option Addr) (c : Nat) (ps : List PartD) (s : ByteArray) (h1 : 1 ≤ ep) (h2 : ep ≤ 1048576) (h3 : 1 ≤ nu) (h4 : nu ≤ 1048576) (h5 : 0 ≤ ak) (h6 : ak ≤ 1048576) (hT : Tabs w) (hs : OpIn (· < w.heap.size) w A ps) (hm : ps.length ≤ 1048576) (ht : ∀ p ∈ ps, p.text.size ≤ 1048576) (hst : s.size ≤ 1048576) : Calls Tryd.prog 65 #[packetV ep nu false ak k h e A ps.length c s] w fun r w' => r = .returned (.int .i64 (frameFault ⟨k, h, e, ps, s⟩)) ∧ Below w.heap.size w w' := by
  have z2 : (nu == 0) = false := by simp; omega
  have z4 : (ep == 0) = false := by simp; omega
  have HT := Lib.hid hT
  have HTX := Lib.hid ht
  have HC := Lib.hid (fun W => FrameFault_c W k h e A c ps s)
  clear hT ht
  generalize frameFault ⟨k, h, e, ps, s⟩ = x at *
  go_enter Tryd.func65, Tryd.ntmps65
  go_wp2_with fail
  refine (In_yes _ _ _ _ (by omega) (by omega)).mono ?_
  rintro e w1 ⟨rfl, rfl⟩
  go_wp2_with fail
  refine (In_yes _ _ _ _ (by omega) (by omega)).mono ?_
  rintro e w1 ⟨rfl, rfl⟩
  go_wp2_with fail
  refine (In_yes _ _ _ _ (by omega) (by omega)).mono ?_
  rintro e w1 ⟨rfl, rfl⟩
  go_wp2_with fail
  refine (HC.out _ (HT.out.later (by repeat (first | exact Below.refl _ _ | apply bGrow | apply bAlloc | apply Below.drew | apply bDrewN | apply bIter))) (Sl.later hs (by repeat (first | exact Below.refl _ _ | apply bGrow | apply bAlloc | apply Below.drew | apply bDrewN | apply bIter))) hm HTX.out hst).mono ?_
  rintro r w2 ⟨rfl, hb2⟩
  obtain ⟨⟨d2, os2⟩, rfl⟩ := beyond_of hb2
  go_wp2_with fail
  go_ret
  exact ⟨rfl, (by repeat (first | exact Below.refl _ _ | apply bGrow | apply bAlloc | apply Below.drew | apply bDrewN | apply bIter))⟩
theorem PacketFault_c (w : World) (ep nu : Int) (b : Bool) (ak k h e : Int) (A : Option Addr) (c : Nat) (ps : List PartD) (s : ByteArray) (hT : Tabs w) (hs : OpIn (· < w.heap.size) w A ps) (hm : ps.length ≤ 1048576) (ht : ∀ p ∈ ps, p.text.size ≤ 1048576) (hst : s.size ≤ 1048576) :
    Calls Tryd.prog 65 #[packetV ep nu b ak k h e A ps.length c s] w fun r w' => r = .returned (.int .i64 (packetFault ⟨ep, nu, b, ak, ⟨k, h, e, ps, s⟩⟩)) ∧ Below w.heap.size w w' := by
  by_cases g1 : ep < 0 ∨ 1048576 < ep
  · rw [show packetFault ⟨ep, nu, b, ak, ⟨k, h, e, ps, s⟩⟩ = 2 from if_pos (.inl g1)]
    exact PacketFault_r1 w ep nu b ak k h e A ps.length c s (Lib.hid g1)
  by_cases g2 : nu < 0 ∨ 1048576 < nu
  · rw [show packetFault ⟨ep, nu, b, ak, ⟨k, h, e, ps, s⟩⟩ = 2 from if_pos (.inr (.inl g2))]
    exact PacketFault_r2 w ep nu b ak k h e A ps.length c s (by omega) (by omega) (Lib.hid g2)
  by_cases g3 : ak < 0 ∨ 1048576 < ak
  · rw [show packetFault ⟨ep, nu, b, ak, ⟨k, h, e, ps, s⟩⟩ = 2 from if_pos (.inr (.inr g3))]
    exact PacketFault_r3 w ep nu b ak k h e A ps.length c s (by omega) (by omega) (by omega) (by omega) (Lib.hid g3)
  have g : ¬ ((ep < 0 ∨ 1048576 < ep) ∨ (nu < 0 ∨ 1048576 < nu) ∨ (ak < 0 ∨ 1048576 < ak)) := by omega
  cases b with
  | true =>
    rw [show packetFault ⟨ep, nu, true, ak, ⟨k, h, e, ps, s⟩⟩ = if nu = 0 ∧ emptyF ⟨k, h, e, ps, s⟩ then 0 else 4 from (if_neg g).trans (if_pos rfl)]
    by_cases z : nu = 0
    · subst z
      by_cases z0 : k = 0
      · subst z0
        by_cases z1 : h = 0
        · subst z1
          by_cases z2 : e = 0
          · subst z2
            rcases ps with _ | ⟨p, r⟩
            · by_cases z4 : s.toList = []
              · rw [if_pos ⟨rfl, rfl, rfl, rfl, rfl, z4⟩]
                exact PacketFault_b25 w ep ak A c s (by omega) (by omega) (by omega) (by omega) (by simpa using z4)
              · rw [if_neg (fun q => z4 q.2.2.2.2.2)]
                exact PacketFault_b24 w ep ak A c s (by omega) (by omega) (by omega) (by omega) (by simpa using z4)
            · rw [if_neg (fun q => by cases q.2.2.2.2.1)]
              exact PacketFault_b23 w ep ak A r.length c s (by omega) (by omega) (by omega) (by omega)
          · rw [if_neg (fun q => z2 q.2.2.2.1)]
            exact PacketFault_b22 w ep ak e A ps.length c s (by omega) (by omega) (by omega) (by omega) (by simpa using z2)
        · rw [if_neg (fun q => z1 q.2.2.1)]
          exact PacketFault_b21 w ep ak h e A ps.length c s (by omega) (by omega) (by omega) (by omega) (by simpa using z1)
      · rw [if_neg (fun q => z0 q.2.1)]
        exact PacketFault_b20 w ep ak k h e A ps.length c s (by omega) (by omega) (by omega) (by omega) (by simpa using z0)
    · rw [if_neg (fun q => z q.1)]
      exact PacketFault_b1 w ep nu ak k h e A ps.length c s (by omega) (by omega) (by omega) (by omega) (by omega) (by omega) (by simpa using z)
  | false =>
    rw [show packetFault ⟨ep, nu, false, ak, ⟨k, h, e, ps, s⟩⟩ = if nu = 0 ∨ ep = 0 then 4 else frameFault ⟨k, h, e, ps, s⟩ from (if_neg g).trans (if_neg (show ¬ false = true by decide))]
    by_cases z : nu = 0
    · subst z
      rw [if_pos (.inl rfl)]
      exact PacketFault_f1 w ep ak k h e A ps.length c s (by omega) (by omega) (by omega) (by omega)
    · by_cases y : ep = 0
      · subst y
        rw [if_pos (.inr rfl)]
        exact PacketFault_f2 w nu ak k h e A ps.length c s (by omega) (by omega) (by omega) (by omega)
      · rw [if_neg (by omega)]
        exact PacketFault_f3 w ep nu ak k h e A c ps s (by omega) (by omega) (by omega) (by omega) (by omega) (by omega) hT hs hm ht hst
end Go.Proofs.YtgcapkkgminidaaDoor
