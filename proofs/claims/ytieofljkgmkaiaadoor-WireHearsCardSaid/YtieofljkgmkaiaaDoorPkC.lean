/-
  Contracts of wire.DecodePacket and its reference PacketOf, joined.
-/
import Derived.Test.YtieofljkgmkaiaaDoorRows
import Derived.Test.YtieofljkgmkaiaaDoorDecPk
import Derived.Test.YtieofljkgmkaiaaDoorPkOfB
import Derived.Test.YtieofljkgmkaiaaDoorPkOfE
import Derived.Test.YtieofljkgmkaiaaDoorPkOfT
import Derived.Test.YtieofljkgmkaiaaDoorPkOfN
namespace Go.Proofs.YtieofljkgmkaiaaDoor
open Go.ChangeShapes Go.WideShapes Go.ChangeAt Go.RowKit Go.Joins Go.Deep
set_option maxRecDepth 100000
/-- What stands behind a packet's three numbers. -/
def pkRest (ep ak : Int) (x : Int × List UInt8 × Int) : PacketD × List UInt8 × Int :=
  if x.1 = 0 then (⟨ep, 0, true, ak, noFrame⟩, x.2) else (⟨ep, x.1, false, ak, (readFrame x.2.1 x.2.2).1⟩, (readFrame x.2.1 x.2.2).2)
/-- What comes of a packet that was read. -/
def pkDone (y : PacketD × List UInt8 × Int) : PacketD × Int :=
  if endFault y.2.1 y.2.2 ≠ 0 then (noPacket, endFault y.2.1 y.2.2) else if packetFault y.1 ≠ 0 then (noPacket, packetFault y.1) else (y.1, 0)
def pkAck (ep : Int) (x : Int × List UInt8 × Int) : PacketD × List UInt8 × Int := pkRest ep x.1 (readNum x.2.1 x.2.2)
def pkEp (x : Int × List UInt8 × Int) : PacketD × List UInt8 × Int := pkAck x.1 (readNum x.2.1 x.2.2)
/-- A packet from its bytes, and what is wrong. -/
def readPk (bs : List UInt8) : PacketD × Int := if 50000 < bs.length then (noPacket, 1) else pkDone (pkEp (readNum bs 0))
theorem frame_len (l : List UInt8) (f : Int) : (readFrame l f).1.op.length ≤ l.length + 1 ∧ (∀ p ∈ (readFrame l f).1.op, p.text.size ≤ l.length) ∧ (readFrame l f).1.text.size ≤ l.length := by
  unfold readFrame frameRest
  have h1 := (readNum_any l f).len
  have h2 := (readNum_any (readNum l f).2.1 (readNum l f).2.2).len
  split
  · have h3 := op_len (readNum (readNum l f).2.1 (readNum l f).2.2).2.1 (readNum (readNum l f).2.1 (readNum l f).2.2).2.2
    exact ⟨Nat.le_trans h3.1 (by omega), fun p hp => by have := h3.2.2 p hp; omega, Nat.zero_le _⟩
  · split
    · have h3 := text_len (readNum (readNum l f).2.1 (readNum l f).2.2).2.1 (readNum (readNum l f).2.1 (readNum l f).2.2).2.2
      exact ⟨Nat.zero_le _, fun p hp => (by cases hp), by exact Nat.le_trans h3.2 (by omega)⟩
    · exact ⟨Nat.zero_le _, fun p hp => (by cases hp), Nat.zero_le _⟩
theorem readPk_len (bs : List UInt8) : (readPk bs).1.frame.op.length ≤ 1048576 := by
  unfold readPk
  by_cases h : 50000 < bs.length
  · rw [if_pos h]; exact Nat.zero_le _
  rw [if_neg h]
  unfold pkDone
  split
  · exact Nat.zero_le _
  split
  · exact Nat.zero_le _
  unfold pkEp pkAck pkRest
  have h1 := (readNum_any bs 0).len
  have h2 := (readNum_any (readNum bs 0).2.1 (readNum bs 0).2.2).len
  have h3 := (readNum_any (readNum (readNum bs 0).2.1 (readNum bs 0).2.2).2.1 (readNum (readNum bs 0).2.1 (readNum bs 0).2.2).2.2).len
  split
  · exact Nat.zero_le _
  · refine Nat.le_trans (frame_len _ _).1 ?_
    omega
theorem pkDone_of {y : PacketD} {l : List UInt8} {f er : Int} (he : (if endFault l f = 0 then packetFault y else endFault l f) = er) : pkDone (y, l, f) = if er = 0 then (y, 0) else (noPacket, er) := by
  unfold pkDone
  subst he
  dsimp only
  by_cases q : endFault l f = 0
  · rw [if_neg (fun z => z q), if_pos q]
    by_cases r : packetFault y = 0
    · rw [if_neg (fun z => z r), if_pos r]
    · rw [if_pos r, if_neg r]
  · rw [if_pos q, if_neg q, if_neg q]
theorem end_some {l : List UInt8} {f : Int} (h : f ≠ 0) : endFault l f = f := if_neg fun z => h z.1
section
variable (w : World) (A : Option Addr) (c : Nat) (bs : List UInt8) (hs : Sl (· < w.heap.size) w 1 A bs.length (bs.map byteV)) (hT : Tabs w)
include hs hT
theorem DecodePacket_c : Calls Tryd.prog 38 #[.slice A bs.length c] w (RetPk w (readPk bs)) := by
  by_cases hb : 50000 < bs.length
  · rw [show readPk bs = (noPacket, 1) from if_pos hb]
    exact DecodePacket_big w A c bs hb
  have hl : bs.length ≤ 50000 := by omega
  unfold readPk
  rw [if_neg hb]
  have n1 := (readNum_any bs 0).len
  rcases hx : readNum bs 0 with ⟨ep, l1, f1⟩
  rw [hx] at n1
  unfold pkEp
  dsimp only at n1 ⊢
  have n2 := (readNum_any l1 f1).len
  rcases hy : readNum l1 f1 with ⟨ak, l2, f2⟩
  rw [hy] at n2
  unfold pkAck
  dsimp only at n2 ⊢
  have n3 := (readNum_any l2 f2).len
  rcases hz : readNum l2 f2 with ⟨nu, l3, f3⟩
  rw [hz] at n3
  unfold pkRest
  dsimp only at n3 ⊢
  by_cases h0 : nu = 0
  · subst h0
    rw [if_pos rfl]
    by_cases hg : endFault l3 f3 = 0
    · by_cases hf : packetFault ⟨ep, 0, true, ak, noFrame⟩ = 0
      · rw [pkDone_of (by rw [if_pos hg, hf]), if_pos rfl]
        exact DecodePacket_bo w A c bs hs hl hT l1 l2 l3 f1 f2 f3 ep ak hx hy hz hg hf
      · rw [pkDone_of (by rw [if_pos hg]), if_neg hf]
        exact DecodePacket_bf w A c bs hs hl hT l1 l2 l3 f1 f2 f3 ep ak hx hy hz hg _ rfl (by simpa using hf)
    · rw [pkDone_of (by rw [if_neg hg]), if_neg hg]
      exact DecodePacket_bg w A c bs hs hl hT l1 l2 l3 f1 f2 f3 ep ak hx hy hz _ rfl (by simpa using hg)
  · have hnb : (nu == 0) = false := by simpa using h0
    rw [if_neg h0]
    have n4 := frame_len l3 f3
    rcases hr : readFrame l3 f3 with ⟨⟨k, h, e, ps, s⟩, l4, f4⟩
    rw [hr] at n4
    obtain ⟨m1, m2, m3⟩ := n4
    dsimp only at m1 m2 m3 ⊢
    have hP : ps.length ≤ 1048576 ∧ (∀ p ∈ ps, p.text.size ≤ 1048576) ∧ s.size ≤ 1048576 := ⟨by omega, fun p hp => by have := m2 p hp; omega, by omega⟩
    by_cases hg : endFault l4 f4 = 0
    · by_cases hf : packetFault ⟨ep, nu, false, ak, ⟨k, h, e, ps, s⟩⟩ = 0
      · rw [pkDone_of (by rw [if_pos hg, hf]), if_pos rfl]
        exact DecodePacket_fo w A c bs hs hl hT l1 l2 l3 f1 f2 f3 ep ak nu hnb (by omega) k h e ps s l4 f4 hx hy hz hr hP hg hf
      · rw [pkDone_of (by rw [if_pos hg]), if_neg hf]
        exact DecodePacket_ff w A c bs hs hl hT l1 l2 l3 f1 f2 f3 ep ak nu hnb (by omega) k h e ps s l4 f4 hx hy hz hr hP hg _ rfl (by simpa using hf)
    · rw [pkDone_of (by rw [if_neg hg]), if_neg hg]
      exact DecodePacket_fg w A c bs hs hl hT l1 l2 l3 f1 f2 f3 ep ak nu hnb (by omega) k h e ps s l4 f4 hx hy hz hr _ rfl (by simpa using hg)
variable (hc : bs.length ≤ c ∧ c ≤ 9223372036854775807)
include hc
theorem PacketOf_c : Calls Tryd.prog 40 #[.slice A bs.length c] w (RetPk w (readPk bs)) := by
  by_cases hb : 50000 < bs.length
  · rw [show readPk bs = (noPacket, 1) from if_pos hb]
    exact PacketOf_big w A c bs hb
  have hl : bs.length ≤ 50000 := by omega
  unfold readPk
  rw [if_neg hb]
  have n1 := (readNum_any bs 0).len
  rcases hx : readNum bs 0 with ⟨ep, l1, f1⟩
  rw [hx] at n1
  unfold pkEp
  dsimp only at n1 ⊢
  have n2 := (readNum_any l1 f1).len
  rcases hy : readNum l1 f1 with ⟨ak, l2, f2⟩
  rw [hy] at n2
  unfold pkAck
  dsimp only at n2 ⊢
  have n3 := (readNum_any l2 f2).len
  rcases hz : readNum l2 f2 with ⟨nu, l3, f3⟩
  rw [hz] at n3
  unfold pkRest
  dsimp only at n3 ⊢
  by_cases h0 : nu = 0
  · subst h0
    rw [if_pos rfl]
    by_cases hf3 : f3 = 0
    · subst hf3
      cases l3 with
      | nil =>
        by_cases hf : packetFault ⟨ep, 0, true, ak, noFrame⟩ = 0
        · rw [pkDone_of (by rw [if_pos (show endFault [] 0 = 0 from rfl), hf]), if_pos rfl]
          exact PacketOf_bo w A c bs hs hc hl hT l1 l2 f1 f2 ep ak hx hy hz hf
        · rw [pkDone_of (by rw [if_pos (show endFault [] 0 = 0 from rfl)]), if_neg hf]
          exact PacketOf_bf w A c bs hs hc hl hT l1 l2 f1 f2 ep ak hx hy hz _ rfl (by simpa using hf)
      | cons ch tl =>
        have hg : endFault (ch :: tl) 0 = 4 := if_pos ⟨rfl, by simp⟩
        rw [pkDone_of (by rw [hg, if_neg (by decide)]), if_neg (by decide)]
        exact PacketOf_bb w A c bs hs hc hl hT l1 l2 f1 f2 ep ak ch tl hx hy hz
    · rw [pkDone_of (by rw [end_some hf3, if_neg hf3]), if_neg hf3]
      exact PacketOf_ba w A c bs hs hc hl hT l1 l2 l3 f1 f2 f3 ep ak (by simpa using hf3) hx hy hz
  have hnb : (nu == 0) = false := by simpa using h0
  rw [if_neg h0]
  unfold readFrame frameRest
  have n4 := (readNum_any l3 f3).len
  rcases hk : readNum l3 f3 with ⟨k, l4, f4⟩
  rw [hk] at n4
  dsimp only at n4 ⊢
  have n5 := (readNum_any l4 f4).len
  rcases hh : readNum l4 f4 with ⟨h, l5, f5⟩
  rw [hh] at n5
  dsimp only at n5 ⊢
  by_cases k1 : k = 1
  · subst k1
    rw [if_pos rfl]
    have ho := op_len l5 f5
    rcases hz2 : readOp l5 f5 with ⟨ps, l6, f6⟩
    rw [hz2] at ho
    obtain ⟨m1, _, m3⟩ := ho
    dsimp only at m1 m3 ⊢
    have hP : ps.length ≤ 1048576 ∧ (∀ p ∈ ps, p.text.size ≤ 1048576) := ⟨by omega, fun p hp => by have := m3 p hp; omega⟩
    by_cases hf6 : f6 = 0
    · subst hf6
      cases l6 with
      | nil =>
        by_cases hf : packetFault ⟨ep, nu, false, ak, ⟨1, h, 0, ps, ⟨#[]⟩⟩⟩ = 0
        · rw [pkDone_of (by rw [if_pos (show endFault [] 0 = 0 from rfl), hf]), if_pos rfl]
          exact PacketOf_eo w A c bs hs hc hl hT l1 l2 l3 l4 l5 f1 f2 f3 f4 f5 ep ak nu hnb h ps (by omega) hx hy hz hk hh hz2 hP hf
        · rw [pkDone_of (by rw [if_pos (show endFault [] 0 = 0 from rfl)]), if_neg hf]
          exact PacketOf_ef w A c bs hs hc hl hT l1 l2 l3 l4 l5 f1 f2 f3 f4 f5 ep ak nu hnb h ps (by omega) hx hy hz hk hh hz2 hP _ rfl (by simpa using hf)
      | cons ch tl =>
        have hg : endFault (ch :: tl) 0 = 4 := if_pos ⟨rfl, by simp⟩
        rw [pkDone_of (by rw [hg, if_neg (by decide)]), if_neg (by decide)]
        exact PacketOf_eb w A c bs hs hc hl hT l1 l2 l3 l4 l5 f1 f2 f3 f4 f5 ep ak nu hnb h ps (by omega) ch tl hx hy hz hk hh hz2
    · rw [pkDone_of (by rw [end_some hf6, if_neg hf6]), if_neg hf6]
      exact PacketOf_ea w A c bs hs hc hl hT l1 l2 l3 l4 l5 l6 f1 f2 f3 f4 f5 f6 ep ak nu hnb h ps (by omega) (by simpa using hf6) hx hy hz hk hh hz2
  rw [if_neg k1]
  by_cases k3 : k = 3
  · subst k3
    rw [if_pos rfl]
    have ho := text_len l5 f5
    rcases hz2 : readText l5 f5 with ⟨s, l6, f6⟩
    rw [hz2] at ho
    obtain ⟨_, m3⟩ := ho
    dsimp only at m3 ⊢
    have hP : s.size ≤ 1048576 := by omega
    by_cases hf6 : f6 = 0
    · subst hf6
      cases l6 with
      | nil =>
        by_cases hf : packetFault ⟨ep, nu, false, ak, ⟨3, 0, h, [], s⟩⟩ = 0
        · rw [pkDone_of (by rw [if_pos (show endFault [] 0 = 0 from rfl), hf]), if_pos rfl]
          exact PacketOf_to w A c bs hs hc hl hT l1 l2 l3 l4 l5 f1 f2 f3 f4 f5 ep ak nu hnb h s hx hy hz hk hh hz2 hP hf
        · rw [pkDone_of (by rw [if_pos (show endFault [] 0 = 0 from rfl)]), if_neg hf]
          exact PacketOf_tf w A c bs hs hc hl hT l1 l2 l3 l4 l5 f1 f2 f3 f4 f5 ep ak nu hnb h s hx hy hz hk hh hz2 hP _ rfl (by simpa using hf)
      | cons ch tl =>
        have hg : endFault (ch :: tl) 0 = 4 := if_pos ⟨rfl, by simp⟩
        rw [pkDone_of (by rw [hg, if_neg (by decide)]), if_neg (by decide)]
        exact PacketOf_tb w A c bs hs hc hl hT l1 l2 l3 l4 l5 f1 f2 f3 f4 f5 ep ak nu hnb h s ch tl hx hy hz hk hh hz2
    · rw [pkDone_of (by rw [end_some hf6, if_neg hf6]), if_neg hf6]
      exact PacketOf_ta w A c bs hs hc hl hT l1 l2 l3 l4 l5 l6 f1 f2 f3 f4 f5 f6 ep ak nu hnb h s (by simpa using hf6) hx hy hz hk hh hz2
  rw [if_neg k3]
  have k1' : (k == 1) = false := by simpa using k1
  have k3' : (k == 3) = false := by simpa using k3
  rcases hz2 : readNum l5 f5 with ⟨hd, l6, f6⟩
  dsimp only
  by_cases hf6 : f6 = 0
  · subst hf6
    cases l6 with
    | nil =>
      by_cases hf : packetFault ⟨ep, nu, false, ak, ⟨k, hd, h, [], ⟨#[]⟩⟩⟩ = 0
      · rw [pkDone_of (by rw [if_pos (show endFault [] 0 = 0 from rfl), hf]), if_pos rfl]
        exact PacketOf_no w A c bs hs hc hl hT l1 l2 l3 l4 l5 f1 f2 f3 f4 f5 ep ak nu hnb k h hd k1' k3' hx hy hz hk hh hz2 hf
      · rw [pkDone_of (by rw [if_pos (show endFault [] 0 = 0 from rfl)]), if_neg hf]
        exact PacketOf_nf w A c bs hs hc hl hT l1 l2 l3 l4 l5 f1 f2 f3 f4 f5 ep ak nu hnb k h hd k1' k3' hx hy hz hk hh hz2 _ rfl (by simpa using hf)
    | cons ch tl =>
      have hg : endFault (ch :: tl) 0 = 4 := if_pos ⟨rfl, by simp⟩
      rw [pkDone_of (by rw [hg, if_neg (by decide)]), if_neg (by decide)]
      exact PacketOf_nb w A c bs hs hc hl hT l1 l2 l3 l4 l5 f1 f2 f3 f4 f5 ep ak nu hnb k h hd k1' k3' ch tl hx hy hz hk hh hz2
  · rw [pkDone_of (by rw [end_some hf6, if_neg hf6]), if_neg hf6]
    exact PacketOf_na w A c bs hs hc hl hT l1 l2 l3 l4 l5 l6 f1 f2 f3 f4 f5 f6 ep ak nu hnb k h hd k1' k3' (by simpa using hf6) hx hy hz hk hh hz2
end
end Go.Proofs.YtieofljkgmkaiaaDoor
