/-
  The laws' sameFrame, samePacket and samePackets, where both read the same.
-/
import Derived.Test.YtgcapkkgminidaaDoorRows
import Derived.Test.YtgcapkkgminidaaDoorFrameOwn
import Derived.Test.YtgcapkkgminidaaDoorSame
import Derived.Test.YtgcapkkgminidaaDoorPackets
namespace Go.Proofs.YtgcapkkgminidaaDoor
open Go.ChangeShapes Go.WideShapes Go.ChangeAt Go.RowKit
set_option maxRecDepth 100000
theorem sameFrame_c (w : World) (k h e : Int) (A A' : Option Addr) (c c' : Nat) (ps : List PartD) (s : ByteArray) (hs : OpIn (· < w.heap.size) w A ps) (hs' : OpIn (· < w.heap.size) w A' ps) (hm : ps.length ≤ 1048576) :
    Calls Tryd.prog 24 #[frameV k h e A ps.length c s, frameV k h e A' ps.length c' s] w fun r w' => r = .returned (.bool true) ∧ Below w.heap.size w w' := by
  have HC := Lib.hid (fun W h h' => sameOp_c W A A' c c' ps h h' hm)
  have HS := Lib.hid hs
  have HS' := Lib.hid hs'
  clear hs hs'
  go_enter Tryd.func24, Tryd.ntmps24
  go_wp2_with fail
  refine (HC.out _ (Sl.later HS.out (by repeat (first | exact Below.refl _ _ | apply bGrow | apply bAlloc | apply Below.drew | apply bDrewN | apply bIter))) (Sl.later HS'.out (by repeat (first | exact Below.refl _ _ | apply bGrow | apply bAlloc | apply Below.drew | apply bDrewN | apply bIter)))).mono ?_
  rintro r w1 ⟨rfl, hb1⟩
  obtain ⟨⟨d1, os1⟩, rfl⟩ := beyond_of hb1
  go_wp2_with fail
  go_ret
  exact ⟨by simp, (by repeat (first | exact Below.refl _ _ | apply bGrow | apply bAlloc | apply Below.drew | apply bDrewN | apply bIter))⟩
theorem samePacket_c (w : World) (ep nu : Int) (b : Bool) (ak k h e : Int) (A A' : Option Addr) (c c' : Nat) (ps : List PartD) (s : ByteArray) (hs : OpIn (· < w.heap.size) w A ps) (hs' : OpIn (· < w.heap.size) w A' ps) (hm : ps.length ≤ 1048576) :
    Calls Tryd.prog 70 #[packetV ep nu b ak k h e A ps.length c s, packetV ep nu b ak k h e A' ps.length c' s] w fun r w' => r = .returned (.bool true) ∧ Below w.heap.size w w' := by
  have HC := Lib.hid (fun W g g' => sameFrame_c W k h e A A' c c' ps s g g' hm)
  have HS := Lib.hid hs
  have HS' := Lib.hid hs'
  clear hs hs'
  go_enter Tryd.func70, Tryd.ntmps70
  go_wp2_with fail
  refine (HC.out _ (Sl.later HS.out (by repeat (first | exact Below.refl _ _ | apply bGrow | apply bAlloc | apply Below.drew | apply bDrewN | apply bIter))) (Sl.later HS'.out (by repeat (first | exact Below.refl _ _ | apply bGrow | apply bAlloc | apply Below.drew | apply bDrewN | apply bIter)))).mono ?_
  rintro r w1 ⟨rfl, hb1⟩
  obtain ⟨⟨d1, os1⟩, rfl⟩ := beyond_of hb1
  go_wp2_with fail
  go_ret
  exact ⟨by simp, (by repeat (first | exact Below.refl _ _ | apply bGrow | apply bAlloc | apply Below.drew | apply bDrewN | apply bIter))⟩
/-- A packet as a slice's cells hold it. -/
structure PacketV where
  ep : Int
  nu : Int
  b : Bool
  ak : Int
  f : FrameV
instance : Inhabited PacketV := ⟨⟨0, 0, false, 0, default⟩⟩
def PacketV.cells (p : PacketV) : List Value := [.int .i64 p.ep, .int .i64 p.nu, .bool p.b, .int .i64 p.ak, .int .i64 p.f.k, .int .i64 p.f.h, .int .i64 p.f.e, p.f.o.val, .string p.f.s]
theorem PacketV.cells_len (p : PacketV) : p.cells.length = 9 := rfl
abbrev PacketV.op (p : PacketV) : OpV := p.f.o
abbrev PacketV.d (p : PacketV) : PacketD := ⟨p.ep, p.nu, p.b, p.ak, p.f.d⟩
structure PacketsIn (w : World) (A : Option Addr) (L : List PacketV) : Prop where
  row : Sl (· < w.heap.size) w 9 A L.length (L.flatMap PacketV.cells)
  each : ∀ p ∈ L, OpIn (· < w.heap.size) w p.f.o.A p.f.o.ps
theorem PacketsIn.later {w w' : World} {A : Option Addr} {L : List PacketV} (h : PacketsIn w A L) (hb : Below w.heap.size w w') : PacketsIn w' A L := ⟨h.row.later hb, fun r hr => Sl.later (h.each r hr) hb⟩
theorem PacketsIn.nil (w : World) : PacketsIn w none [] := ⟨Sl.nil, by simp⟩
theorem PacketsIn.at_ {w : World} {A : Option Addr} {L : List PacketV} (h : PacketsIn w A L) {k : Nat} (hk : k < L.length) :
    ∃ b o, A = some ⟨b, o, none⟩ ∧ b < w.heap.size ∧ w.cell? ⟨b, o + k * 9, none⟩ = some (.int .i64 L[k].ep) ∧ w.cell? ⟨b, o + k * 9 + 1, none⟩ = some (.int .i64 L[k].nu) ∧ w.cell? ⟨b, o + k * 9 + 2, none⟩ = some (.bool L[k].b) ∧ w.cell? ⟨b, o + k * 9 + 3, none⟩ = some (.int .i64 L[k].ak) ∧
      w.cell? ⟨b, o + k * 9 + 4, none⟩ = some (.int .i64 L[k].f.k) ∧ w.cell? ⟨b, o + k * 9 + 5, none⟩ = some (.int .i64 L[k].f.h) ∧ w.cell? ⟨b, o + k * 9 + 6, none⟩ = some (.int .i64 L[k].f.e) ∧
      w.cell? ⟨b, o + k * 9 + 7, none⟩ = some (.slice L[k].f.o.A L[k].f.o.ps.length L[k].f.o.c) ∧ w.cell? ⟨b, o + k * 9 + 8, none⟩ = some (.string L[k].f.s) ∧ OpIn (· < w.heap.size) w L[k].f.o.A L[k].f.o.ps := by
  obtain ⟨b, o, e, hb, hc⟩ := row_at PacketV.cells 9 PacketV.cells_len h.row hk
  exact ⟨b, o, e, hb, hc 0 _ rfl, hc 1 _ rfl, hc 2 _ rfl, hc 3 _ rfl, hc 4 _ rfl, hc 5 _ rfl, hc 6 _ rfl, hc 7 _ rfl, hc 8 _ rfl, h.each _ (List.getElem_mem hk)⟩
set_option maxHeartbeats 1000000 in
theorem samePackets_c (w : World) (A A' : Option Addr) (c c' n : Nat) (L L' : List PacketV) (hs : PacketsIn w A L) (hs' : PacketsIn w A' L') (hp : L'.map PacketV.d = L.map PacketV.d) (hn : L.length = n) (hm : n ≤ 1048577) (hl : ∀ p ∈ L, p.f.o.ps.length ≤ 1048576) :
    Calls Tryd.prog 25 #[.slice A n c, .slice A' n c'] w fun e w' => e = .returned (.bool true) ∧ Below w.heap.size w w' := by
  have hn' : L'.length = n := by rw [← hn, ← List.length_map (f := PacketV.d), hp, List.length_map]
  have HS := Lib.hid hs
  have HS' := Lib.hid hs'
  have HL := Lib.hid hl
  have HN := Lib.hid hn
  have HN' := Lib.hid hn'
  have HE := Lib.hid (show ∀ k (h : k < L.length) (h' : k < L'.length), L'[k].d = L[k].d from fun k h h' => by
    have := congrArg (fun l => l[k]?) hp
    simpa [h, h'] using this)
  clear hs hs' hl hn hn' hp
  go_enter Tryd.func25, Tryd.ntmps25
  go_wp2_with fail
  go_loopw [4, 5] (fun r i wr => ∃ (k : Nat), k ≤ n ∧ i = .int .i64 k ∧ r = .bool false ∧ Below w.heap.size w wr) (fun _ i _ => n - (intOf i).toNat)
  case atStart => exact ⟨0, Nat.zero_le _, rfl, rfl, Below.refl _ _⟩
  case round =>
    obtain ⟨k, hk, rfl, rfl, hbw⟩ := hrel
    by_cases hlt : k < n
    · obtain ⟨b, o, rfl, hbs, g0, g1, g2, g3, g4, g5, g6, g7, g8, hop⟩ := (HS.out.later hbw).at_ (k := k) (by rw [HN.out]; exact hlt)
      obtain ⟨b', o', rfl, hbs', g0', g1', g2', g3', g4', g5', g6', g7', g8', hop'⟩ := (HS'.out.later hbw).at_ (k := k) (by rw [HN'.out]; exact hlt)
      have he := HE.out k (by rw [HN.out]; exact hlt) (by rw [HN'.out]; exact hlt)
      have hlen := HL.out _ (List.getElem_mem (show k < L.length by rw [HN.out]; exact hlt))
      generalize L[k]'(by rw [HN.out]; exact hlt) = q at *
      generalize L'[k]'(by rw [HN'.out]; exact hlt) = q' at *
      obtain ⟨ep, nu, bb, ak, fk, fh, fe, ⟨qA, qc, qp⟩, fs⟩ := q
      obtain ⟨ep', nu', bb', ak', fk', fh', fe', ⟨qA', qc', qp'⟩, fs'⟩ := q'
      dsimp only at *
      simp only [PacketV.d, FrameV.d, PacketD.mk.injEq, FrameD.mk.injEq] at he
      obtain ⟨rfl, rfl, rfl, rfl, rfl, rfl, rfl, rfl, rfl⟩ := he
      have HC := Lib.hid (fun W h h' => samePacket_c W ep' nu' bb' ak' fk' fh' fe' qA qA' qc qc' qp' fs' h h' hlen)
      have HP := Lib.hid hop
      have HP' := Lib.hid hop'
      clear hop hop' hlen
      go_wp2_with fail
      go_region_law (first
        | (go_simp; go_at_call 70; refine (HC.out _ ?_ ?_).mono ?_; exact HP.out; exact HP'.out; rintro e w2 ⟨rfl, hb2⟩; obtain ⟨⟨d2, os2⟩, rfl⟩ := beyond_of hb2))
      all_goals (
        have HB2 := Lib.hid (show Below wr.heap.size wr (Go.Sort.grow (redrawn wr d2) os2) from ⟨hb2.os, hb2.tape, hb2.output, hb2.size, hb2.block⟩)
        clear hb2
        go_wp2_with fail
        go_roundw
        case rel => exact ⟨k + 1, by omega, by go_num, rfl, bThen hbw HB2.out⟩
        case measure => simp [intOf]; omega)
    · obtain rfl : k = n := by omega
      go_wp2_with fail
      go_ret
      exact ⟨rfl, (by repeat (first | exact hbw | exact Below.refl _ _ | apply bGrow | apply bAlloc | apply Below.drew | apply bDrewN | apply bIter))⟩
end Go.Proofs.YtgcapkkgminidaaDoor
