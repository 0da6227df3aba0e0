/-
  Frames and links that came in, opened.
  The laws' sameFrames and sameLink, where both say the same.
  A packet that came in, opened.
  What link.Hear and the reference's LinkHeard answer where they refuse nothing: the nine cases joined.
  wherrylaw.LinkHears returns true for every link and packet, where what it reads is of bulk at most 1048576, and unicode/utf8's two tables are as their text lays them.
-/
import Derived.Test.YtgcapkkgminidaaDoorMHearA
import Derived.Test.YtgcapkkgminidaaDoorMHearB
import Derived.Test.YtgcapkkgminidaaDoorMHeardA
import Derived.Test.YtgcapkkgminidaaDoorMHeardB
import Derived.Test.YtgcapkkgminidaaDoorRows
import Derived.Test.YtgcapkkgminidaaDoorLinkC
import Derived.Test.YtgcapkkgminidaaDoorOpenB
import Derived.Test.YtgcapkkgminidaaDoorLinkCopy
import Derived.Test.YtgcapkkgminidaaDoorStop
import Derived.Test.YtgcapkkgminidaaDoorPackets
import Derived.Test.YtgcapkkgminidaaDoorDoor
namespace Go.Proofs.YtgcapkkgminidaaDoor
open Go.ChangeShapes Go.WideShapes Go.ChangeAt Go.RowKit Go.Joins Go.Deep
set_option maxRecDepth 100000
section
variable {H : Type} {enc : TypeId × Value → H} {w : World} {m : Nat}
structure FrameV.Fit (f : FrameV) : Prop where
  op : f.o.Fit
  text : f.s.size ≤ 1048576
theorem FrameV.Fit.small {f : FrameV} (h : f.Fit) : f.Small := ⟨h.op.small, h.text⟩
theorem open_frames {v : Value} {y : DataW H × List MemPlace} (h : DataW.trod enc Tryd.prog w 0 (fun _ => true) true m 33 [v] = some y) (hb : Rows.uptoBulk y.1 ≤ 1048576) :
    ∃ (A : Option Addr) (c : Nat) (L : List FrameV), v = .slice A L.length c ∧ L.length ≤ c ∧ c ≤ 9223372036854775807 ∧ FramesIn w A L ∧ L.length ≤ 1048576 ∧ ∀ f ∈ L, f.Fit := by
  obtain ⟨A, c, L, hv, h1, h2, hrow, hl, hq⟩ := open_rows FrameV.cells 5 FrameV.cells_len (by decide) (fun f => OpIn (· < w.heap.size) w f.o.A f.o.ps ∧ f.Fit) Tryd.underlying33 (by kernel_rfl) (fun m cs y h hb => by
    obtain ⟨k, hd, ep, A, c, ps, s, rfl, _, _, _, ⟨g1, g2, g3, g4, g5⟩, g6⟩ := open_frame h hb
    exact ⟨⟨k, hd, ep, ⟨A, c, ps⟩, s⟩, rfl, g3, ⟨⟨g4, g5, g1, g2⟩, g6⟩⟩) h hb
  exact ⟨A, c, L, hv, h1, h2, ⟨hrow, fun f hf => (hq f hf).1⟩, Nat.le_trans hl hb, fun f hf => (hq f hf).2⟩
structure LinkV.Fit (l : LinkV) : Prop where
  sl : l.s.length ≤ 1048576
  ql : l.q.length ≤ 1048576
  s : ∀ f ∈ l.s, f.Fit
  q : ∀ f ∈ l.q, f.Fit
  sc : l.s.length ≤ l.sc ∧ l.sc ≤ 9223372036854775807
  qc : l.q.length ≤ l.qc ∧ l.qc ≤ 9223372036854775807
theorem LinkV.Fit.small {l : LinkV} (h : l.Fit) : l.Small := ⟨h.sl, h.ql, fun f hf => (h.s f hf).small, fun f hf => (h.q f hf).small⟩
theorem open_link {cs : List Value} {y : DataW H × List MemPlace} (h : DataW.trod enc Tryd.prog w 0 (fun _ => true) true m 35 cs = some y) (hb : Rows.uptoBulk y.1 ≤ 1048576) :
    ∃ l : LinkV, cs = [.int .i64 l.e, .int .i64 l.n, .slice l.sA l.s.length l.sc, .slice l.qA l.q.length l.qc, .int .i64 l.h] ∧ l.In w ∧ l.Fit := by
  obtain ⟨ys, n, hx, _, hl, hf⟩ := open_struct Tryd.underlying35 (by kernel_rfl) (by kernel_rfl) h
  obtain ⟨v0, v1, v2, v3, v4, rfl⟩ := list5 hl
  obtain ⟨_, y0, hc0, hy0, ht0⟩ := hf 0 _ rfl
  obtain ⟨_, y1, hc1, hy1, ht1⟩ := hf 1 _ rfl
  obtain ⟨_, y2, hc2, hy2, ht2⟩ := hf 2 _ rfl
  obtain ⟨_, y3, hc3, hy3, ht3⟩ := hf 3 _ rfl
  obtain ⟨_, y4, hc4, hy4, ht4⟩ := hf 4 _ rfl
  obtain rfl := Option.some.inj hc0
  obtain rfl := Option.some.inj hc1
  obtain rfl := Option.some.inj hc2
  obtain rfl := Option.some.inj hc3
  obtain rfl := Option.some.inj hc4
  obtain ⟨e, rfl, _⟩ := open_num Tryd.underlying3 ht0
  obtain ⟨n, rfl, _⟩ := open_num Tryd.underlying3 ht1
  obtain ⟨sA, sc, s, rfl, s1, s2, s3, s4, s5⟩ := open_frames ht2 (bulk_field hx hb hy2)
  obtain ⟨qA, qc, q, rfl, q1, q2, q3, q4, q5⟩ := open_frames ht3 (bulk_field hx hb hy3)
  obtain ⟨hd, rfl, _⟩ := open_num Tryd.underlying3 ht4
  exact ⟨⟨e, n, sA, sc, s, qA, qc, q, hd⟩, rfl, ⟨s3, q3⟩, ⟨s4, q4, s5, q5, ⟨s1, s2⟩, ⟨q1, q2⟩⟩⟩
end
end Go.Proofs.YtgcapkkgminidaaDoor
namespace Go.Proofs.YtgcapkkgminidaaDoor
open Go.ChangeShapes Go.WideShapes Go.ChangeAt Go.RowKit
set_option maxRecDepth 100000
set_option maxHeartbeats 1000000 in
theorem sameFrames_c (w : World) (A A' : Option Addr) (c c' n : Nat) (L L' : List FrameV) (hs : FramesIn w A L) (hs' : FramesIn w A' L') (hp : L'.map FrameV.d = L.map FrameV.d) (hn : L.length = n) (hm : n ≤ 1048577) (hl : ∀ f ∈ L, f.o.ps.length ≤ 1048576) :
    Calls Tryd.prog 69 #[.slice A n c, .slice A' n c'] w fun e w' => e = .returned (.bool true) ∧ Below w.heap.size w w' := by
  have hn' : L'.length = n := by rw [← hn, ← List.length_map (f := FrameV.d), hp, List.length_map]
  have HS := Lib.hid hs
  have HS' := Lib.hid hs'
  have HL := Lib.hid hl
  have HN := Lib.hid hn
  have HN' := Lib.hid hn'
  have HE := Lib.hid hp
  clear hs hs' hl hn hn' hp
  go_enter Tryd.func69, Tryd.ntmps69
  go_wp2_with fail
  go_loopw [4, 5] (fun r i wr => ∃ (k : Nat), k ≤ n ∧ i = .int .i64 k ∧ r = .bool false ∧ Below w.heap.size w wr) (fun _ i _ => n - (intOf i).toNat)
  case atStart => exact ⟨0, Nat.zero_le _, rfl, rfl, Below.refl _ _⟩
  case round =>
    obtain ⟨k, hk, rfl, rfl, hbw⟩ := hrel
    by_cases hlt : k < n
    · obtain ⟨b, o, rfl, hbs, g0, g1, g2, g3, g4, hop⟩ := (HS.out.later hbw).at_ (k := k) (by rw [HN.out]; exact hlt)
      obtain ⟨b', o', rfl, hbs', g0', g1', g2', g3', g4', hop'⟩ := (HS'.out.later hbw).at_ (k := k) (by rw [HN'.out]; exact hlt)
      have he := d_at HE.out (i := k) (by rw [HN.out]; exact hlt) (by rw [HN'.out]; exact hlt)
      have hlen := HL.out _ (List.getElem_mem (show k < L.length by rw [HN.out]; exact hlt))
      generalize L[k]'(by rw [HN.out]; exact hlt) = q at *
      generalize L'[k]'(by rw [HN'.out]; exact hlt) = q' at *
      obtain ⟨fk, fh, fe, ⟨qA, qc, qp⟩, fs⟩ := q
      obtain ⟨fk', fh', fe', ⟨qA', qc', qp'⟩, fs'⟩ := q'
      dsimp only at *
      simp only [FrameV.d, FrameD.mk.injEq] at he
      obtain ⟨rfl, rfl, rfl, rfl, rfl⟩ := he
      have HC := Lib.hid (fun W h h' => sameFrame_c W fk' fh' fe' qA qA' qc qc' qp' fs' h h' hlen)
      have HP := Lib.hid hop
      have HP' := Lib.hid hop'
      clear hop hop' hlen
      go_wp2_with fail
      go_region_law (first
        | (go_simp; go_at_call 24; refine (HC.out _ ?_ ?_).mono ?_; exact HP.out; exact HP'.out; rintro e w2 ⟨rfl, hb2⟩; obtain ⟨⟨d2, os2⟩, rfl⟩ := beyond_of hb2))
      all_goals (
        have HB2 := Lib.hid (show Below wr.heap.size wr (Go.Sort.grow (redrawn wr d2) os2) from ⟨hb2.os, hb2.tape, hb2.output, hb2.size, hb2.block⟩)
        clear hb2
        go_wp2_with fail
        go_roundw
        case rel => exact ⟨k + 1, by omega, by go_num, rfl, bThen hbw HB2.out⟩
        case measure => simp [intOf]; omega)
    · obtain rfl : k = n := by omega
      go_wp2_with fail
      go_ret
      exact ⟨rfl, (by repeat (first | exact hbw | exact Below.refl _ _ | apply bGrow | apply bAlloc | apply Below.drew | apply bDrewN | apply bIter))⟩
set_option maxHeartbeats 1000000 in
theorem sameLink_c (w : World) (l l' : LinkV) (hi : l.In w) (hi' : l'.In w) (hd : l'.d = l.d) (hl : l.s.length ≤ 1048577 ∧ l.q.length ≤ 1048577) (hm : (∀ f ∈ l.s, f.o.ps.length ≤ 1048576) ∧ ∀ f ∈ l.q, f.o.ps.length ≤ 1048576) :
    Calls Tryd.prog 23 #[l.val, l'.val] w fun e w' => e = .returned (.bool true) ∧ Below w.heap.size w w' := by
  obtain ⟨e, n, sA, sc, s, qA, qc, q, h⟩ := l
  obtain ⟨e', n', sA', sc', s', qA', qc', q', h'⟩ := l'
  simp only [LinkV.d, LinkD.mk.injEq] at hd
  obtain ⟨rfl, rfl, h1, h2, rfl⟩ := hd
  have l1 : s'.length = s.length := by rw [← List.length_map (f := FrameV.d), h1, List.length_map]
  have l2 : q'.length = q.length := by rw [← List.length_map (f := FrameV.d), h2, List.length_map]
  have H1 := Lib.hid (fun W g g' => sameFrames_c W sA sA' sc sc' s.length s s' g g' h1 rfl hl.1 hm.1)
  have H2 := Lib.hid (fun W g g' => sameFrames_c W qA qA' qc qc' q.length q q' g g' h2 rfl hl.2 hm.2)
  have HI := Lib.hid hi
  have HI' := Lib.hid hi'
  have hv : (LinkV.val ⟨e', n', sA', sc', s', qA', qc', q', h'⟩) = .agg #[.int .i64 e', .int .i64 n', .slice sA' s.length sc', .slice qA' q.length qc', .int .i64 h'] := by
    dsimp only [LinkV.val]
    rw [l1, l2]
  rw [hv]
  clear hi hi' h1 h2 l1 l2 hl hm hv
  go_enter Tryd.func23, Tryd.ntmps23
  go_wp2_with fail
  refine (H1.out _ (HI.out.s.later (by repeat (first | exact Below.refl _ _ | apply bGrow | apply bAlloc | apply Below.drew | apply bDrewN | apply bIter))) (HI'.out.s.later (by repeat (first | exact Below.refl _ _ | apply bGrow | apply bAlloc | apply Below.drew | apply bDrewN | apply bIter)))).mono ?_
  rintro r w1 ⟨rfl, hb1⟩
  obtain ⟨⟨d1, os1⟩, rfl⟩ := beyond_of hb1
  go_wp2_with fail
  refine (H2.out _ (HI.out.q.later (by repeat (first | exact Below.refl _ _ | apply bGrow | apply bAlloc | apply Below.drew | apply bDrewN | apply bIter))) (HI'.out.q.later (by repeat (first | exact Below.refl _ _ | apply bGrow | apply bAlloc | apply Below.drew | apply bDrewN | apply bIter)))).mono ?_
  rintro r w2 ⟨rfl, hb2⟩
  obtain ⟨⟨d2, os2⟩, rfl⟩ := beyond_of hb2
  go_wp2_with fail
  go_ret
  exact ⟨by simp, (by repeat (first | exact Below.refl _ _ | apply bGrow | apply bAlloc | apply Below.drew | apply bDrewN | apply bIter))⟩
end Go.Proofs.YtgcapkkgminidaaDoor
namespace Go.Proofs.YtgcapkkgminidaaDoor
open Go.ChangeShapes Go.WideShapes Go.ChangeAt Go.RowKit Go.Joins Go.Deep
set_option maxRecDepth 100000
theorem list9 {α : Type} {l : List α} (h : l.length = 9) : ∃ a b c d e f g i j, l = [a, b, c, d, e, f, g, i, j] := by
  match l, h with
  | [a, b, c, d, e, f, g, i, j], _ => exact ⟨a, b, c, d, e, f, g, i, j, rfl⟩
section
variable {H : Type} {enc : TypeId × Value → H} {w : World} {m : Nat}
theorem open_packet {cs : List Value} {y : DataW H × List MemPlace} (h : DataW.trod enc Tryd.prog w 0 (fun _ => true) true m 39 cs = some y) (hb : Rows.uptoBulk y.1 ≤ 1048576) :
    ∃ (ep nu : Int) (b : Bool) (ak k hd e : Int) (A : Option Addr) (c : Nat) (ps : List PartD) (s : ByteArray), cs = [.int .i64 ep, .int .i64 nu, .bool b, .int .i64 ak, .int .i64 k, .int .i64 hd, .int .i64 e, .slice A ps.length c, .string s] ∧
      (ps.length ≤ c ∧ c ≤ 9223372036854775807 ∧ OpIn (· < w.heap.size) w A ps ∧ ps.length ≤ 1048576 ∧ ∀ p ∈ ps, p.Fit) ∧ s.size ≤ 1048576 := by
  obtain ⟨ys, n, _, hy, hlen, hyl, hf⟩ := DataW.trod_struct Tryd.underlying39 h
  rw [show Tryd.prog.cellsOf 39 = 9 by kernel_rfl] at hlen
  obtain ⟨c0, c1, c2, c3, c4, c5, c6, c7, c8, rfl⟩ := list9 hlen
  obtain ⟨y0, y1, y2, y3, y4, rfl⟩ := list5 hyl
  have h0 : DataW.trod enc Tryd.prog w 0 (fun _ => true) true n 3 ((List.drop 0 [c0, c1, c2, c3, c4, c5, c6, c7, c8]).take (Tryd.prog.cellsOf 3)) = some y0 := hf 0 _ rfl
  have h1 : DataW.trod enc Tryd.prog w 0 (fun _ => true) true n 3 ((List.drop 1 [c0, c1, c2, c3, c4, c5, c6, c7, c8]).take (Tryd.prog.cellsOf 3)) = some y1 := hf 1 _ rfl
  have h2 : DataW.trod enc Tryd.prog w 0 (fun _ => true) true n 4 ((List.drop 2 [c0, c1, c2, c3, c4, c5, c6, c7, c8]).take (Tryd.prog.cellsOf 4)) = some y2 := hf 2 _ rfl
  have h3 : DataW.trod enc Tryd.prog w 0 (fun _ => true) true n 3 ((List.drop 3 [c0, c1, c2, c3, c4, c5, c6, c7, c8]).take (Tryd.prog.cellsOf 3)) = some y3 := hf 3 _ rfl
  have h4 : DataW.trod enc Tryd.prog w 0 (fun _ => true) true n 37 ((List.drop 4 [c0, c1, c2, c3, c4, c5, c6, c7, c8]).take (Tryd.prog.cellsOf 37)) = some y4 := hf 4 _ rfl
  rw [show Tryd.prog.cellsOf 3 = 1 by kernel_rfl] at h0 h1 h3
  rw [show Tryd.prog.cellsOf 4 = 1 by kernel_rfl] at h2
  rw [show Tryd.prog.cellsOf 37 = 5 by kernel_rfl] at h4
  have h0' : DataW.trod enc Tryd.prog w 0 (fun _ => true) true n 3 [c0] = some y0 := h0
  have h1' : DataW.trod enc Tryd.prog w 0 (fun _ => true) true n 3 [c1] = some y1 := h1
  have h2' : DataW.trod enc Tryd.prog w 0 (fun _ => true) true n 4 [c2] = some y2 := h2
  have h3' : DataW.trod enc Tryd.prog w 0 (fun _ => true) true n 3 [c3] = some y3 := h3
  have h4' : DataW.trod enc Tryd.prog w 0 (fun _ => true) true n 37 [c4, c5, c6, c7, c8] = some y4 := h4
  obtain ⟨ep, rfl, _⟩ := open_num Tryd.underlying3 h0'
  obtain ⟨nu, rfl, _⟩ := open_num Tryd.underlying3 h1'
  obtain ⟨b, e2, _⟩ := DataW.trod_bool Tryd.underlying4 h2'
  have e2' : c2 = .bool b := by simpa using e2
  subst e2'
  obtain ⟨ak, rfl, _⟩ := open_num Tryd.underlying3 h3'
  have hb4 : Rows.uptoBulk y4.1 ≤ 1048576 := by
    rw [hy] at hb
    exact bulk_field (ys := [y0, y1, y2, y3, y4]) rfl hb (j := 4) rfl
  obtain ⟨k, hd, e, A, c, ps, s, hcs, _, _, _, h5, h6⟩ := open_frame h4' hb4
  injection hcs with e4 hcs
  injection hcs with e5 hcs
  injection hcs with e6 hcs
  injection hcs with e7 hcs
  injection hcs with e8 hcs
  subst e4 e5 e6 e7 e8
  exact ⟨ep, nu, b, ak, k, hd, e, A, c, ps, s, rfl, h5, h6⟩
end
end Go.Proofs.YtgcapkkgminidaaDoor
namespace Go.Proofs.YtgcapkkgminidaaDoor
open Go.ChangeShapes Go.WideShapes Go.ChangeAt Go.RowKit
theorem fault_nums {p : PacketD} (he : packetFault p = 0) : p.number ≤ 1048576 := by
  unfold packetFault at he
  by_cases g : (p.epoch < 0 ∨ 1048576 < p.epoch) ∨ (p.number < 0 ∨ 1048576 < p.number) ∨ (p.ack < 0 ∨ 1048576 < p.ack)
  · rw [if_pos g] at he
    cases he
  · omega
theorem hear_cases (x : LinkD) (p : PacketD) (C : LinkD → FrameD → Bool → List PacketD → Prop) (he : packetFault p = 0) (S : List FrameD) (hS : ackS x p.ack = S)
    (hb : p.bare = true → C (fillL ⟨x.e, x.n, S, x.q, x.h⟩) zeroF.d false (fillP ⟨x.e, x.n, S, x.q, x.h⟩))
    (hn : p.bare = false → p.number ≠ x.h + 1 → C (fillL ⟨x.e, x.n, S, x.q, x.h⟩) zeroF.d false (fillP ⟨x.e, x.n, S, x.q, x.h⟩ ++ [bareX ⟨x.e, x.n, S, x.q, x.h⟩]))
    (ht : p.bare = false → p.number = x.h + 1 → x.h < 1048576 → C (fillL ⟨x.e, x.n, S, x.q, x.h + 1⟩) p.frame true (fillP ⟨x.e, x.n, S, x.q, x.h + 1⟩ ++ [bareX ⟨x.e, x.n, S, x.q, x.h + 1⟩])) :
    C (fillL (nextL x p)) (heardF x p) (decide (isNext x p)) (heardPk x p) := by
  have hN := fault_nums he
  have hL : nextL x p = ⟨x.e, x.n, S, x.q, nextH x p⟩ := by
    unfold nextL
    rw [hS]
  unfold heardPk
  rw [hL]
  by_cases h1 : p.bare = true
  · have hx : ¬ isNext x p := fun h => by rw [h.1] at h1; cases h1
    rw [show nextH x p = x.h from if_neg hx, show heardF x p = zeroF.d from if_neg hx, if_pos h1, decide_eq_false hx]
    exact hb h1
  · have h2 : p.bare = false := by simpa using h1
    by_cases h3 : p.number = x.h + 1
    · have hx : isNext x p := ⟨h2, h3⟩
      rw [show nextH x p = x.h + 1 from if_pos hx, show heardF x p = p.frame from if_pos hx, if_neg h1, decide_eq_true hx]
      exact ht h2 h3 (by omega)
    · have hx : ¬ isNext x p := fun h => h3 h.2
      rw [show nextH x p = x.h from if_neg hx, show heardF x p = zeroF.d from if_neg hx, if_neg h1, decide_eq_false hx]
      exact hn h2 h3
theorem Hear_ok (w : World) (l : LinkV) (p : PacketV) (hT : Tabs w) (hi : l.In w) (hm : l.Small) (hf : OpIn (· < w.heap.size) w p.f.o.A p.f.o.ps) (hfm : p.f.Small) (hk : linkMay l) (he : packetFault p.d = 0) (h0 : l.e ≠ 0) (h1 : p.ep = l.e) :
    Calls Tryd.prog 21 #[l.val, packetV p.ep p.nu p.b p.ak p.f.k p.f.h p.f.e p.f.o.A p.f.o.ps.length p.f.o.c p.f.s] w (RetHear w (fillL (nextL l.d p.d)) (heardF l.d p.d) (decide (isNext l.d p.d)) (heardPk l.d p.d) 0) := by
  by_cases hw : inWin l.d p.ak
  · have hw2 := hw
    unfold inWin at hw2
    rw [show (l.d.s.length : Int) = l.s.length by simp, show l.d.n = l.n from rfl] at hw2
    have hK : ((ackN l.d p.ak : Nat) : Int) = p.ak - (l.n - l.s.length) + 1 ∧ 1 ≤ ackN l.d p.ak ∧ ackN l.d p.ak ≤ l.s.length := by
      unfold ackN
      rw [show (l.d.s.length : Int) = l.s.length by simp, show l.d.n = l.n from rfl]
      omega
    exact hear_cases l.d p.d (fun D FD t P => Calls Tryd.prog 21 #[l.val, packetV p.ep p.nu p.b p.ak p.f.k p.f.h p.f.e p.f.o.A p.f.o.ps.length p.f.o.c p.f.s] w (RetHear w D FD t P 0)) he _ (if_pos hw)
      (fun hb => Hear_ib w l p hT hi hm hf hfm hk he h0 h1 _ hK hb)
      (fun hb hn => Hear_in w l p hT hi hm hf hfm hk he h0 h1 _ hK hb hn)
      (fun hb hn hh => Hear_it w l p hT hi hm hf hfm hk he h0 h1 _ hK hb hn hh)
  · have hw2 := hw
    unfold inWin at hw2
    rw [show (l.d.s.length : Int) = l.s.length by simp, show l.d.n = l.n from rfl] at hw2
    by_cases hA : p.ak < l.n - l.s.length
    · exact hear_cases l.d p.d (fun D FD t P => Calls Tryd.prog 21 #[l.val, packetV p.ep p.nu p.b p.ak p.f.k p.f.h p.f.e p.f.o.A p.f.o.ps.length p.f.o.c p.f.s] w (RetHear w D FD t P 0)) he _ (if_neg hw)
        (fun hb => Hear_ob w l p hT hi hm hf hfm hk he h0 h1 hA hb)
        (fun hb hn => Hear_on w l p hT hi hm hf hfm hk he h0 h1 hA hb hn)
        (fun hb hn hh => Hear_ot w l p hT hi hm hf hfm hk he h0 h1 hA hb hn hh)
    · have hA' : l.n - l.s.length ≤ p.ak ∧ l.n ≤ p.ak := by omega
      exact hear_cases l.d p.d (fun D FD t P => Calls Tryd.prog 21 #[l.val, packetV p.ep p.nu p.b p.ak p.f.k p.f.h p.f.e p.f.o.A p.f.o.ps.length p.f.o.c p.f.s] w (RetHear w D FD t P 0)) he _ (if_neg hw)
        (fun hb => Hear_xb w l p hT hi hm hf hfm hk he h0 h1 hA' hb)
        (fun hb hn => Hear_xn w l p hT hi hm hf hfm hk he h0 h1 hA' hb hn)
        (fun hb hn hh => Hear_xt w l p hT hi hm hf hfm hk he h0 h1 hA' hb hn hh)
theorem Heard_ok (w : World) (l : LinkV) (p : PacketV) (hT : Tabs w) (hi : l.In w) (hm : l.Small) (hf : OpIn (· < w.heap.size) w p.f.o.A p.f.o.ps) (hfm : p.f.Small) (hk : linkMay l) (he : packetFault p.d = 0) (h0 : l.e ≠ 0) (h1 : p.ep = l.e) (hsc : l.s.length ≤ l.sc) :
    Calls Tryd.prog 22 #[l.val, packetV p.ep p.nu p.b p.ak p.f.k p.f.h p.f.e p.f.o.A p.f.o.ps.length p.f.o.c p.f.s] w (RetHear w (fillL (nextL l.d p.d)) (heardF l.d p.d) (decide (isNext l.d p.d)) (heardPk l.d p.d) 0) := by
  by_cases hw : inWin l.d p.ak
  · have hw2 := hw
    unfold inWin at hw2
    rw [show (l.d.s.length : Int) = l.s.length by simp, show l.d.n = l.n from rfl] at hw2
    have hK : ((ackN l.d p.ak : Nat) : Int) = p.ak - (l.n - l.s.length) + 1 ∧ 1 ≤ ackN l.d p.ak ∧ ackN l.d p.ak ≤ l.s.length := by
      unfold ackN
      rw [show (l.d.s.length : Int) = l.s.length by simp, show l.d.n = l.n from rfl]
      omega
    exact hear_cases l.d p.d (fun D FD t P => Calls Tryd.prog 22 #[l.val, packetV p.ep p.nu p.b p.ak p.f.k p.f.h p.f.e p.f.o.A p.f.o.ps.length p.f.o.c p.f.s] w (RetHear w D FD t P 0)) he _ (if_pos hw)
      (fun hb => Heard_ib w l p hT hi hm hf hfm hk he h0 h1 hsc _ hK hb)
      (fun hb hn => Heard_in w l p hT hi hm hf hfm hk he h0 h1 hsc _ hK hb hn)
      (fun hb hn hh => Heard_it w l p hT hi hm hf hfm hk he h0 h1 hsc _ hK hb hn hh)
  · have hw2 := hw
    unfold inWin at hw2
    rw [show (l.d.s.length : Int) = l.s.length by simp, show l.d.n = l.n from rfl] at hw2
    by_cases hA : p.ak < l.n - l.s.length
    · exact hear_cases l.d p.d (fun D FD t P => Calls Tryd.prog 22 #[l.val, packetV p.ep p.nu p.b p.ak p.f.k p.f.h p.f.e p.f.o.A p.f.o.ps.length p.f.o.c p.f.s] w (RetHear w D FD t P 0)) he _ (if_neg hw)
        (fun hb => Heard_ob w l p hT hi hm hf hfm hk he h0 h1 hA hb)
        (fun hb hn => Heard_on w l p hT hi hm hf hfm hk he h0 h1 hA hb hn)
        (fun hb hn hh => Heard_ot w l p hT hi hm hf hfm hk he h0 h1 hA hb hn hh)
    · have hA' : l.n - l.s.length ≤ p.ak ∧ l.n ≤ p.ak := by omega
      exact hear_cases l.d p.d (fun D FD t P => Calls Tryd.prog 22 #[l.val, packetV p.ep p.nu p.b p.ak p.f.k p.f.h p.f.e p.f.o.A p.f.o.ps.length p.f.o.c p.f.s] w (RetHear w D FD t P 0)) he _ (if_neg hw)
        (fun hb => Heard_xb w l p hT hi hm hf hfm hk he h0 h1 hA' hb)
        (fun hb hn => Heard_xn w l p hT hi hm hf hfm hk he h0 h1 hA' hb hn)
        (fun hb hn hh => Heard_xt w l p hT hi hm hf hfm hk he h0 h1 hA' hb hn hh)
end Go.Proofs.YtgcapkkgminidaaDoor
namespace Go.Proofs.YtgcapkkgminidaaDoor
open Go.ChangeShapes Go.WideShapes Go.ChangeAt Go.RowKit Go.Joins Go.Deep
set_option maxRecDepth 100000
/-- Operations of a bounded length. -/
def opsSmall (x : LinkD) : Prop := (∀ f ∈ x.s, f.op.length ≤ 1048576) ∧ ∀ f ∈ x.q, f.op.length ≤ 1048576
theorem fillN_le (x : LinkD) : fillN x ≤ 8 ∧ fillN x ≤ x.q.length := by
  unfold fillN
  omega
theorem fillL_small {x : LinkD} (h : opsSmall x) : opsSmall (fillL x) := by
  refine ⟨fun f hf => ?_, fun f hf => h.2 f (List.mem_of_mem_drop hf)⟩
  rcases List.mem_append.1 hf with hf | hf
  · exact h.1 f hf
  · exact h.2 f (List.mem_of_mem_take hf)
theorem fillP_small {x : LinkD} (h : opsSmall x) : (fillP x).length ≤ 8 ∧ ∀ p ∈ fillP x, p.frame.op.length ≤ 1048576 := by
  unfold fillP
  refine ⟨by simpa using (fillN_le x).1, fun p hp => ?_⟩
  obtain ⟨k, _, rfl⟩ := List.mem_map.1 hp
  have hs := (fillL_small h).1
  show ((fillL x).s.getD _ default).op.length ≤ _
  rw [List.getD_eq_getElem?_getD]
  cases hc : (fillL x).s[x.s.length + k]? with
  | none => exact Nat.zero_le _
  | some f => exact hs f (List.mem_of_getElem? hc)
theorem wait_small {x : LinkD} {f : FrameD} (h : opsSmall x) (hf : f.op.length ≤ 1048576) : opsSmall (waitL x f) := by
  refine ⟨h.1, fun g hg => ?_⟩
  rcases List.mem_append.1 hg with hg | hg
  · exact h.2 g hg
  · obtain rfl := List.mem_singleton.1 hg
    exact hf
theorem LinkV.Small.ops {l : LinkV} (h : l.Small) : opsSmall l.d := by
  refine ⟨fun f hf => ?_, fun f hf => ?_⟩
  · obtain ⟨g, hg, rfl⟩ := List.mem_map.1 hf
    exact (h.s g hg).op.len
  · obtain ⟨g, hg, rfl⟩ := List.mem_map.1 hf
    exact (h.q g hg).op.len
theorem lens_of {L : List FrameV} (h : ∀ f ∈ L.map FrameV.d, f.op.length ≤ 1048576) : ∀ f ∈ L, f.o.ps.length ≤ 1048576 := fun f hf => h f.d (List.mem_map.2 ⟨f, hf, rfl⟩)
theorem FrameV.Small.of_d {f f' : FrameV} (h : f'.d = f.d) (hk : f.Small) : f'.Small := small_d (L := [f]) (L' := [f']) (by simpa using h) (by simpa using hk) f' (by simp)
namespace linkHears
set_option maxHeartbeats 2000000 in
/-- The law, where both calls answer this link, this frame, these packets and this error. -/
theorem walk_of (w : World) (l : LinkV) (p : PacketV) (hT : Tabs w) (hi : l.In w) (hm : l.Small) (hf : OpIn (· < w.heap.size) w p.f.o.A p.f.o.ps) (D : LinkD) (FD : FrameD) (told : Bool) (Ps : List PacketD) (er : Int)
    (HD : Hid (opsSmall D ∧ (D.s.length ≤ 1048577 ∧ D.q.length ≤ 1048577) ∧ (Ps.length ≤ 9 ∧ ∀ p ∈ Ps, p.frame.op.length ≤ 1048576) ∧ FD.op.length ≤ 1048576))
    (hC : Hid (∀ (W : World) (l' : LinkV), l'.d = l.d → Tabs W → l'.In W → OpIn (· < W.heap.size) W p.f.o.A p.f.o.ps → Calls Tryd.prog 21 #[l'.val, packetV p.ep p.nu p.b p.ak p.f.k p.f.h p.f.e p.f.o.A p.f.o.ps.length p.f.o.c p.f.s] W (RetHear W D FD told Ps er)))
    (hR : Hid (∀ (W : World), Tabs W → l.In W → OpIn (· < W.heap.size) W p.f.o.A p.f.o.ps → Calls Tryd.prog 22 #[l.val, packetV p.ep p.nu p.b p.ak p.f.k p.f.h p.f.e p.f.o.A p.f.o.ps.length p.f.o.c p.f.s] W (RetHear W D FD told Ps er))) :
    Calls Tryd.prog 6 #[l.val, packetV p.ep p.nu p.b p.ak p.f.k p.f.h p.f.e p.f.o.A p.f.o.ps.length p.f.o.c p.f.s] w fun e w' => e = .returned (.bool true) ∧ Below w.heap.size w w' := by
  have HT := Lib.hid hT
  have HI := Lib.hid hi
  have HF := Lib.hid hf
  have HM := Lib.hid hm
  have HLC := Lib.hid (fun W hi => LinkCopy_c W l hi hm)
  clear hT hi hm hf
  obtain ⟨pe, pn, pb, pa, ⟨fk, fh, fe, ⟨fA, fc, fp⟩, fs⟩⟩ := p
  dsimp only at *
  go_enter Tryd.func6, Tryd.ntmps6
  go_wp2_with fail
  refine (HLC.out _ (HI.out.later (by repeat (first | exact Below.refl _ _ | apply bGrow | apply bAlloc | apply Below.drew | apply bDrewN | apply bIter)))).mono ?_
  rintro e w1 ⟨l1, rfl, hd1, hi1, hb1⟩
  obtain ⟨Wa, hWa⟩ : ∃ Wa, Wa = w.alloc (.cells #[.int .i64 l.e, .int .i64 l.n, .slice l.sA l.s.length l.sc, .slice l.qA l.q.length l.qc, .int .i64 l.h] 35) := ⟨_, rfl⟩
  obtain ⟨Wb, hWb⟩ : ∃ Wb, Wb = Wa.alloc (.cells #[.int .i64 pe, .int .i64 pn, .bool pb, .int .i64 pa, .int .i64 fk, .int .i64 fh, .int .i64 fe, .slice fA fp.length fc, .string fs] 39) := ⟨_, rfl⟩
  have g1 : Wa.heap.size = w.heap.size + 1 := by rw [hWa]; simp
  have g2 : Wb.heap.size = Wa.heap.size + 1 := by rw [hWb]; simp
  have k1 : Below w.heap.size w Wa := by rw [hWa]; exact bAlloc (Below.refl _ _) _
  have k2 : Below Wa.heap.size Wa Wb := by rw [hWb]; exact bAlloc (Below.refl _ _) _
  rw [← hWa, ← hWb] at hb1
  have hz1 := hb1.size
  obtain ⟨WX, hWX⟩ : ∃ WX, WX = w1.alloc (.cells #[.int .i64 l1.e, .int .i64 l1.n, .slice l1.sA l1.s.length l1.sc, .slice l1.qA l1.q.length l1.qc, .int .i64 l1.h] 35) := ⟨_, rfl⟩
  have hkX : Below w1.heap.size w1 WX := by rw [hWX]; exact bAlloc (Below.refl _ _) _
  have hb0 := bThen hb1 hkX
  have HBX := Lib.hid (bThen (bThen k1 k2) hb0)
  have HPX := Lib.hid (show LinkAt WX w.heap.size l from (hb0.block _ (by omega)).trans ((k2.block _ (by omega)).trans (by rw [hWa]; exact heap_alloc_new _ _)))
  have HFX := Lib.hid (show PacketAt WX (w.heap.size + 1) pe pn pb pa fk fh fe fA fp.length fc fs by rw [← g1]; exact (hb0.block _ (by omega)).trans (by rw [hWb]; exact heap_alloc_new _ _))
  have HFB := Lib.hid (show PacketAt w1 (w.heap.size + 1) pe pn pb pa fk fh fe fA fp.length fc fs by rw [← g1]; exact (hb1.block _ (by omega)).trans (by rw [hWb]; exact heap_alloc_new _ _))
  have HKX := Lib.hid (show LinkAt WX w1.heap.size l1 by rw [hWX]; exact heap_alloc_new _ _)
  have HI1 := Lib.hid (hi1.later hkX)
  have HD1 := Lib.hid hd1
  have HTX := Lib.hid (HT.out.later HBX.out)
  have HIX := Lib.hid (HI.out.later HBX.out)
  have HOX := Lib.hid (Sl.later HF.out HBX.out)
  have HWX := Lib.hid hWX
  have hX1 : w1.heap.size < WX.heap.size := by rw [hWX]; simp
  have HZ := Lib.hid (show w.heap.size + 1 < w1.heap.size ∧ w1.heap.size < WX.heap.size from ⟨by omega, hX1⟩)
  clear hi1 hd1 hb0 hb1 hkX k1 k2 g1 g2 hWa hWb hWX hz1 hX1
  obtain ⟨p0, p1, p2, p3, p4, p5, p6, p7, p8, _, _, _, _, _, _, _, _, _, pz⟩ := nine_cell HFB.out
  go_wp2_with fail
  rw [← HWX.out]
  clear p0 p1 p2 p3 p4 p5 p6 p7 p8 pz
  refine (hC.out WX l1 HD1.out HTX.out HI1.out HOX.out).mono ?_
  rintro e w3 ⟨l3, A2, c2, A3, c3, L3, rfl, hd3, hp3, hi3, ho2, ho3, hb3⟩
  have hn3 : L3.length = Ps.length := by rw [← hp3, List.length_map]
  rw [hn3]
  obtain ⟨WY, hWY⟩ : ∃ WY, WY = (w3.alloc (.cells #[.int .i64 l3.e, .int .i64 l3.n, .slice l3.sA l3.s.length l3.sc, .slice l3.qA l3.q.length l3.qc, .int .i64 l3.h] 35)).alloc (.cells #[.int .i64 FD.kind, .int .i64 FD.heard, .int .i64 FD.epoch, .slice A2 FD.op.length c2, .string FD.text] 37) := ⟨_, rfl⟩
  have k3 : Below w3.heap.size w3 WY := by rw [hWY]; exact bAlloc (bAlloc (Below.refl _ _) _) _
  have hXY := bThen hb3 k3
  have HBY := Lib.hid (bThen HBX.out hXY)
  have HQY := Lib.hid (show LinkAt WY w3.heap.size l3 by rw [hWY]; exact ((bAlloc (Below.refl _ _) _).block w3.heap.size (by simp)).trans (heap_alloc_new _ _))
  have HXY := Lib.hid (show FrameAt WY (w3.heap.size + 1) FD.kind FD.heard FD.epoch A2 FD.op.length c2 FD.text by rw [hWY, show w3.heap.size + 1 = (w3.alloc (.cells #[.int .i64 l3.e, .int .i64 l3.n, .slice l3.sA l3.s.length l3.sc, .slice l3.qA l3.q.length l3.qc, .int .i64 l3.h] 35)).heap.size by simp]; exact heap_alloc_new _ _)
  have HTY := Lib.hid (HT.out.later HBY.out)
  have HIY := Lib.hid (HI.out.later HBY.out)
  have HOY := Lib.hid (Sl.later HF.out HBY.out)
  have HI3 := Lib.hid (hi3.later k3)
  have HO2 := Lib.hid (show OpIn (· < WY.heap.size) WY A2 FD.op from Sl.later ho2 k3)
  have HL3 := Lib.hid (ho3.later k3)
  have HD3 := Lib.hid hd3
  have HP3 := Lib.hid hp3
  have HN3 := Lib.hid hn3
  have HPY := Lib.hid (show LinkAt WY w.heap.size l from (hXY.block _ (by have := HZ.out; omega)).trans HPX.out)
  have HFY := Lib.hid (show PacketAt WY (w.heap.size + 1) pe pn pb pa fk fh fe fA fp.length fc fs from (hXY.block _ (by have := HZ.out; omega)).trans HFX.out)
  have HKY := Lib.hid (show LinkAt WY w1.heap.size l1 from (hXY.block _ HZ.out.2).trans HKX.out)
  have HI1Y := Lib.hid (HI1.out.later hXY)
  have HWY := Lib.hid hWY
  have HE3 := Lib.hid (show LinkAt w3 w.heap.size l from (hb3.block _ (by have := HZ.out; omega)).trans HPX.out)
  have HF3 := Lib.hid (show PacketAt w3 (w.heap.size + 1) pe pn pb pa fk fh fe fA fp.length fc fs from (hb3.block _ (by have := HZ.out; omega)).trans HFX.out)
  have hz3 := hb3.size
  have hz4 : WY.heap.size = w3.heap.size + 2 := by rw [hWY]; simp
  have HZ3 := Lib.hid (show WX.heap.size ≤ w3.heap.size ∧ WY.heap.size = w3.heap.size + 2 from ⟨hz3, hz4⟩)
  clear hd3 hp3 hn3 hi3 ho2 ho3 hb3 hWY k3 hXY hz3 hz4
  obtain ⟨e0, e1, e2, e3, e4, _, _, _, _, _, ez⟩ := five_cell HE3.out
  obtain ⟨p0, p1, p2, p3, p4, p5, p6, p7, p8, _, _, _, _, _, _, _, _, _, pz⟩ := nine_cell HF3.out
  go_wp2_with fail
  rw [← HWY.out]
  clear p0 p1 p2 p3 p4 p5 p6 p7 p8 pz e0 e1 e2 e3 e4 ez
  refine (hR.out WY HTY.out HIY.out HOY.out).mono ?_
  rintro e w4 ⟨l4, B2, d2, B3, d3, L4, rfl, hd4, hp4, hi4, hq2, ho4, hb4⟩
  have hn4 : L4.length = Ps.length := by rw [← hp4, List.length_map]
  rw [hn4]
  obtain ⟨WZ, hWZ⟩ : ∃ WZ, WZ = (w4.alloc (.cells #[.int .i64 l4.e, .int .i64 l4.n, .slice l4.sA l4.s.length l4.sc, .slice l4.qA l4.q.length l4.qc, .int .i64 l4.h] 35)).alloc (.cells #[.int .i64 FD.kind, .int .i64 FD.heard, .int .i64 FD.epoch, .slice B2 FD.op.length d2, .string FD.text] 37) := ⟨_, rfl⟩
  have k4 : Below w4.heap.size w4 WZ := by rw [hWZ]; exact bAlloc (bAlloc (Below.refl _ _) _) _
  have hYZ := bThen hb4 k4
  have hz4 := hb4.size
  have HBZ := Lib.hid (bThen HBY.out hYZ)
  have HE4 := Lib.hid (show LinkAt WZ w4.heap.size l4 by rw [hWZ]; exact ((bAlloc (Below.refl _ _) _).block w4.heap.size (by simp)).trans (heap_alloc_new _ _))
  have HX4 := Lib.hid (show FrameAt WZ (w4.heap.size + 1) FD.kind FD.heard FD.epoch B2 FD.op.length d2 FD.text by rw [hWZ, show w4.heap.size + 1 = (w4.alloc (.cells #[.int .i64 l4.e, .int .i64 l4.n, .slice l4.sA l4.s.length l4.sc, .slice l4.qA l4.q.length l4.qc, .int .i64 l4.h] 35)).heap.size by simp]; exact heap_alloc_new _ _)
  have HQ3 := Lib.hid ((hb4.block w3.heap.size (by have := HZ3.out; omega)).trans HQY.out)
  have HX3 := Lib.hid ((hYZ.block (w3.heap.size + 1) (by have := HZ3.out; omega)).trans HXY.out)
  have HE1 := Lib.hid (show LinkAt WZ w1.heap.size l1 from (hYZ.block _ (by have := HZ.out; have := HZ3.out; omega)).trans HKY.out)
  have HE0 := Lib.hid (show LinkAt WZ w.heap.size l from (hYZ.block _ (by have := HZ.out; have := HZ3.out; omega)).trans HPY.out)
  have HI3 := Lib.hid (HI3.out.later hYZ)
  have HI4 := Lib.hid (hi4.later k4)
  have HO2 := Lib.hid (show OpIn (· < WZ.heap.size) WZ A2 FD.op from Sl.later HO2.out hYZ)
  have HQ2 := Lib.hid (show OpIn (· < WZ.heap.size) WZ B2 FD.op from Sl.later hq2 k4)
  have HL3 := Lib.hid (HL3.out.later hYZ)
  have HL4 := Lib.hid (ho4.later k4)
  have HI1Z := Lib.hid (HI1Y.out.later hYZ)
  have HI0Z := Lib.hid (HIY.out.later hYZ)
  have HWZ := Lib.hid hWZ
  have HD4 := Lib.hid (show l4.d = l3.d from hd4.trans HD3.out.symm)
  have HP4 := Lib.hid (show L4.map PacketV.d = L3.map PacketV.d from hp4.trans HP3.out.symm)
  clear hd4 hp4 hn4 hi4 hq2 ho4 hb4 hWZ k4 hYZ hz4
  obtain ⟨e0, e1, e2, e3, e4, _, _, _, _, _, ez⟩ := five_cell HQ3.out
  go_wp2_with fail
  rw [← HWZ.out]
  clear e0 e1 e2 e3 e4 ez
  refine (sameLink_c _ l3 l4 HI3.out HI4.out HD4.out ?_ ?_).mono ?_
  · have h1 := congrArg (fun x => (x.s.length, x.q.length)) HD3.out
    simp only [List.length_map, Prod.mk.injEq] at h1
    have h2 := HD.out.2.1
    omega
  · exact ⟨lens_of (by have := HD.out.1.1; rw [← HD3.out] at this; exact this), lens_of (by have := HD.out.1.2; rw [← HD3.out] at this; exact this)⟩
  rintro e w5 ⟨rfl, hb5⟩
  have HB5 := Lib.hid (bThen HBZ.out hb5)
  obtain ⟨e0, e1, e2, e3, e4, _, _, _, _, _, ez⟩ := five_cell ((hb5.block _ (five_cell HX3.out).2.2.2.2.2.2.2.2.2.2).trans HX3.out)
  obtain ⟨f0, f1, f2, f3, f4, _, _, _, _, _, fz⟩ := five_cell ((hb5.block _ (five_cell HX4.out).2.2.2.2.2.2.2.2.2.2).trans HX4.out)
  have HB5Z := Lib.hid hb5
  clear hb5
  go_wp2_with fail
  clear e0 e1 e2 e3 e4 ez f0 f1 f2 f3 f4 fz
  refine (sameFrame_c _ FD.kind FD.heard FD.epoch A2 B2 c2 d2 FD.op FD.text (Sl.later HO2.out HB5Z.out) (Sl.later HQ2.out HB5Z.out) HD.out.2.2.2).mono ?_
  rintro e w6 ⟨rfl, hb6⟩
  have HB6Z := Lib.hid (bThen HB5Z.out hb6)
  clear hb6
  go_wp2_with fail
  refine (samePackets_c _ A3 B3 c3 d3 Ps.length L3 L4 (HL3.out.later HB6Z.out) (HL4.out.later HB6Z.out) HP4.out HN3.out (by have := HD.out.2.2.1.1; omega) (fun p hp => by
    have h2 := HD.out.2.2.1.2 p.d (by rw [← HP3.out]; exact List.mem_map.2 ⟨p, hp, rfl⟩)
    exact h2)).mono ?_
  rintro e w7 ⟨rfl, hb7⟩
  have HB7Z := Lib.hid (bThen HB6Z.out hb7)
  clear hb7
  obtain ⟨e0, e1, e2, e3, e4, _, _, _, _, _, ez⟩ := five_cell ((HB7Z.out.block _ (five_cell HE1.out).2.2.2.2.2.2.2.2.2.2).trans HE1.out)
  obtain ⟨f0, f1, f2, f3, f4, _, _, _, _, _, fz⟩ := five_cell ((HB7Z.out.block _ (five_cell HE0.out).2.2.2.2.2.2.2.2.2.2).trans HE0.out)
  go_wp2_with fail
  clear e0 e1 e2 e3 e4 ez f0 f1 f2 f3 f4 fz
  refine (sameLink_c _ l1 l (HI1Z.out.later HB7Z.out) (HI0Z.out.later HB7Z.out) HD1.out.symm ?_ ?_).mono ?_
  · have h1 := congrArg (fun x => (x.s.length, x.q.length)) HD1.out
    simp only [List.length_map, Prod.mk.injEq] at h1
    have h2 := HM.out.sl
    have h3 := HM.out.ql
    omega
  · exact ⟨lens_of (by have := HM.out.ops.1; rw [← HD1.out] at this; exact this), lens_of (by have := HM.out.ops.2; rw [← HD1.out] at this; exact this)⟩
  rintro e w8 ⟨rfl, hb8⟩
  go_wp2
  go_ret
  exact ⟨by simp, bThen (bThen HBZ.out HB7Z.out) hb8⟩
theorem next_small {x : LinkD} {p : PacketD} (h : opsSmall x) : opsSmall (nextL x p) := by
  refine ⟨fun f hf => ?_, h.2⟩
  unfold nextL ackS at hf
  dsimp only at hf
  by_cases hw : inWin x p.ack
  · rw [if_pos hw] at hf
    exact h.1 f (List.mem_of_mem_drop hf)
  · rw [if_neg hw] at hf
    exact h.1 f hf
theorem next_len (x : LinkD) (p : PacketD) : (nextL x p).s.length ≤ x.s.length := by
  unfold nextL ackS
  dsimp only
  by_cases hw : inWin x p.ack
  · rw [if_pos hw, List.length_drop]
    omega
  · rw [if_neg hw]
    exact Nat.le_refl _
theorem heardPk_small {x : LinkD} {p : PacketD} (h : opsSmall x) : (heardPk x p).length ≤ 9 ∧ ∀ q ∈ heardPk x p, q.frame.op.length ≤ 1048576 := by
  have hs := fillP_small (next_small (p := p) h)
  unfold heardPk
  by_cases hb : p.bare = true
  · rw [if_pos hb]
    exact ⟨by omega, hs.2⟩
  · rw [if_neg hb]
    refine ⟨by simp; omega, fun q hq => ?_⟩
    rcases List.mem_append.1 hq with hq | hq
    · exact hs.2 q hq
    · obtain rfl := List.mem_singleton.1 hq
      exact Nat.zero_le _
theorem walk (w : World) (l : LinkV) (p : PacketV) (hT : Tabs w) (hi : l.In w) (hfl : l.Fit) (hf : OpIn (· < w.heap.size) w p.f.o.A p.f.o.ps) (hfm : p.f.Small) :
    Calls Tryd.prog 6 #[l.val, packetV p.ep p.nu p.b p.ak p.f.k p.f.h p.f.e p.f.o.A p.f.o.ps.length p.f.o.c p.f.s] w fun e w' => e = .returned (.bool true) ∧ Below w.heap.size w w' := by
  have hm := hfl.small
  have hz : opsSmall zeroL.d ∧ (zeroL.d.s.length ≤ 1048577 ∧ zeroL.d.q.length ≤ 1048577) ∧ (([] : List PacketD).length ≤ 9 ∧ ∀ p ∈ ([] : List PacketD), p.frame.op.length ≤ 1048576) ∧ zeroF.d.op.length ≤ 1048576 := ⟨⟨by simp, by simp⟩, ⟨by simp, by simp⟩, ⟨by simp, by simp⟩, by simp⟩
  by_cases hk : linkMay l
  · have hk' : ∀ l' : LinkV, l'.d = l.d → linkMay l' := fun l' hd => linkMay_d hd hk
    have he' : ∀ l' : LinkV, l'.d = l.d → l'.e = l.e ∧ l'.n = l.n := fun l' hd => ⟨congrArg LinkD.e hd, congrArg LinkD.n hd⟩
    by_cases he : packetFault p.d = 0
    · by_cases h0 : l.e = 0
      · exact walk_of w l p hT hi hm hf _ _ _ _ 12 hz (fun W l' hd hT hi ho => Hear_x W l' p hT hi (hm.of_d hd) ho hfm (hk' l' hd) he (by rw [(he' l' hd).1]; exact h0)) (fun W hT hi ho => Heard_x W l p hT hi hm ho hfm hk he h0)
      by_cases h1 : p.ep = l.e
      · have hw := next_small (p := p.d) hm.ops
        refine walk_of w l p hT hi hm hf (fillL (nextL l.d p.d)) (heardF l.d p.d) (decide (isNext l.d p.d)) (heardPk l.d p.d) 0 ⟨fillL_small hw, ⟨?_, ?_⟩, heardPk_small hm.ops, ?_⟩ (fun W l' hd hT hi ho => ?_) (fun W hT hi ho => Heard_ok W l p hT hi hm ho hfm hk he h0 h1 hfl.sc.1)
        · have h9 := (fillN_le (nextL l.d p.d)).1
          have h8 := next_len l.d p.d
          have h7 := hk.2.1.1
          show ((nextL l.d p.d).s ++ (nextL l.d p.d).q.take (fillN (nextL l.d p.d))).length ≤ _
          rw [List.length_append, List.length_take]
          have h6 : l.d.s.length = l.s.length := by simp
          omega
        · have h9 := hm.ql
          show ((nextL l.d p.d).q.drop (fillN (nextL l.d p.d))).length ≤ _
          rw [List.length_drop]
          show (l.q.map FrameV.d).length - _ ≤ _
          rw [List.length_map]
          omega
        · unfold heardF
          by_cases hx : isNext l.d p.d
          · rw [if_pos hx]
            exact hfm.op.len
          · rw [if_neg hx]
            exact Nat.zero_le _
        · have := Hear_ok W l' p hT hi (hm.of_d hd) ho hfm (hk' l' hd) he (by rw [(he' l' hd).1]; exact h0) (by rw [(he' l' hd).1]; exact h1)
          rwa [hd] at this
      · exact walk_of w l p hT hi hm hf _ _ _ _ 12 hz (fun W l' hd hT hi ho => Hear_y W l' p hT hi (hm.of_d hd) ho hfm (hk' l' hd) he (by rw [(he' l' hd).1]; exact h0) (by rw [(he' l' hd).1]; exact h1)) (fun W hT hi ho => Heard_y W l p hT hi hm ho hfm hk he h0 h1)
    · exact walk_of w l p hT hi hm hf _ _ _ _ (packetFault p.d) hz (fun W l' hd hT hi ho => Hear_f W l' p hT hi (hm.of_d hd) ho hfm (hk' l' hd) _ rfl he) (fun W hT hi ho => Heard_f W l p hT hi hm ho hfm hk _ rfl he)
  · exact walk_of w l p hT hi hm hf _ _ _ _ 9 hz (fun W l' hd hT hi ho => Hear_s W l' p hT hi (hm.of_d hd) ho hfm (fun q => hk (linkMay_d hd.symm q))) (fun W hT hi ho => Heard_s W l p hT hi hm ho hfm hk)
theorem contract (H : Type) (enc : TypeId × Value → H) (W : World) (base : Nat) (args : Array Value) (ds gs : List (DataW H)) (before : List MemPlace)
    (hval0 : ∀ (j : Nat) t v, Tryd.f6.params[j]? = some t → args[j]? = some v → Value.okWide Tryd.prog W .any base t v)
    (hW : DataW.Whole enc Tryd.prog Tryd.f6.params.toList Rows.linkHearsSpec.vars false W args.toList ds gs before) (hk : Rows.uptoSmall H (ds ++ gs) = true) (hT : Tabs W) :
    Calls Tryd.prog 6 args W fun e W' => ∃ v, e = .returned v ∧ Rows.linkHearsSpec.post enc Tryd.prog Tryd.f6 false true false false W args v W' := by
  have hval : ∀ (j : Nat) t v, Tryd.f6.params[j]? = some t → args[j]? = some v → Value.okWide Tryd.prog W .any base t v := hval0
  have hW' := hW
  obtain ⟨p, q, hA0, hV, rfl, hfz, hnd⟩ := hW
  have hA : DataW.TrodAll enc Tryd.prog W 0 (fun _ => true) true Tryd.f6.params.toList args.toList ds p := hA0
  rw [Tryd.params6] at hA hval
  obtain ⟨rfl, rfl⟩ := trodVars_none hV
  obtain ⟨v0, vs0, d0, ds0, p0, q0, hargs, rfl, rfl, h0, r0⟩ := trodAll_cons hA
  obtain ⟨v1, vs1, d1, ds1, p1, q1, rfl, rfl, rfl, h1, r1⟩ := trodAll_cons r0
  obtain ⟨rfl, rfl, rfl⟩ := trodAll_nil r1
  obtain rfl : args = #[v0, v1] := by cases args; simp_all
  have hbulk := bulk_small hk
  have hb0 := Nat.le_trans (bulk_mem (show d0 ∈ [d0, d1] ++ [] by simp)) hbulk
  have hb1 := Nat.le_trans (bulk_mem (show d1 ∈ [d0, d1] ++ [] by simp)) hbulk
  obtain ⟨cs0, rfl, _⟩ := okWide_struct Tryd.underlying35 (hval 0 35 v0 rfl rfl)
  obtain ⟨m0, hm0⟩ := h0
  obtain ⟨l, hv0, hin, hfit⟩ := open_link hm0 hb0
  obtain ⟨cs1, rfl, _⟩ := okWide_struct Tryd.underlying39 (hval 1 39 v1 rfl rfl)
  obtain ⟨m1, hm1⟩ := h1
  obtain ⟨ep, nu, b, ak, k, h, e, A, c, ps, s, hv1, ⟨g1, g2, hs, hpl, ht⟩, hst⟩ := open_packet hm1 hb1
  obtain ⟨l0⟩ := cs0
  obtain rfl : l0 = _ := hv0
  obtain ⟨l1⟩ := cs1
  obtain rfl : l1 = _ := hv1
  refine (walk W l ⟨ep, nu, b, ak, ⟨k, h, e, ⟨A, c, ps⟩, s⟩⟩ hT hin hfit hs (FrameV.Fit.small ⟨⟨hpl, ht, g1, g2⟩, hst⟩)).mono fun e W' ⟨he, hg⟩ => ?_
  subst he
  exact ⟨_, rfl, post_law (tb := 4) laidOut (by kernel_rfl) rfl (by kernel_rfl) Tryd.underlying4 rfl hW' hg⟩
theorem reads (os : Os) {H : Type} (enc : TypeId × Value → H) : ∃ places, DataW.whole enc Tryd.prog ((laidWorld os).forCall (fun _ _ => 0) ⟨#[], #[.agg #[.int .i64 0, .int .i64 0, .slice none 0 0, .slice none 0 0, .int .i64 0], .agg #[.int .i64 0, .int .i64 0, .bool false, .int .i64 0, .int .i64 0, .int .i64 0, .int .i64 0, .slice none 0 0, .string ⟨#[]⟩]], []⟩).memory Tryd.f6.params.toList Rows.linkHearsSpec.vars false #[.agg #[.int .i64 0, .int .i64 0, .slice none 0 0, .slice none 0 0, .int .i64 0], .agg #[.int .i64 0, .int .i64 0, .bool false, .int .i64 0, .int .i64 0, .int .i64 0, .int .i64 0, .slice none 0 0, .string ⟨#[]⟩]].toList 8 = some ([.agg [.lit (.int .i64 0), .lit (.int .i64 0), .nil, .nil, .lit (.int .i64 0)], .agg [.lit (.int .i64 0), .lit (.int .i64 0), .lit (.bool false), .lit (.int .i64 0), .agg [.lit (.int .i64 0), .lit (.int .i64 0), .lit (.int .i64 0), .nil, .lit (.string [])]]], [], places) := by
  have hw : (DataW.whole enc Tryd.prog ((laidWorld os).forCall (fun _ _ => 0) ⟨#[], #[.agg #[.int .i64 0, .int .i64 0, .slice none 0 0, .slice none 0 0, .int .i64 0], .agg #[.int .i64 0, .int .i64 0, .bool false, .int .i64 0, .int .i64 0, .int .i64 0, .int .i64 0, .slice none 0 0, .string ⟨#[]⟩]], []⟩).memory Tryd.f6.params.toList Rows.linkHearsSpec.vars false #[.agg #[.int .i64 0, .int .i64 0, .slice none 0 0, .slice none 0 0, .int .i64 0], .agg #[.int .i64 0, .int .i64 0, .bool false, .int .i64 0, .int .i64 0, .int .i64 0, .int .i64 0, .slice none 0 0, .string ⟨#[]⟩]].toList 8).map (fun x => (x.1, x.2.1)) = some ([.agg [.lit (.int .i64 0), .lit (.int .i64 0), .nil, .nil, .lit (.int .i64 0)], .agg [.lit (.int .i64 0), .lit (.int .i64 0), .lit (.bool false), .lit (.int .i64 0), .agg [.lit (.int .i64 0), .lit (.int .i64 0), .lit (.int .i64 0), .nil, .lit (.string [])]]], []) := by kernel_rfl
  obtain ⟨⟨x1, x2, x3⟩, hx, hx1⟩ := Option.map_eq_some_iff.1 hw
  simp only [Prod.mk.injEq] at hx1
  obtain ⟨rfl, rfl⟩ := hx1
  exact ⟨x3, hx⟩
theorem lifted (os : Os) (started : os.Started) (H : Type) (enc : TypeId × Value → H) (F : Stop.Interp) :
    ReturnsInHanded {} Tryd.checked os 6 .any ((Rows.OpenSpec.upto Rows.linkHearsSpec).preRow enc Tryd.prog Tryd.f6 Rows.linkHearsUptoRow.domain false Rows.linkHearsUptoRow.laid) (((Rows.OpenSpec.upto Rows.linkHearsSpec).at F).post enc Tryd.prog Tryd.f6 false true false false) := by
  obtain ⟨places, hx⟩ := reads os enc
  refine returnsInHanded_of_row (C := Tryd.checked) (s := Rows.OpenSpec.upto Rows.linkHearsSpec) own started (by kernel_rfl) Tryd.func6
    (witness_row_atRef (enc := enc) (C := Tryd.checked) false (laidWorld os) #[.agg #[.int .i64 0, .int .i64 0, .slice none 0 0, .slice none 0 0, .int .i64 0], .agg #[.int .i64 0, .int .i64 0, .bool false, .int .i64 0, .int .i64 0, .int .i64 0, .int .i64 0, .slice none 0 0, .string ⟨#[]⟩]] rfl (by kernel_rfl) (by kernel_rfl) (by kernel_rfl)
      (OpenSpec.preRow_of_cond 8 hx (by kernel_rfl) (fun k hk => by cases hk; kernel_rfl) (by kernel_rfl) (laid_met os _))) ?_
  intro W base args ds gs before hval hW _ hcond _ hL _ _
  exact contract H enc W base args ds gs before hval hW (hcond _ rfl) (tabs_of hL)
theorem said : Rows.LinkHearsUptoSaid :=
  OpenClaim.holds_of_cond 6 Tryd.f6 rfl rfl rfl rfl rfl rfl rfl ⟨rfl, rfl, rfl, rfl, rfl⟩ rfl rfl rfl rfl rfl (by kernel_rfl) Tryd.func6 (by kernel_rfl)
    (of_decide_eq_true (by kernel_rfl)) (by unfold Func.isWrapper; first | (rw [if_pos (by decide +kernel)]; kernel_rfl) | (rw [if_neg (by decide +kernel)]; exact ⟨rfl, rfl⟩))
    (fun os started H enc _ F => by rw [OpenClaim.pre_eq_preRow]; exact lifted os started H enc F)
theorem plain (f : FuncId) (fn : Func) (hf : Tryd.pinned.checked.prog.funcNamed "wherry/wherrylaw.LinkHears" = some f) (hfn : Tryd.pinned.checked.prog.funcs[f]? = some fn) :
    false = Tryd.pinned.checked.prog.looks [] ∧ ∀ (j : Nat) t, fn.params[j]? = some t → Tryd.pinned.checked.prog.wantsStandIn t = false := by
  obtain rfl : f = 6 := Option.some.inj ((show Tryd.prog.funcNamed "wherry/wherrylaw.LinkHears" = some 6 by kernel_rfl).symm.trans hf) |>.symm
  obtain rfl : fn = Tryd.f6 := (Option.some.inj (Tryd.func6.symm.trans hfn)).symm
  refine ⟨by kernel_rfl, fun j t ht => ?_⟩
  have hall : (Tryd.f6.params.toList.all fun u => !Tryd.prog.wantsStandIn u) = true := by kernel_rfl
  have hm : t ∈ Tryd.f6.params.toList := by simpa using Array.mem_of_getElem? ht
  exact (show Tryd.prog.wantsStandIn t = false by simpa using List.all_eq_true.1 hall t hm)
theorem card : Rows.LinkHearsUptoCardSaid :=
  Claim7.holds_tied_plain_at .later [] _ _ _ _ said (fun _ h => by cases h) (by kernel_rfl) (fun _ h => by cases h) linkHearsUpto_row_tie rfl ⟨rfl, rfl⟩ (by kernel_rfl) rfl plain (by kernel_rfl)
end linkHears
end Go.Proofs.YtgcapkkgminidaaDoor
