/-
  Contracts of link.packet, link.bare and the reference's packetAt.
-/
import Derived.Test.YtgcapkkgminidaaDoorRows
import Derived.Test.YtgcapkkgminidaaDoorSamePk
namespace Go.Proofs.YtgcapkkgminidaaDoor
open Go.ChangeShapes Go.WideShapes Go.ChangeAt Go.RowKit
set_option maxRecDepth 100000
/-- A call that hands back this packet, its operation in memory of its own. -/
def RetPacket (w : World) (d : PacketD) (e : Ending) (w' : World) : Prop :=
  ∃ A c, e = .returned (packetV d.epoch d.number d.bare d.ack d.frame.kind d.frame.heard d.frame.epoch A d.frame.op.length c d.frame.text) ∧ OpIn (fun b => w.heap.size ≤ b ∧ b < w'.heap.size) w' A d.frame.op ∧ Below w.heap.size w w'
theorem grow_tail (X Y : World) (d : Nat) (os : Array Obj) (h : X.heap.size = Y.heap.size) {b : Nat} (hb : X.heap.size ≤ b) : (Go.Sort.grow (redrawn Y d) os).heap[b]? = (Go.Sort.grow (redrawn X d) os).heap[b]? := by
  show (Y.heap ++ os)[b]? = (X.heap ++ os)[b]?
  rw [Array.getElem?_append_right (by omega), Array.getElem?_append_right hb, h]
theorem num_wrap {n : Int} {m k : Nat} (h1 : 1 ≤ n) (h2 : n ≤ 1048576) (h3 : m ≤ 8) (hk : k < m) : IntKind.i64.wrap (IntKind.i64.wrap (n - (m : Int)) + (k : Int)) = n - m + k := by
  rw [IntKind.wrap_i64, IntKind.wrap_i64]
  omega
theorem nine_cell {w : World} {B : Nat} {v0 v1 v2 v3 v4 v5 v6 v7 v8 : Value} {t : TypeId} (h : w.heap[B]? = some (.cells #[v0, v1, v2, v3, v4, v5, v6, v7, v8] t (0, 0))) :
    w.cell? ⟨B, 0, none⟩ = some v0 ∧ w.cell? ⟨B, 1, none⟩ = some v1 ∧ w.cell? ⟨B, 2, none⟩ = some v2 ∧ w.cell? ⟨B, 3, none⟩ = some v3 ∧ w.cell? ⟨B, 4, none⟩ = some v4 ∧ w.cell? ⟨B, 5, none⟩ = some v5 ∧ w.cell? ⟨B, 6, none⟩ = some v6 ∧ w.cell? ⟨B, 7, none⟩ = some v7 ∧ w.cell? ⟨B, 8, none⟩ = some v8 ∧
      w.frozen? ⟨B, 0, none⟩ = false ∧ w.frozen? ⟨B, 1, none⟩ = false ∧ w.frozen? ⟨B, 2, none⟩ = false ∧ w.frozen? ⟨B, 3, none⟩ = false ∧ w.frozen? ⟨B, 4, none⟩ = false ∧ w.frozen? ⟨B, 5, none⟩ = false ∧ w.frozen? ⟨B, 6, none⟩ = false ∧ w.frozen? ⟨B, 7, none⟩ = false ∧ w.frozen? ⟨B, 8, none⟩ = false ∧ B < w.heap.size :=
  ⟨by simp [World.cell?, h], by simp [World.cell?, h], by simp [World.cell?, h], by simp [World.cell?, h], by simp [World.cell?, h], by simp [World.cell?, h], by simp [World.cell?, h], by simp [World.cell?, h], by simp [World.cell?, h], by simp [World.frozen?, h], by simp [World.frozen?, h], by simp [World.frozen?, h], by simp [World.frozen?, h], by simp [World.frozen?, h], by simp [World.frozen?, h], by simp [World.frozen?, h], by simp [World.frozen?, h], by simp [World.frozen?, h], (Array.getElem?_eq_some_iff.1 h).1⟩
theorem nine_sets {w : World} {B : Nat} {v0 v1 v2 v3 v4 v5 v6 v7 v8 x0 x1 x2 x3 x4 x5 x6 x7 x8 : Value} {t : TypeId} (h : w.heap[B]? = some (.cells #[v0, v1, v2, v3, v4, v5, v6, v7, v8] t (0, 0))) :
    (((((((((w.setCell ⟨B, 0, none⟩ x0).setCell ⟨B, 1, none⟩ x1).setCell ⟨B, 2, none⟩ x2).setCell ⟨B, 3, none⟩ x3).setCell ⟨B, 4, none⟩ x4).setCell ⟨B, 5, none⟩ x5).setCell ⟨B, 6, none⟩ x6).setCell ⟨B, 7, none⟩ x7).setCell ⟨B, 8, none⟩ x8).heap[B]? = some (.cells #[x0, x1, x2, x3, x4, x5, x6, x7, x8] t (0, 0)) := by
  have h0 : (w.setCell ⟨B, 0, none⟩ x0).heap[B]? = some (.cells #[x0, v1, v2, v3, v4, v5, v6, v7, v8] t (0, 0)) := any_set 0 x0 h
  have h1 : ((w.setCell ⟨B, 0, none⟩ x0).setCell ⟨B, 1, none⟩ x1).heap[B]? = some (.cells #[x0, x1, v2, v3, v4, v5, v6, v7, v8] t (0, 0)) := any_set 1 x1 h0
  have h2 : (((w.setCell ⟨B, 0, none⟩ x0).setCell ⟨B, 1, none⟩ x1).setCell ⟨B, 2, none⟩ x2).heap[B]? = some (.cells #[x0, x1, x2, v3, v4, v5, v6, v7, v8] t (0, 0)) := any_set 2 x2 h1
  have h3 : ((((w.setCell ⟨B, 0, none⟩ x0).setCell ⟨B, 1, none⟩ x1).setCell ⟨B, 2, none⟩ x2).setCell ⟨B, 3, none⟩ x3).heap[B]? = some (.cells #[x0, x1, x2, x3, v4, v5, v6, v7, v8] t (0, 0)) := any_set 3 x3 h2
  have h4 : (((((w.setCell ⟨B, 0, none⟩ x0).setCell ⟨B, 1, none⟩ x1).setCell ⟨B, 2, none⟩ x2).setCell ⟨B, 3, none⟩ x3).setCell ⟨B, 4, none⟩ x4).heap[B]? = some (.cells #[x0, x1, x2, x3, x4, v5, v6, v7, v8] t (0, 0)) := any_set 4 x4 h3
  have h5 : ((((((w.setCell ⟨B, 0, none⟩ x0).setCell ⟨B, 1, none⟩ x1).setCell ⟨B, 2, none⟩ x2).setCell ⟨B, 3, none⟩ x3).setCell ⟨B, 4, none⟩ x4).setCell ⟨B, 5, none⟩ x5).heap[B]? = some (.cells #[x0, x1, x2, x3, x4, x5, v6, v7, v8] t (0, 0)) := any_set 5 x5 h4
  have h6 : (((((((w.setCell ⟨B, 0, none⟩ x0).setCell ⟨B, 1, none⟩ x1).setCell ⟨B, 2, none⟩ x2).setCell ⟨B, 3, none⟩ x3).setCell ⟨B, 4, none⟩ x4).setCell ⟨B, 5, none⟩ x5).setCell ⟨B, 6, none⟩ x6).heap[B]? = some (.cells #[x0, x1, x2, x3, x4, x5, x6, v7, v8] t (0, 0)) := any_set 6 x6 h5
  have h7 : ((((((((w.setCell ⟨B, 0, none⟩ x0).setCell ⟨B, 1, none⟩ x1).setCell ⟨B, 2, none⟩ x2).setCell ⟨B, 3, none⟩ x3).setCell ⟨B, 4, none⟩ x4).setCell ⟨B, 5, none⟩ x5).setCell ⟨B, 6, none⟩ x6).setCell ⟨B, 7, none⟩ x7).heap[B]? = some (.cells #[x0, x1, x2, x3, x4, x5, x6, x7, v8] t (0, 0)) := any_set 7 x7 h6
  have h8 : (((((((((w.setCell ⟨B, 0, none⟩ x0).setCell ⟨B, 1, none⟩ x1).setCell ⟨B, 2, none⟩ x2).setCell ⟨B, 3, none⟩ x3).setCell ⟨B, 4, none⟩ x4).setCell ⟨B, 5, none⟩ x5).setCell ⟨B, 6, none⟩ x6).setCell ⟨B, 7, none⟩ x7).setCell ⟨B, 8, none⟩ x8).heap[B]? = some (.cells #[x0, x1, x2, x3, x4, x5, x6, x7, x8] t (0, 0)) := any_set 8 x8 h7
  exact h8
/-- The block of a link's own five cells. -/
abbrev LinkAt (w : World) (X : Nat) (l : LinkV) : Prop := w.heap[X]? = some (.cells #[.int .i64 l.e, .int .i64 l.n, .slice l.sA l.s.length l.sc, .slice l.qA l.q.length l.qc, .int .i64 l.h] 35 (0, 0))
/-- The block of a packet's own nine cells. -/
abbrev PacketAt (w : World) (X : Nat) (ep nu : Int) (b : Bool) (ak k h e : Int) (A : Option Addr) (n c : Nat) (s : ByteArray) : Prop := w.heap[X]? = some (.cells #[.int .i64 ep, .int .i64 nu, .bool b, .int .i64 ak, .int .i64 k, .int .i64 h, .int .i64 e, .slice A n c, .string s] 39 (0, 0))
/-- The packet of the k'th frame that was sent. -/
def packetD (l : LinkV) (k : Nat) : PacketD := ⟨l.e, l.n - l.s.length + k, false, l.h, (l.s.getD k default).d⟩
def bareD (l : LinkV) : PacketD := ⟨l.e, 0, true, l.h, ⟨0, 0, 0, [], ⟨#[]⟩⟩⟩
theorem packetD_at (l : LinkV) (k : Nat) (hk : k < l.s.length) : packetD l k = ⟨l.e, l.n - l.s.length + k, false, l.h, l.s[k].d⟩ := by
  unfold packetD
  simp [List.getD_eq_getElem?_getD, hk]
theorem bare_c (w : World) (l : LinkV) : Calls Tryd.prog 63 #[l.val] w (RetPacket w (bareD l)) := by
  obtain ⟨e, n, sA, sc, s, qA, qc, q, h⟩ := l
  go_enter Tryd.func63, Tryd.ntmps63
  go_wp2_with fail
  refine bodyPost_ret (v := packetV e 0 true h 0 0 0 none 0 0 ⟨#[]⟩) (by simp [results, Tryd.results63, go_sem]) rfl ?_
  exact ⟨none, 0, rfl, Sl.nil, (by repeat (first | exact Below.refl _ _ | apply bGrow | apply bAlloc | apply Below.drew | apply bDrewN | apply bIter))⟩
set_option maxHeartbeats 1000000 in
theorem packet_c (w : World) (l : LinkV) (k : Nat) (hk : k < l.s.length) (hs : FramesIn w l.sA l.s) (hm : ∀ f ∈ l.s, f.o.ps.length ≤ 1048576) (hn : 1 ≤ l.n ∧ l.n ≤ 1048576 ∧ l.s.length ≤ 8) :
    Calls Tryd.prog 107 #[l.val, .int .i64 k] w (RetPacket w (packetD l k)) := by
  rw [packetD_at l k hk]
  obtain ⟨b, o, hA, hbs, g0, g1, g2, g3, g4, hop⟩ := hs.at_ hk
  have hl := hm _ (List.getElem_mem hk)
  generalize l.s[k] = f at *
  obtain ⟨fk, fh, fe, ⟨fA, fc, fp⟩, fs⟩ := f
  obtain ⟨e, n, sA, sc, s, qA, qc, q, h⟩ := l
  dsimp only at *
  subst hA
  have HC := Lib.hid (fun W hs => copyFrame_c W fk fh fe fA fc fp fs hs hl)
  have HP := Lib.hid hop
  obtain ⟨h1, h2, h3⟩ := hn
  clear hop hl hs hm
  go_enter Tryd.func107, Tryd.ntmps107
  go_wp2_with fail
  go_region_held3 (fun w' => w'.cell? ⟨w.heap.size, 0, none⟩ = some (.int .i64 e) ∧ w'.cell? ⟨w.heap.size, 1, none⟩ = some (.int .i64 n) ∧ w'.cell? ⟨w.heap.size, 2, none⟩ = some (.slice (some ⟨b, o, none⟩) s.length sc) ∧ w'.cell? ⟨w.heap.size, 4, none⟩ = some (.int .i64 h) ∧ w'.cell? ⟨b, o + k * 5, none⟩ = some (.int .i64 fk) ∧ w'.cell? ⟨b, o + k * 5 + 1, none⟩ = some (.int .i64 fh) ∧ w'.cell? ⟨b, o + k * 5 + 2, none⟩ = some (.int .i64 fe) ∧ w'.cell? ⟨b, o + k * 5 + 3, none⟩ = some (.slice fA fp.length fc) ∧ w'.cell? ⟨b, o + k * 5 + 4, none⟩ = some (.string fs))
    (go_keep)
    ((first
      | (go_at_call 61; refine (HC.out _ ?_).mono ?_; exact Sl.later HP.out (by repeat (first | exact Below.refl _ _ | apply bGrow | apply bAlloc | apply Below.drew | apply bDrewN | apply bIter)); rintro r w2 ⟨A2, c2, rfl, ho2, hb2⟩; obtain ⟨⟨d2, os2⟩, rfl⟩ := beyond_of hb2)))
  all_goals (
    go_wp2_with fail
    rw [num_wrap h1 h2 h3 hk]
    have hb2' := hb2
    refine bodyPost_ret (v := packetV e (n - s.length + k) false h fk fh fe A2 fp.length c2 fs) (by simp [results, Tryd.results107, go_sem]) rfl ?_
    exact ⟨A2, c2, rfl, ho2.moved fun b hb => ⟨by simp at hb ⊢; omega, grow_tail _ _ _ _ (by simp) hb.1⟩, (by repeat (first | exact Below.refl _ _ | apply bGrow | apply bAlloc | apply Below.drew | apply bDrewN | apply bIter))⟩)
set_option maxHeartbeats 1000000 in
theorem packetAt_c (w : World) (l : LinkV) (k : Nat) (hk : k < l.s.length) (hs : FramesIn w l.sA l.s) (hm : ∀ f ∈ l.s, f.o.ps.length ≤ 1048576) (hn : 1 ≤ l.n ∧ l.n ≤ 1048576 ∧ l.s.length ≤ 8) :
    Calls Tryd.prog 110 #[l.val, .int .i64 k] w (RetPacket w (packetD l k)) := by
  rw [packetD_at l k hk]
  obtain ⟨b, o, hA, hbs, g0, g1, g2, g3, g4, hop⟩ := hs.at_ hk
  have hl := hm _ (List.getElem_mem hk)
  generalize l.s[k] = f at *
  obtain ⟨fk, fh, fe, ⟨fA, fc, fp⟩, fs⟩ := f
  obtain ⟨e, n, sA, sc, s, qA, qc, q, h⟩ := l
  dsimp only at *
  subst hA
  have HC := Lib.hid (fun W hs => FrameCopy_c W fk fh fe fA fc fp fs hs hl)
  have HP := Lib.hid hop
  obtain ⟨h1, h2, h3⟩ := hn
  clear hop hl hs hm
  go_enter Tryd.func110, Tryd.ntmps110
  go_wp2_with fail
  refine (HC.out _ (Sl.later HP.out (by repeat (first | exact Below.refl _ _ | apply bGrow | apply bAlloc | apply Below.drew | apply bDrewN | apply bIter)))).mono ?_
  rintro r w2 ⟨A2, c2, rfl, ho2, hb2⟩
  have HL := Lib.hid (show LinkAt w2 w.heap.size ⟨e, n, some ⟨b, o, none⟩, sc, s, qA, qc, q, h⟩ from (hb2.block _ (by simp)).trans ((heap_alloc_old _ _ _ (by simp)).trans (heap_alloc_new _ _)))
  have HR := Lib.hid (show PacketAt w2 (w.heap.size + 1) 0 0 false 0 0 0 0 none 0 0 ⟨#[]⟩ from (hb2.block _ (by simp)).trans (by have h1 := heap_alloc_new (w.alloc (.cells #[.int .i64 e, .int .i64 n, .slice (some ⟨b, o, none⟩) s.length sc, .slice qA q.length qc, .int .i64 h] 35)) (.cells #[.int .i64 0, .int .i64 0, .bool false, .int .i64 0, .int .i64 0, .int .i64 0, .int .i64 0, .slice none 0 0, .string ⟨#[]⟩] 39); simpa using h1))
  have hz2 := hb2.size
  simp at hz2
  obtain ⟨x0, x1, x2, x3, x4, _, _, _, _, _, hxz⟩ := five_cell HL.out
  obtain ⟨y0, y1, y2, y3, y4, y5, y6, y7, y8, f0, f1, f2, f3, f4, f5, f6, f7, f8, hyz⟩ := nine_cell HR.out
  have n1 : ¬ w.heap.size = w2.heap.size := by omega
  have n2 : ¬ w2.heap.size = w.heap.size := by omega
  have n3 : ¬ w.heap.size + 1 = w2.heap.size := by omega
  have n4 : ¬ w2.heap.size = w.heap.size + 1 := by omega
  go_wp2_with fail
  obtain ⟨W9, hW9⟩ : ∃ W9, W9 = (((((((((w2.setCell ⟨w.heap.size + 1, 0, none⟩ (.int .i64 e)).setCell ⟨w.heap.size + 1, 1, none⟩ (.int .i64 (n - s.length + k))).setCell ⟨w.heap.size + 1, 2, none⟩ (.bool false)).setCell ⟨w.heap.size + 1, 3, none⟩ (.int .i64 h)).setCell ⟨w.heap.size + 1, 4, none⟩ (.int .i64 fk)).setCell ⟨w.heap.size + 1, 5, none⟩ (.int .i64 fh)).setCell ⟨w.heap.size + 1, 6, none⟩ (.int .i64 fe)).setCell ⟨w.heap.size + 1, 7, none⟩ (.slice A2 fp.length c2)).setCell ⟨w.heap.size + 1, 8, none⟩ (.string fs)) := ⟨_, rfl⟩
  have hO : Only (w.heap.size + 1) w2 W9 := by rw [hW9]; exact ((((((((Only.set _ _ _).trans (Only.set _ _ _)).trans (Only.set _ _ _)).trans (Only.set _ _ _)).trans (Only.set _ _ _)).trans (Only.set _ _ _)).trans (Only.set _ _ _)).trans (Only.set _ _ _)).trans (Only.set _ _ _)
  have hP9 : PacketAt W9 (w.heap.size + 1) e (n - s.length + k) false h fk fh fe A2 fp.length c2 fs := by rw [hW9]; exact nine_sets HR.out
  rw [← hW9]
  have hz9 := hO.size
  have hB9 : Below w.heap.size w W9 := (box_below' (box_below' hb2)).trans (hO.below (by omega) (by omega))
  refine post_hide (fun G => PacketAt G (w.heap.size + 1) e (n - s.length + k) false h fk fh fe A2 fp.length c2 fs ∧ OpIn (fun b => w.heap.size ≤ b ∧ b < G.heap.size) G A2 fp ∧ Below w.heap.size w G) ⟨(heap_alloc_old _ _ _ (by omega)).trans hP9, ho2.moved fun b hb => ⟨?_, ?_⟩, bAlloc hB9 _⟩ ?_
  · simp at hb ⊢
    omega
  · simp at hb
    exact (heap_alloc_old _ _ _ (by omega)).trans (hO.block _ hb.2 (by omega))
  rintro G ⟨hR4, hO4, hF4⟩
  clear y0 y1 y2 y3 y4 y5 y6 y7 y8
  obtain ⟨y0, y1, y2, y3, y4, y5, y6, y7, y8, _, _, _, _, _, _, _, _, _, _⟩ := nine_cell hR4
  refine bodyPost_ret (v := packetV e (n - s.length + k) false h fk fh fe A2 fp.length c2 fs) (by simp [results, Tryd.results110, go_sem, y0, y1, y2, y3, y4, y5, y6, y7, y8]) rfl ?_
  exact ⟨A2, c2, rfl, hO4, hF4⟩
end Go.Proofs.YtgcapkkgminidaaDoor
