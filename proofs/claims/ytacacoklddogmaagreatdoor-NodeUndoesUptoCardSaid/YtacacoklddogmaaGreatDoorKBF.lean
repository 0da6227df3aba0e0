/- A part of the proof of NodeUndoes. -/
import Derived.Test.YtacacoklddogmaaGreatDoorKBE
namespace Go.Proofs.YtacacoklddogmaaGreatDoor
set_option maxHeartbeats 4000000
open Go.ChangeShapes Go.WideShapes Go.ChangeAt Go.RowKit
set_option maxRecDepth 100000
def RetPacket (w : World) (d : PacketD) (e : Ending) (w' : World) : Prop :=
 ∃ A c, e = .returned (packetV d.epoch d.number d.bare d.ack d.frame.kind d.frame.heard d.frame.epoch A d.frame.op.length c d.frame.text) ∧ OpIn (fun b => w.heap.size ≤ b ∧ b < w'.heap.size) w' A d.frame.op ∧ Below w.heap.size w w'
theorem de_ (X Y : World) (d : Nat) (os : Array Obj) (h : X.heap.size = Y.heap.size) {b : Nat} (hb : X.heap.size ≤ b) : (Go.Sort.grow (redrawn Y d) os).heap[b]? = (Go.Sort.grow (redrawn X d) os).heap[b]? := by
 show (Y.heap ++ os)[b]? = (X.heap ++ os)[b]?
 rw [Array.getElem?_append_right (by omega), Array.getElem?_append_right hb, h]
theorem ye_ {n : Int} {m k : Nat} (h1 : 1 ≤ n) (h2 : n ≤ 1048576) (h3 : m ≤ 8) (hk : k < m) : IntKind.i64.wrap (IntKind.i64.wrap (n - (m : Int)) + (k : Int)) = n - m + k := by
 rw [IntKind.wrap_i64, IntKind.wrap_i64]
 omega
theorem hw_ {w : World} {B : Nat} {v0 v1 v2 v3 v4 v5 v6 v7 v8 : Value} {t : TypeId} (h : w.heap[B]? = some (.cells #[v0, v1, v2, v3, v4, v5, v6, v7, v8] t (0, 0))) :
 w.cell? ⟨B, 0, none⟩ = some v0 ∧ w.cell? ⟨B, 1, none⟩ = some v1 ∧ w.cell? ⟨B, 2, none⟩ = some v2 ∧ w.cell? ⟨B, 3, none⟩ = some v3 ∧ w.cell? ⟨B, 4, none⟩ = some v4 ∧ w.cell? ⟨B, 5, none⟩ = some v5 ∧ w.cell? ⟨B, 6, none⟩ = some v6 ∧ w.cell? ⟨B, 7, none⟩ = some v7 ∧ w.cell? ⟨B, 8, none⟩ = some v8 ∧
  w.frozen? ⟨B, 0, none⟩ = false ∧ w.frozen? ⟨B, 1, none⟩ = false ∧ w.frozen? ⟨B, 2, none⟩ = false ∧ w.frozen? ⟨B, 3, none⟩ = false ∧ w.frozen? ⟨B, 4, none⟩ = false ∧ w.frozen? ⟨B, 5, none⟩ = false ∧ w.frozen? ⟨B, 6, none⟩ = false ∧ w.frozen? ⟨B, 7, none⟩ = false ∧ w.frozen? ⟨B, 8, none⟩ = false ∧ B < w.heap.size :=
 ⟨by simp [World.cell?, h], by simp [World.cell?, h], by simp [World.cell?, h], by simp [World.cell?, h], by simp [World.cell?, h], by simp [World.cell?, h], by simp [World.cell?, h], by simp [World.cell?, h], by simp [World.cell?, h], by simp [World.frozen?, h], by simp [World.frozen?, h], by simp [World.frozen?, h], by simp [World.frozen?, h], by simp [World.frozen?, h], by simp [World.frozen?, h], by simp [World.frozen?, h], by simp [World.frozen?, h], by simp [World.frozen?, h], (Array.getElem?_eq_some_iff.1 h).1⟩
theorem wg_ {w : World} {B : Nat} {v0 v1 v2 v3 v4 v5 v6 v7 v8 x0 x1 x2 x3 x4 x5 x6 x7 x8 : Value} {t : TypeId} (h : w.heap[B]? = some (.cells #[v0, v1, v2, v3, v4, v5, v6, v7, v8] t (0, 0))) :
 (((((((((w.setCell ⟨B, 0, none⟩ x0).setCell ⟨B, 1, none⟩ x1).setCell ⟨B, 2, none⟩ x2).setCell ⟨B, 3, none⟩ x3).setCell ⟨B, 4, none⟩ x4).setCell ⟨B, 5, none⟩ x5).setCell ⟨B, 6, none⟩ x6).setCell ⟨B, 7, none⟩ x7).setCell ⟨B, 8, none⟩ x8).heap[B]? = some (.cells #[x0, x1, x2, x3, x4, x5, x6, x7, x8] t (0, 0)) := by
 have h0 : (w.setCell ⟨B, 0, none⟩ x0).heap[B]? = some (.cells #[x0, v1, v2, v3, v4, v5, v6, v7, v8] t (0, 0)) := e_ 0 x0 h
 have h1 : ((w.setCell ⟨B, 0, none⟩ x0).setCell ⟨B, 1, none⟩ x1).heap[B]? = some (.cells #[x0, x1, v2, v3, v4, v5, v6, v7, v8] t (0, 0)) := e_ 1 x1 h0
 have h2 : (((w.setCell ⟨B, 0, none⟩ x0).setCell ⟨B, 1, none⟩ x1).setCell ⟨B, 2, none⟩ x2).heap[B]? = some (.cells #[x0, x1, x2, v3, v4, v5, v6, v7, v8] t (0, 0)) := e_ 2 x2 h1
 have h3 : ((((w.setCell ⟨B, 0, none⟩ x0).setCell ⟨B, 1, none⟩ x1).setCell ⟨B, 2, none⟩ x2).setCell ⟨B, 3, none⟩ x3).heap[B]? = some (.cells #[x0, x1, x2, x3, v4, v5, v6, v7, v8] t (0, 0)) := e_ 3 x3 h2
 have h4 : (((((w.setCell ⟨B, 0, none⟩ x0).setCell ⟨B, 1, none⟩ x1).setCell ⟨B, 2, none⟩ x2).setCell ⟨B, 3, none⟩ x3).setCell ⟨B, 4, none⟩ x4).heap[B]? = some (.cells #[x0, x1, x2, x3, x4, v5, v6, v7, v8] t (0, 0)) := e_ 4 x4 h3
 have h5 : ((((((w.setCell ⟨B, 0, none⟩ x0).setCell ⟨B, 1, none⟩ x1).setCell ⟨B, 2, none⟩ x2).setCell ⟨B, 3, none⟩ x3).setCell ⟨B, 4, none⟩ x4).setCell ⟨B, 5, none⟩ x5).heap[B]? = some (.cells #[x0, x1, x2, x3, x4, x5, v6, v7, v8] t (0, 0)) := e_ 5 x5 h4
 have h6 : (((((((w.setCell ⟨B, 0, none⟩ x0).setCell ⟨B, 1, none⟩ x1).setCell ⟨B, 2, none⟩ x2).setCell ⟨B, 3, none⟩ x3).setCell ⟨B, 4, none⟩ x4).setCell ⟨B, 5, none⟩ x5).setCell ⟨B, 6, none⟩ x6).heap[B]? = some (.cells #[x0, x1, x2, x3, x4, x5, x6, v7, v8] t (0, 0)) := e_ 6 x6 h5
 have h7 : ((((((((w.setCell ⟨B, 0, none⟩ x0).setCell ⟨B, 1, none⟩ x1).setCell ⟨B, 2, none⟩ x2).setCell ⟨B, 3, none⟩ x3).setCell ⟨B, 4, none⟩ x4).setCell ⟨B, 5, none⟩ x5).setCell ⟨B, 6, none⟩ x6).setCell ⟨B, 7, none⟩ x7).heap[B]? = some (.cells #[x0, x1, x2, x3, x4, x5, x6, x7, v8] t (0, 0)) := e_ 7 x7 h6
 have h8 : (((((((((w.setCell ⟨B, 0, none⟩ x0).setCell ⟨B, 1, none⟩ x1).setCell ⟨B, 2, none⟩ x2).setCell ⟨B, 3, none⟩ x3).setCell ⟨B, 4, none⟩ x4).setCell ⟨B, 5, none⟩ x5).setCell ⟨B, 6, none⟩ x6).setCell ⟨B, 7, none⟩ x7).setCell ⟨B, 8, none⟩ x8).heap[B]? = some (.cells #[x0, x1, x2, x3, x4, x5, x6, x7, x8] t (0, 0)) := e_ 8 x8 h7
 exact h8
abbrev LinkAt (w : World) (X : Nat) (l : LinkV) : Prop := w.heap[X]? = some (.cells #[.int .i64 l.e, .int .i64 l.n, .slice l.sA l.s.length l.sc, .slice l.qA l.q.length l.qc, .int .i64 l.h] 58 (0, 0))
abbrev PacketAt (w : World) (X : Nat) (ep nu : Int) (b : Bool) (ak k h e : Int) (A : Option Addr) (n c : Nat) (s : ByteArray) : Prop := w.heap[X]? = some (.cells #[.int .i64 ep, .int .i64 nu, .bool b, .int .i64 ak, .int .i64 k, .int .i64 h, .int .i64 e, .slice A n c, .string s] 48 (0, 0))
def packetD (l : LinkV) (k : Nat) : PacketD := ⟨l.e, l.n - l.s.length + k, false, l.h, (l.s.getD k default).d⟩
theorem lt_ (l : LinkV) (k : Nat) (hk : k < l.s.length) : packetD l k = ⟨l.e, l.n - l.s.length + k, false, l.h, l.s[k].d⟩ := by
 unfold packetD
 simp [List.getD_eq_getElem?_getD, hk]
theorem yh_ (w : World) (l : LinkV) (k : Nat) (hk : k < l.s.length) (hs : FramesIn w l.sA l.s) (hm : ∀ f ∈ l.s, f.o.ps.length ≤ 1048576) (hn : 1 ≤ l.n ∧ l.n ≤ 1048576 ∧ l.s.length ≤ 8) :
 Calls Tryz.prog 131 #[l.val, .int .i64 k] w (RetPacket w (packetD l k)) := by
 rw [lt_ l k hk]
 obtain ⟨b, o, hA, hbs, g0, g1, g2, g3, g4, hop⟩ := hs.at_ hk
 have hl := hm _ (List.getElem_mem hk)
 generalize l.s[k] = f at *
 obtain ⟨fk, fh, fe, ⟨fA, fc, fp⟩, fs⟩ := f
 obtain ⟨e, n, sA, sc, s, qA, qc, q, h⟩ := l
 dsimp only at *
 subst hA
 have HC := h_ (fun W hs => ep_ W fk fh fe fA fc fp fs hs hl)
 have HP := h_ hop
 obtain ⟨h1, h2, h3⟩ := hn
 clear hop hl hs hm
 go_enter Tryz.func131, Tryz.ntmps131
 go_wp2_with fail
 go_region_held3 (fun w' => w'.cell? ⟨w.heap.size, 0, none⟩ = some (.int .i64 e) ∧ w'.cell? ⟨w.heap.size, 1, none⟩ = some (.int .i64 n) ∧ w'.cell? ⟨w.heap.size, 2, none⟩ = some (.slice (some ⟨b, o, none⟩) s.length sc) ∧ w'.cell? ⟨w.heap.size, 4, none⟩ = some (.int .i64 h) ∧ w'.cell? ⟨b, o + k * 5, none⟩ = some (.int .i64 fk) ∧ w'.cell? ⟨b, o + k * 5 + 1, none⟩ = some (.int .i64 fh) ∧ w'.cell? ⟨b, o + k * 5 + 2, none⟩ = some (.int .i64 fe) ∧ w'.cell? ⟨b, o + k * 5 + 3, none⟩ = some (.slice fA fp.length fc) ∧ w'.cell? ⟨b, o + k * 5 + 4, none⟩ = some (.string fs))
  (go_keep)
  ((first
    | (go_at_call 112; refine (HC.out _ ?_).mono ?_; exact Sl.later HP.out bz_; rintro r w2 ⟨A2, c2, rfl, ho2, hb2⟩; obtain ⟨⟨d2, os2⟩, rfl⟩ := a_ hb2)))
 all_goals (
  go_wp2_with fail
  rw [ye_ h1 h2 h3 hk]
  have hb2' := hb2
  refine bodyPost_ret (v := packetV e (n - s.length + k) false h fk fh fe A2 fp.length c2 fs) (by simp [results, Tryz.results131, go_sem]) rfl ?_
  exact ⟨A2, c2, rfl, ho2.moved fun b hb => ⟨by simp at hb ⊢; omega, de_ _ _ _ _ (by simp) hb.1⟩, bz_⟩)
theorem uc_ (w : World) (l : LinkV) (k : Nat) (hk : k < l.s.length) (hs : FramesIn w l.sA l.s) (hm : ∀ f ∈ l.s, f.o.ps.length ≤ 1048576) (hn : 1 ≤ l.n ∧ l.n ≤ 1048576 ∧ l.s.length ≤ 8) :
 Calls Tryz.prog 134 #[l.val, .int .i64 k] w (RetPacket w (packetD l k)) := by
 rw [lt_ l k hk]
 obtain ⟨b, o, hA, hbs, g0, g1, g2, g3, g4, hop⟩ := hs.at_ hk
 have hl := hm _ (List.getElem_mem hk)
 generalize l.s[k] = f at *
 obtain ⟨fk, fh, fe, ⟨fA, fc, fp⟩, fs⟩ := f
 obtain ⟨e, n, sA, sc, s, qA, qc, q, h⟩ := l
 dsimp only at *
 subst hA
 have HC := h_ (fun W hs => en_ W fk fh fe fA fc fp fs hs hl)
 have HP := h_ hop
 obtain ⟨h1, h2, h3⟩ := hn
 clear hop hl hs hm
 go_enter Tryz.func134, Tryz.ntmps134
 go_wp2_with fail
 refine (HC.out _ (Sl.later HP.out bz_)).mono ?_
 rintro r w2 ⟨A2, c2, rfl, ho2, hb2⟩
 have HL := h_ (show LinkAt w2 w.heap.size ⟨e, n, some ⟨b, o, none⟩, sc, s, qA, qc, q, h⟩ from (hb2.block _ (by simp)).trans ((q_ _ _ _ (by simp)).trans (heap_alloc_new _ _)))
 have HR := h_ (show PacketAt w2 (w.heap.size + 1) 0 0 false 0 0 0 0 none 0 0 ⟨#[]⟩ from (hb2.block _ (by simp)).trans (by have h1 := heap_alloc_new (w.alloc (.cells #[.int .i64 e, .int .i64 n, .slice (some ⟨b, o, none⟩) s.length sc, .slice qA q.length qc, .int .i64 h] 58)) (.cells #[.int .i64 0, .int .i64 0, .bool false, .int .i64 0, .int .i64 0, .int .i64 0, .int .i64 0, .slice none 0 0, .string ⟨#[]⟩] 48); simpa using h1))
 have hz2 := hb2.size
 simp at hz2
 obtain ⟨x0, x1, x2, x3, x4, _, _, _, _, _, hxz⟩ := i_ HL.out
 obtain ⟨y0, y1, y2, y3, y4, y5, y6, y7, y8, f0, f1, f2, f3, f4, f5, f6, f7, f8, hyz⟩ := hw_ HR.out
 have n1 : ¬ w.heap.size = w2.heap.size := by omega
 have n2 : ¬ w2.heap.size = w.heap.size := by omega
 have n3 : ¬ w.heap.size + 1 = w2.heap.size := by omega
 have n4 : ¬ w2.heap.size = w.heap.size + 1 := by omega
 go_wp2_with fail
 obtain ⟨W9, hW9⟩ : ∃ W9, W9 = (((((((((w2.setCell ⟨w.heap.size + 1, 0, none⟩ (.int .i64 e)).setCell ⟨w.heap.size + 1, 1, none⟩ (.int .i64 (n - s.length + k))).setCell ⟨w.heap.size + 1, 2, none⟩ (.bool false)).setCell ⟨w.heap.size + 1, 3, none⟩ (.int .i64 h)).setCell ⟨w.heap.size + 1, 4, none⟩ (.int .i64 fk)).setCell ⟨w.heap.size + 1, 5, none⟩ (.int .i64 fh)).setCell ⟨w.heap.size + 1, 6, none⟩ (.int .i64 fe)).setCell ⟨w.heap.size + 1, 7, none⟩ (.slice A2 fp.length c2)).setCell ⟨w.heap.size + 1, 8, none⟩ (.string fs)) := ⟨_, rfl⟩
 have hO : Only (w.heap.size + 1) w2 W9 := by rw [hW9]; exact ((((((((Only.set _ _ _).trans (Only.set _ _ _)).trans (Only.set _ _ _)).trans (Only.set _ _ _)).trans (Only.set _ _ _)).trans (Only.set _ _ _)).trans (Only.set _ _ _)).trans (Only.set _ _ _)).trans (Only.set _ _ _)
 have hP9 : PacketAt W9 (w.heap.size + 1) e (n - s.length + k) false h fk fh fe A2 fp.length c2 fs := by rw [hW9]; exact wg_ HR.out
 rw [← hW9]
 have hz9 := hO.size
 have hB9 : Below w.heap.size w W9 := (p_ (p_ hb2)).trans (hO.below (by omega) (by omega))
 refine n_ (fun G => PacketAt G (w.heap.size + 1) e (n - s.length + k) false h fk fh fe A2 fp.length c2 fs ∧ OpIn (fun b => w.heap.size ≤ b ∧ b < G.heap.size) G A2 fp ∧ Below w.heap.size w G) ⟨(q_ _ _ _ (by omega)).trans hP9, ho2.moved fun b hb => ⟨?_, ?_⟩, bAlloc hB9 _⟩ ?_
 · simp at hb ⊢
   omega
 · simp at hb
   exact (q_ _ _ _ (by omega)).trans (hO.block _ hb.2 (by omega))
 rintro G ⟨hR4, hO4, hF4⟩
 clear y0 y1 y2 y3 y4 y5 y6 y7 y8
 obtain ⟨y0, y1, y2, y3, y4, y5, y6, y7, y8, _, _, _, _, _, _, _, _, _, _⟩ := hw_ hR4
 refine bodyPost_ret (v := packetV e (n - s.length + k) false h fk fh fe A2 fp.length c2 fs) (by simp [results, Tryz.results134, go_sem, y0, y1, y2, y3, y4, y5, y6, y7, y8]) rfl ?_
 exact ⟨A2, c2, rfl, hO4, hF4⟩
structure LinkD where
 e : Int
 n : Int
 s : List FrameD
 q : List FrameD
 h : Int
abbrev LinkV.d (l : LinkV) : LinkD := ⟨l.e, l.n, l.s.map FrameV.d, l.q.map FrameV.d, l.h⟩
theorem d_at {L L' : List FrameV} (h : L'.map FrameV.d = L.map FrameV.d) {i : Nat} (hi : i < L.length) (hi' : i < L'.length) : L'[i].d = L[i].d := by
 have := congrArg (fun l => l[i]?) h
 simpa [hi, hi'] using this
theorem ln_ {L L' : List FrameV} (h : L'.map FrameV.d = L.map FrameV.d) (hk : framesOk L) : framesOk L' := by
 intro i hi
 have hl : L'.length = L.length := by rw [← List.length_map (f := FrameV.d), h, List.length_map]
 rw [d_at h (hl ▸ hi) hi]
 exact hk i (hl ▸ hi)
theorem hv_ {l l' : LinkV} (h : l'.d = l.d) (hk : linkMay l) : linkMay l' := by
 obtain ⟨e, n, sA, sc, s, qA, qc, q, hd⟩ := l
 obtain ⟨e', n', sA', sc', s', qA', qc', q', hd'⟩ := l'
 simp only [LinkV.d, LinkD.mk.injEq] at h
 obtain ⟨rfl, rfl, h1, h2, rfl⟩ := h
 have l1 : s'.length = s.length := by rw [← List.length_map (f := FrameV.d), h1, List.length_map]
 have l2 : q'.length = q.length := by rw [← List.length_map (f := FrameV.d), h2, List.length_map]
 obtain ⟨k1, k2, ⟨k3, k4⟩, k5⟩ := hk
 refine ⟨k1, ?_, ⟨ln_ h1 k3, ln_ h2 k4⟩, ?_⟩
 · unfold linkLens at k2 ⊢
   dsimp only at k2 ⊢
   rw [l1, l2]
   exact k2
 · unfold linkNone at k5 ⊢
   dsimp only at k5 ⊢
   rw [l1]
   exact k5
theorem em_ {L L' : List FrameV} (h : L'.map FrameV.d = L.map FrameV.d) (hk : ∀ f ∈ L, f.Small) : ∀ f ∈ L', f.Small := by
 intro f hf
 have : f.d ∈ L.map FrameV.d := by rw [← h]; exact List.mem_map.2 ⟨f, hf, rfl⟩
 obtain ⟨g, hg, e⟩ := List.mem_map.1 this
 obtain ⟨⟨o1, o2⟩, o3⟩ := hk g hg
 obtain ⟨fk, fh, fe, ⟨fA, fc, fp⟩, fs⟩ := f
 obtain ⟨gk, gh, ge, ⟨gA, gc, gp⟩, gs⟩ := g
 simp only [FrameV.d, FrameD.mk.injEq] at e
 obtain ⟨_, _, _, rfl, rfl⟩ := e
 exact ⟨⟨o1, o2⟩, o3⟩
theorem LinkV.Small.of_d {l l' : LinkV} (h : l'.d = l.d) (hk : l.Small) : l'.Small := by
 simp only [LinkV.d, LinkD.mk.injEq] at h
 obtain ⟨_, _, h1, h2, _⟩ := h
 exact ⟨by rw [← List.length_map (f := FrameV.d), h1, List.length_map]; exact hk.sl, by rw [← List.length_map (f := FrameV.d), h2, List.length_map]; exact hk.ql, em_ h1 hk.s, em_ h2 hk.q⟩
structure SideD where
 p : Int
 j : Bool
 s : Int
 h : Int
 L : List (List PartD)
 k : LinkD
abbrev SideV.d (x : SideV) : SideD := ⟨x.p, x.j, x.s, x.h, x.L.map OpV.ps, x.k.d⟩
structure NodeD where
 me : Int
 ep : Int
 up : Int
 rd : Bool
 t : ByteArray
 S : List SideD
 U : List (List PartD)
 M : List (Int × Int)
abbrev NodeV.d (n : NodeV) : NodeD := ⟨n.me, n.ep, n.up, n.rd, n.t, n.S.map SideV.d, n.U.map OpV.ps, n.M⟩
theorem sd_at {L L' : List SideV} (h : L'.map SideV.d = L.map SideV.d) {i : Nat} (hi : i < L.length) (hi' : i < L'.length) : L'[i].d = L[i].d := by
 have := congrArg (fun l => l[i]?) h
 simpa [hi, hi'] using this
structure SideV.Mid (x : SideV) : Prop where
 len : x.L.length ≤ 1048577
 ops : ∀ o ∈ x.L, o.ps.length ≤ 1048576
 link : x.k.s.length ≤ 1048577 ∧ x.k.q.length ≤ 1048577
 frames : (∀ f ∈ x.k.s, f.o.ps.length ≤ 1048576) ∧ ∀ f ∈ x.k.q, f.o.ps.length ≤ 1048576
structure NodeV.Mid (n : NodeV) : Prop where
 sl : n.S.length ≤ 1048577
 sides : ∀ x ∈ n.S, x.Mid
 ul : n.U.length ≤ 1048577
 undo : ∀ o ∈ n.U, o.ps.length ≤ 1048576
 ml : n.M.length ≤ 1048577
theorem SideV.Small.mid {x : SideV} (h : x.Small) : x.Mid := ⟨Nat.le_trans h.len (by decide), fun o ho => (h.ops o ho).len, ⟨Nat.le_trans h.link.sl (by decide), Nat.le_trans h.link.ql (by decide)⟩, ⟨fun f hf => (h.link.s f hf).op.len, fun f hf => (h.link.q f hf).op.len⟩⟩
theorem NodeV.Small.mid {n : NodeV} (h : n.Small) : n.Mid := ⟨Nat.le_trans h.sl (by decide), fun x hx => (h.sides x hx).mid, Nat.le_trans h.ul (by decide), fun o ho => (h.undo o ho).len, Nat.le_trans h.ml (by decide)⟩
structure SideV.InS (S : Nat → Prop) (w : World) (x : SideV) : Prop where
 ops : Sl S w 1 x.A x.L.length (x.L.map OpV.val)
 op : ∀ o ∈ x.L, OpIn S w o.A o.ps
 s : Sl S w 5 x.k.sA x.k.s.length (x.k.s.flatMap FrameV.cells)
 so : ∀ f ∈ x.k.s, OpIn S w f.o.A f.o.ps
 q : Sl S w 5 x.k.qA x.k.q.length (x.k.q.flatMap FrameV.cells)
 qo : ∀ f ∈ x.k.q, OpIn S w f.o.A f.o.ps
theorem SideV.InS.moved {S S' : Nat → Prop} {w w' : World} {x : SideV} (h : x.InS S w) (k : ∀ b, S b → S' b ∧ w'.heap[b]? = w.heap[b]?) : x.InS S' w' :=
 ⟨h.ops.moved k, fun o ho => (h.op o ho).moved k, h.s.moved k, fun f hf => (h.so f hf).moved k, h.q.moved k, fun f hf => (h.qo f hf).moved k⟩
theorem SideV.InS.in_ {S : Nat → Prop} {w : World} {x : SideV} (h : x.InS S w) (k : ∀ b, S b → b < w.heap.size) : x.In w := by
 have h' := h.moved (S' := (· < w.heap.size)) fun b hb => ⟨k b hb, rfl⟩
 exact ⟨⟨h'.ops, h'.op⟩, ⟨⟨h'.s, h'.so⟩, ⟨h'.q, h'.qo⟩⟩⟩
structure SidesOwn (w : World) (base : Nat) (A : Option Addr) (c : Nat) (L : List SideV) : Prop where
 row : w.ownsRow base 60 10 (.slice A L.length c) L.length (L.flatMap SideV.cells)
 each : ∀ x ∈ L, x.InS (fun b => (base ≤ b ∧ b < w.heap.size) ∧ (Value.slice A L.length c).ownBlock ≠ some b) w
theorem SidesOwn.kept {w w' : World} {base : Nat} {A : Option Addr} {c : Nat} {L : List SideV} (h : SidesOwn w base A c L) (hs : w.heap.size ≤ w'.heap.size) (hk : ∀ b, base ≤ b → b < w.heap.size → w'.heap[b]? = w.heap[b]?) : SidesOwn w' base A c L := by
 refine ⟨⟨h.row.1, ?_⟩, fun o ho => (h.each o ho).moved fun b hb => ⟨⟨⟨hb.1.1, Nat.lt_of_lt_of_le hb.1.2 hs⟩, hb.2⟩, hk b hb.1.1 hb.1.2⟩⟩
 rcases h.row.2 with hn | ⟨g, cap, cur, e, hb, hg, rest⟩
 · exact .inl hn
 · exact .inr ⟨g, cap, cur, e, hb, (hk g hb (Array.getElem?_eq_some_iff.1 hg).1).trans hg, rest⟩
theorem SidesOwn.nil (w : World) (base : Nat) : SidesOwn w base none 0 [] := ⟨World.ownsRow_nil _ _ _ _, by simp⟩
theorem SidesOwn.in_ {w : World} {base : Nat} {A : Option Addr} {c : Nat} {L : List SideV} (h : SidesOwn w base A c L) : SidesIn w A L :=
 ⟨(Sl.of_own _ h.row).moved fun _ hx => ⟨hx.2, rfl⟩, fun o ho => (h.each o ho).in_ fun _ hx => hx.1.2⟩
theorem SidesOwn.push {wr W2 w3 : World} {base : Nat} {Ao A' : Option Addr} {co c' : Nat} {L : List SideV} {x : SideV} {o : Obj} (hO : SidesOwn wr base Ao co L) (hbs : base ≤ wr.heap.size) (hW : ∀ b, base ≤ b → b < wr.heap.size → W2.heap[b]? = wr.heap[b]?) (hz : wr.heap.size ≤ W2.heap.size)
 (hx : x.InS (fun b => wr.heap.size ≤ b ∧ b < W2.heap.size) W2) (hg : (W2.alloc o).grownBy w3 (Value.slice Ao L.length co).ownBlock)
 (hown : w3.ownsRow base 60 10 (.slice A' (L.length + 1) c') (L.length + 1) (L.flatMap SideV.cells ++ x.cells))
 (hat : (Value.slice A' (L.length + 1) c').ownBlock = (Value.slice Ao L.length co).ownBlock ∨ (Value.slice A' (L.length + 1) c').ownBlock = some (W2.alloc o).heap.size) : SidesOwn w3 base A' c' (L ++ [x]) := by
 have hs3 := hg.size
 simp at hs3
 have hlen : (L ++ [x]).length = L.length + 1 := by simp
 have hold : ∀ b, b < W2.heap.size → (Value.slice Ao L.length co).ownBlock ≠ some b → w3.heap[b]? = W2.heap[b]? := fun b hb hne =>
  (hg.block b (by simp; omega) (fun e => hne e.symm)).trans (q_ _ _ b hb)
 have hnew : ∀ b, b < W2.heap.size → (Value.slice Ao L.length co).ownBlock ≠ some b → (Value.slice A' (L.length + 1) c').ownBlock ≠ some b := fun b hb hne e => by
  rcases hat with h | h
  · exact hne (h.symm.trans e)
  · rw [h] at e
    simp at e
    omega
 refine ⟨by rw [hlen, List.flatMap_append]; simpa using hown, fun p hp => ?_⟩
 rw [hlen]
 rcases List.mem_append.1 hp with hp | hp
 · refine (hO.each p hp).moved fun b hb => ⟨⟨⟨hb.1.1, by omega⟩, hnew b (by omega) hb.2⟩, (hold b (by omega) hb.2).trans (hW b hb.1.1 hb.1.2)⟩
 · obtain rfl : p = x := by simpa using hp
   refine hx.moved fun b hb => ?_
   have hne : (Value.slice Ao L.length co).ownBlock ≠ some b := fun e => by have := (hO.row.lt b e).2; omega
   exact ⟨⟨⟨by omega, by omega⟩, hnew b (by omega) hne⟩, hold b hb.2 hne⟩
theorem hx_ (w : World) (A : Option Addr) (c : Nat) (L : List FrameV) (hs : FramesIn w A L) (hl : L.length ≤ 1048576) (hm : ∀ f ∈ L, f.o.ps.length ≤ 1048576) :
 Calls Tryz.prog 91 #[.slice A L.length c] w (RetFrames w (L.map FrameV.d)) := by
 obtain ⟨i0, hi, hz0, hz1, hz2⟩ := info_parts infoFrame
 have HS := h_ hs
 have HM := h_ hm
 clear hs hm
 go_enter Tryz.func91, Tryz.ntmps91
 go_wp2_with fail
 go_loopw [3, 8] (fun out i wr => ∃ (k : Nat) (L' : List FrameV) (Ao : Option Addr) (co : Nat), k ≤ L.length ∧ i = .int .i64 k ∧ Hid (L'.length = k) ∧ out = .slice Ao L'.length co ∧ Hid (L'.map FrameV.d = (L.take k).map FrameV.d) ∧ Hid (FramesOwn wr w.heap.size Ao co L') ∧ Hid (Below w.heap.size w wr)) (fun _ i _ => L.length - (intOf i).toNat)
 case atStart => exact ⟨0, [], none, 0, Nat.zero_le _, rfl, rfl, rfl, rfl, RowOwn.nil _ _, Below.refl _ _⟩
 case round =>
  obtain ⟨k, L', Ao, co, hk, rfl, hL', rfl, hps, HO, HB⟩ := hrel
  by_cases hlt : k < L.length
  · obtain ⟨b, o, rfl, hbs, g0, g1, g2, g3, g4, hop⟩ := (FramesIn.later HS.out HB.out).at_ hlt
    have hsm := HM.out _ (List.getElem_mem hlt)
    have HT := h_ (show (L.take (k + 1)).map FrameV.d = (L.take k).map FrameV.d ++ [L[k].d] by rw [List.take_succ_eq_append_getElem hlt, List.map_append]; rfl)
    have hki : (k : Int) < (L.length : Int) := by omega
    generalize L[k] = q at *
    obtain ⟨fk, fh, fe, ⟨fA, fc, fp⟩, fs⟩ := q
    dsimp only at g0 g1 g2 g3 g4 hop hsm HT
    have HC := h_ (fun W hs => cr_ W fA fc fp hs hsm)
    have HOP := h_ hop
    have hsz := HB.out.size
    clear hop hsm
    obtain ⟨WX, hWX⟩ : ∃ WX, WX = wr.alloc (.cells #[.int .i64 fk, .int .i64 fh, .int .i64 fe, .slice fA fp.length fc, .string fs] 46) := ⟨_, rfl⟩
    have HF0 := h_ (show FrameAt WX wr.heap.size fk fh fe fA fp.length fc fs by rw [hWX]; show (wr.heap.push _)[wr.heap.size]? = _; simp)
    have HBX := h_ (show Below wr.heap.size wr WX by rw [hWX]; exact bA_)
    have hzX : WX.heap.size = wr.heap.size + 1 := by rw [hWX]; simp
    have HW := h_ hWX.symm
    clear hWX
    go_wp2_with fail
    rw [HW.out]
    refine (HC.out _ (Sl.later HOP.out HBX.out)).mono ?_
    rintro e w2 ⟨A2, c2, rfl, ho2, hb2⟩
    obtain ⟨x0, x1, x2, x3, x4, f0, f1, f2, f3, f4, xz⟩ := i_ ((hb2.block _ (by omega)).trans HF0.out)
    obtain ⟨X, hX⟩ : ∃ X, X = wr.heap.size := ⟨_, rfl⟩
    rw [← hX] at x0 x1 x2 x3 x4 f0 f1 f2 f3 f4 xz
    have hF2w : FrameAt w2 X fk fh fe fA fp.length fc fs := by rw [hX]; exact (hb2.block _ (by omega)).trans HF0.out
    have HF2 := h_ (show FrameAt (w2.setCell ⟨X, 3, none⟩ (.slice A2 fp.length c2)) X fk fh fe A2 fp.length c2 fs from e_ 3 _ hF2w)
    have HB2 := h_ (show Below wr.heap.size wr (w2.setCell ⟨X, 3, none⟩ (.slice A2 fp.length c2)) from bSet (HBX.out.trans (hb2.mono HBX.out.size)) (p := ⟨X, 3, none⟩) (by show wr.heap.size ≤ X; omega) _)
    have hzw2 := hb2.size
    have HO2 := h_ (show OpIn (fun b => wr.heap.size ≤ b ∧ b < (w2.setCell ⟨X, 3, none⟩ (.slice A2 fp.length c2)).heap.size) (w2.setCell ⟨X, 3, none⟩ (.slice A2 fp.length c2)) A2 fp from (Sl.of_own _ ho2).moved fun b hb => ⟨⟨by omega, by simp [World.setCell]; exact hb.2⟩, bH_ (by show b ≠ X; omega)⟩)
    rw [← hX]
    have hwX : w.heap.size ≤ X := by omega
    clear ho2 hb2 hX hF2w
    go_wp2_with (refine bg_ rfl ?_)
    refine ⟨?_⟩
    have HX := h_ ((RowOwn.later HO.out HB2.out).row.alloc (.cells #[.int .i64 fk, .int .i64 fh, .int .i64 fe, .slice A2 fp.length c2, .string fs] 46))
    refine j_ _ rfl _ _ 56 rfl w.heap.size 46 i0 (.agg #[.int .i64 0, .int .i64 0, .int .i64 0, .slice none 0 0, .string ⟨#[]⟩]) 5 64 Tryz.underlying56 hi hz0 hz1 hz2 rfl (by decide) _ _ _ rfl HX.out (fun _ => True) _ _ _ _ rfl (bl_ (by rfl) (by simp)) ?c1 ?c2 ?c3 ?c4 ?_
    case c1 => intro u hu; simp at hu; rcases hu with rfl | rfl | rfl | rfl | rfl <;> rfl
    case c2 => have := hL'.out; unfold maxLen; omega
    case c3 => have := hL'.out; omega
    case c4 => have := HB2.out.size; simp at this ⊢; omega
    intro A' c' w3 hown' hgrow hat
    have HP := h_ (RowOwn.push (f := FrameV.cells) (op := FrameV.o) (x := ⟨fk, fh, fe, ⟨A2, c2, fp⟩, fs⟩) HO.out hsz HB2.out HO2.out hgrow hown' hat)
    have HF := h_ (bs_ HB.out HB2.out hgrow (fun g hg => (HO.out.row.lt g hg).1))
    have HLN := h_ (show (L' ++ [(⟨fk, fh, fe, ⟨A2, c2, fp⟩, fs⟩ : FrameV)]).length = L'.length + 1 by simp)
    clear hown' hgrow hat x0 x1 x2 x3 x4 f0 f1 f2 f3 f4 xz
    go_wp2_with fail
    go_roundw
    case rel => exact ⟨k + 1, L' ++ [⟨fk, fh, fe, ⟨A2, c2, fp⟩, fs⟩], A', c', by omega, by go_num, h_ (by rw [HLN.out, hL'.out]), by rw [HLN.out], h_ (by rw [List.map_append, hps.out, HT.out]; rfl), HP, HF⟩
    case measure => simp [intOf]; omega
  · obtain rfl : k = L.length := by omega
    have HPP := h_ (show L'.map FrameV.d = L.map FrameV.d by rw [hps.out, List.take_length])
    go_wp2_with fail
    go_ret
    exact ⟨Ao, co, L', rfl, HPP.out, HO.out, HB.out⟩
def RetOps (w : World) (D : List (List PartD)) (e : Ending) (w' : World) : Prop :=
 ∃ A c L, e = .returned (.slice A L.length c) ∧ L.map OpV.ps = D ∧ OpsOwn w' w.heap.size A c L ∧ Below w.heap.size w w'
theorem nn_ (w : World) (A : Option Addr) (c : Nat) (L : List OpV) (hs : OpsIn w A L) (hl : L.length ≤ 1048576) (hm : ∀ o ∈ L, o.ps.length ≤ 1048576) :
 Calls Tryz.prog 90 #[.slice A L.length c] w (RetOps w (L.map OpV.ps)) := by
 obtain ⟨i0, hi, hz0, hz1, hz2⟩ := info_parts infoOp
 have HS := h_ hs
 have HM := h_ hm
 clear hs hm
 go_enter Tryz.func90, Tryz.ntmps90
 go_wp2_with fail
 skip
 go_loopw [3, 8] (fun out i wr => ∃ (k : Nat) (L' : List OpV) (Ao : Option Addr) (co : Nat), k ≤ L.length ∧ i = .int .i64 k ∧ Hid (L'.length = k) ∧ out = .slice Ao L'.length co ∧ Hid (L'.map OpV.ps = (L.take k).map OpV.ps) ∧ Hid (OpsOwn wr w.heap.size Ao co L') ∧ Hid (Below w.heap.size w wr)) (fun _ i _ => L.length - (intOf i).toNat)
 case atStart => exact ⟨0, [], none, 0, Nat.zero_le _, rfl, rfl, rfl, rfl, OpsOwn.nil _ _, Below.refl _ _⟩
 case round =>
  obtain ⟨k, L', Ao, co, hk, rfl, hL', rfl, hps, HO, HB⟩ := hrel
  by_cases hlt : k < L.length
  · obtain ⟨b, o, rfl, hbs, c0, hop⟩ := (OpsIn.later HS.out HB.out).at_ hlt
    have hsm := HM.out _ (List.getElem_mem hlt)
    have HT := h_ (show (L.take (k + 1)).map OpV.ps = (L.take k).map OpV.ps ++ [L[k].ps] by rw [List.take_succ_eq_append_getElem hlt, List.map_append]; rfl)
    have hki : (k : Int) < (L.length : Int) := by omega
    generalize L[k] = q at *
    obtain ⟨qA, qc, qp⟩ := q
    dsimp only at c0 hop hsm HT
    have HC := h_ (fun W hs => cr_ W qA qc qp hs hsm)
    have HOP := h_ hop
    have hsz := HB.out.size
    clear hop hsm
    go_wp2_with fail
    refine (HC.out _ HOP.out).mono ?_
    rintro e w2 ⟨A2, c2, rfl, ho2, hb2⟩
    have HX := h_ ((HO.out.kept hb2.size (fun b _ hl => hb2.block b hl)).row.alloc (.cells #[.slice A2 qp.length c2] 30))
    have HO2 := h_ ho2
    have HB2 := h_ hb2
    have hzw := hb2.size
    clear ho2 hb2
    go_wp2_with (refine bg_ rfl ?_)
    refine ⟨?_⟩
    refine j_ _ rfl _ _ 25 rfl w.heap.size 30 i0 (.slice none 0 0) 1 24 Tryz.underlying25 hi hz0 hz1 hz2 rfl (by decide) _ _ _ rfl HX.out (fun _ => True) _ _ _ _ rfl (et_ rfl (by simp)) ?c1 ?c2 ?c3 ?c4 ?_
    case c1 => intro u hu; simp at hu; subst hu; rfl
    case c2 => have := hL'.out; unfold maxLen; omega
    case c3 => have := hL'.out; omega
    case c4 => simp; omega
    intro A' c' w3 hown' hgrow hat
    have HP := h_ (HO.out.push hsz HB2.out HO2.out hgrow hown' hat)
    have HF := h_ (bs_ HB.out HB2.out hgrow (fun g hg => (HO.out.row.lt g hg).1))
    have HLN := h_ (show (L' ++ [(⟨A2, c2, qp⟩ : OpV)]).length = L'.length + 1 by simp)
    clear hown' hgrow hat
    go_wp2_with fail
    go_roundw
    case rel => exact ⟨k + 1, L' ++ [⟨A2, c2, qp⟩], A', c', by omega, by go_num, h_ (by rw [HLN.out, hL'.out]), by rw [HLN.out], h_ (by rw [List.map_append, hps.out, HT.out]; rfl), HP, HF⟩
    case measure => simp [intOf]; omega
  · obtain rfl : k = L.length := by omega
    have HPP := h_ (show L'.map OpV.ps = L.map OpV.ps by rw [hps.out, List.take_length])
    go_wp2_with fail
    go_ret
    exact ⟨Ao, co, L', rfl, HPP.out, HO.out, HB.out⟩
theorem ia_ (w : World) (A : Option Addr) (c : Nat) (L : List OpV) (hs : OpsIn w A L) (hl : L.length ≤ 1048576) (hm : ∀ o ∈ L, o.ps.length ≤ 1048576) :
 Calls Tryz.prog 16 #[.slice A L.length c] w (RetOps w (L.map OpV.ps)) := by
 obtain ⟨i0, hi, hz0, hz1, hz2⟩ := info_parts infoOp
 have HS := h_ hs
 have HM := h_ hm
 clear hs hm
 go_enter Tryz.func16, Tryz.ntmps16
 go_wp2_with fail
 skip
 go_loopw [3, 4] (fun out i wr => ∃ (k : Nat) (L' : List OpV) (Ao : Option Addr) (co : Nat), k ≤ L.length ∧ i = .int .i64 k ∧ Hid (L'.length = k) ∧ out = .slice Ao L'.length co ∧ Hid (L'.map OpV.ps = (L.take k).map OpV.ps) ∧ Hid (OpsOwn wr w.heap.size Ao co L') ∧ Hid (Below w.heap.size w wr)) (fun _ i _ => L.length - (intOf i).toNat)
 case atStart => exact ⟨0, [], none, 0, Nat.zero_le _, rfl, rfl, rfl, rfl, OpsOwn.nil _ _, Below.refl _ _⟩
 case round =>
  obtain ⟨k, L', Ao, co, hk, rfl, hL', rfl, hps, HO, HB⟩ := hrel
  by_cases hlt : k < L.length
  · obtain ⟨b, o, rfl, hbs, c0, hop⟩ := (OpsIn.later HS.out HB.out).at_ hlt
    have hsm := HM.out _ (List.getElem_mem hlt)
    have HT := h_ (show (L.take (k + 1)).map OpV.ps = (L.take k).map OpV.ps ++ [L[k].ps] by rw [List.take_succ_eq_append_getElem hlt, List.map_append]; rfl)
    have hki : (k : Int) < (L.length : Int) := by omega
    generalize L[k] = q at *
    obtain ⟨qA, qc, qp⟩ := q
    dsimp only at c0 hop hsm HT
    have HC := h_ (fun W hs => ds_ W qA qc qp hs hsm)
    have HOP := h_ hop
    have hsz := HB.out.size
    clear hop hsm
    go_wp2_with fail
    refine (HC.out _ HOP.out).mono ?_
    rintro e w2 ⟨A2, c2, rfl, ho2, hb2⟩
    have HX := h_ ((HO.out.kept hb2.size (fun b _ hl => hb2.block b hl)).row.alloc (.cells #[.slice A2 qp.length c2] 30))
    have HO2 := h_ ho2
    have HB2 := h_ hb2
    have hzw := hb2.size
    clear ho2 hb2
    go_wp2_with (refine bg_ rfl ?_)
    refine ⟨?_⟩
    refine j_ _ rfl _ _ 25 rfl w.heap.size 30 i0 (.slice none 0 0) 1 24 Tryz.underlying25 hi hz0 hz1 hz2 rfl (by decide) _ _ _ rfl HX.out (fun _ => True) _ _ _ _ rfl (et_ rfl (by simp)) ?c1 ?c2 ?c3 ?c4 ?_
    case c1 => intro u hu; simp at hu; subst hu; rfl
    case c2 => have := hL'.out; unfold maxLen; omega
    case c3 => have := hL'.out; omega
    case c4 => simp; omega
    intro A' c' w3 hown' hgrow hat
    have HP := h_ (HO.out.push hsz HB2.out HO2.out hgrow hown' hat)
    have HF := h_ (bs_ HB.out HB2.out hgrow (fun g hg => (HO.out.row.lt g hg).1))
    have HLN := h_ (show (L' ++ [(⟨A2, c2, qp⟩ : OpV)]).length = L'.length + 1 by simp)
    clear hown' hgrow hat
    go_wp2_with fail
    go_roundw
    case rel => exact ⟨k + 1, L' ++ [⟨A2, c2, qp⟩], A', c', by omega, by go_num, h_ (by rw [HLN.out, hL'.out]), by rw [HLN.out], h_ (by rw [List.map_append, hps.out, HT.out]; rfl), HP, HF⟩
    case measure => simp [intOf]; omega
  · obtain rfl : k = L.length := by omega
    have HPP := h_ (show L'.map OpV.ps = L.map OpV.ps by rw [hps.out, List.take_length])
    go_wp2_with fail
    go_ret
    exact ⟨Ao, co, L', rfl, HPP.out, HO.out, HB.out⟩
theorem infoMark : (Tryz.prog.info? 53).map (fun i => (i.zero, i.size, i.bytes)) = some (some (.agg #[.int .i64 0, .int .i64 0]), 2, 16) := by kernel_rfl
theorem yd_ (M : List (Int × Int)) : ∀ u ∈ M.flatMap markCells, u.oneCell' = true := by
 intro u hu
 obtain ⟨m, _, hm⟩ := List.mem_flatMap.1 hu
 simp only [markCells, List.mem_cons, List.not_mem_nil, or_false] at hm
 rcases hm with rfl | rfl <;> rfl
def RetMarks (w : World) (M : List (Int × Int)) (e : Ending) (w' : World) : Prop :=
 ∃ A c, e = .returned (.slice A M.length c) ∧ w'.ownsRow w.heap.size 53 2 (.slice A M.length c) M.length (M.flatMap markCells) ∧ Below w.heap.size w w'
theorem or_ (w : World) (A : Option Addr) (c : Nat) (M : List (Int × Int)) (hs : MarksIn w A M) (hm : M.length ≤ 1048576) :
 Calls Tryz.prog 89 #[.slice A M.length c] w (RetMarks w M) := by
 obtain ⟨i0, hi, hz0, hz1, hz2⟩ := info_parts infoMark
 rcases A with _ | ad
 · have hb : M = [] := by
    rcases Nat.eq_zero_or_pos M.length with h | h
    · exact List.eq_nil_of_length_eq_zero h
    · obtain ⟨_, _, h, _⟩ := hs.2 h
      cases h
   subst hb
   have hnil := fun wx => Lib.run_eql_slice_nil (P := Tryz.prog) wx 26 53 none 0 c 0 0 Tryz.underlying26
   go_enter Tryz.func89, Tryz.ntmps89
   go_wp2
   go_ret
   exact ⟨none, 0, by simp, World.ownsRow_nil _ _ _ _, Below.refl _ _⟩
 · have hnil := fun wx => Lib.run_eql_slice_nil (P := Tryz.prog) wx 26 53 (some ad) M.length c 0 0 Tryz.underlying26
   go_enter Tryz.func89, Tryz.ntmps89
   go_wp2_with (at_builtin; refine j_ _ rfl _ _ 26 rfl w.heap.size 53 i0 (.agg #[.int .i64 0, .int .i64 0]) 2 16 Tryz.underlying26 hi hz0 hz1 hz2 rfl (by decide) _ _ _ rfl (World.ownsRow_lit w #[] 0 (Nat.le_refl _) (by unfold maxLen; omega) rfl) _ _ _ _ _ rfl (hs.later bA_) (yd_ M) ?c1 ?c2 ?c3 ?_)
   case c1 => unfold maxLen; omega
   case c2 => omega
   case c3 => simp
   intro A' c' w1 hown hgrow hat
   go_wp2
   go_ret
   exact ⟨A', c', by simp, hown, bA_.grown hgrow (by simp) (fun k hk => by simp [Value.ownBlock] at hk; omega)⟩
structure LinkInS (S : Nat → Prop) (w : World) (l : LinkV) : Prop where
 s : Sl S w 5 l.sA l.s.length (l.s.flatMap FrameV.cells)
 so : ∀ f ∈ l.s, OpIn S w f.o.A f.o.ps
 q : Sl S w 5 l.qA l.q.length (l.q.flatMap FrameV.cells)
 qo : ∀ f ∈ l.q, OpIn S w f.o.A f.o.ps
theorem LinkInS.moved {S S' : Nat → Prop} {w w' : World} {l : LinkV} (h : LinkInS S w l) (k : ∀ b, S b → S' b ∧ w'.heap[b]? = w.heap[b]?) : LinkInS S' w' l :=
 ⟨h.s.moved k, fun f hf => (h.so f hf).moved k, h.q.moved k, fun f hf => (h.qo f hf).moved k⟩
theorem LinkInS.of {w : World} {B b1 b2 : Nat} {e n h : Int} {sA qA : Option Addr} {sc qc : Nat} {s q : List FrameV} (h1 : FramesOwn w b1 sA sc s) (k1 : B ≤ b1) (h2 : FramesOwn w b2 qA qc q) (k2 : B ≤ b2) : LinkInS (fun b => B ≤ b ∧ b < w.heap.size) w ⟨e, n, sA, sc, s, qA, qc, q, h⟩ :=
 ⟨(Sl.of_own _ h1.row).moved fun b hb => ⟨⟨by omega, hb.2⟩, rfl⟩, fun f hf => (h1.each f hf).moved fun b hb => ⟨⟨by omega, hb.1.2⟩, rfl⟩,
   (Sl.of_own _ h2.row).moved fun b hb => ⟨⟨by omega, hb.2⟩, rfl⟩, fun f hf => (h2.each f hf).moved fun b hb => ⟨⟨by omega, hb.1.2⟩, rfl⟩⟩
def RetLinkS (w : World) (d : LinkD) (e : Ending) (w' : World) : Prop :=
 ∃ l : LinkV, e = .returned l.val ∧ l.d = d ∧ LinkInS (fun b => w.heap.size ≤ b ∧ b < w'.heap.size) w' l ∧ Below w.heap.size w w'
theorem sw_ (w : World) (l : LinkV) (hi : l.In w) (hm : l.Small) : Calls Tryz.prog 18 #[l.val] w (RetLinkS w l.d) := by
 obtain ⟨e, n, sA, sc, s, qA, qc, q, h⟩ := l
 have H1 := h_ (fun W hs => co_ W sA sc s hs hm.sl (fun f hf => (hm.s f hf).op.len))
 have H2 := h_ (fun W hs => co_ W qA qc q hs hm.ql (fun f hf => (hm.q f hf).op.len))
 have HI := h_ hi
 (try dsimp only at *)
 clear hi hm
 go_enter Tryz.func18, Tryz.ntmps18
 go_wp2_with (refine r_ ?_)
 refine ⟨?_⟩
 go_region_held3 (fun w' => w'.cell? ⟨w.heap.size, 0, none⟩ = some (.int .i64 e) ∧ w'.cell? ⟨w.heap.size, 1, none⟩ = some (.int .i64 n) ∧ w'.cell? ⟨w.heap.size, 2, none⟩ = some (.slice sA s.length sc) ∧ w'.cell? ⟨w.heap.size, 3, none⟩ = some (.slice qA q.length qc) ∧ w'.cell? ⟨w.heap.size, 4, none⟩ = some (.int .i64 h))
  (go_keep)
  ((first
    | (go_at_call 42; (with_reducible refine (H1.out _ ?_).mono ?_); exact HI.out.s.later bz_; rintro r w2 ⟨A2, c2, L2, rfl, hd2, ho2, hb2⟩; obtain ⟨⟨d2, os2⟩, rfl⟩ := a_ hb2)
    | (go_at_call 42; (with_reducible refine (H2.out _ ?_).mono ?_); exact HI.out.q.later bz_; rintro r w3 ⟨A3, c3, L3, rfl, hd3, ho3, hb3⟩; obtain ⟨⟨d3, os3⟩, rfl⟩ := a_ hb3)))
 all_goals (
  go_wp2_with fail
  refine bodyPost_ret (v := (⟨e, n, A2, c2, L2, A3, c3, L3, h⟩ : LinkV).val) (by simp [results, Tryz.results18, go_sem]) rfl ?_
  refine ⟨⟨e, n, A2, c2, L2, A3, c3, L3, h⟩, rfl, by simp only [LinkV.d, hd2, hd3], LinkInS.of (RowOwn.kept ho2 ?_ fun b hb hl => ?_) ?_ (RowOwn.kept ho3 ?_ fun b hb hl => ?_) ?_, bz_⟩
  · simp [Go.Sort.grow]
  · exact ((below_regrown _ d3 os3).block b (by simpa [Go.Sort.grow] using hl)).trans (de_ _ _ d2 os2 (by simp) (by simpa using hb))
  · simp
  · simp [Go.Sort.grow]
  · exact de_ _ _ d3 os3 (by simp [Go.Sort.grow]) hb
  · (simp [Go.Sort.grow] <;> omega))
end Go.Proofs.YtacacoklddogmaaGreatDoor
