/-
  Frames and links that came in, opened.
-/
import Derived.Test.YtbmdepbmejnlkaaDoorRows
import Derived.Test.YtbmdepbmejnlkaaDoorLinkC
import Derived.Test.YtbmdepbmejnlkaaDoorOpenB
namespace Go.Proofs.YtbmdepbmejnlkaaDoor
open Go.ChangeShapes Go.WideShapes Go.ChangeAt Go.RowKit Go.Joins Go.Deep
set_option maxRecDepth 100000
section
variable {H : Type} {enc : TypeId × Value → H} {w : World} {m : Nat}
structure FrameV.Fit (f : FrameV) : Prop where
  op : f.o.Fit
  text : f.s.size ≤ 1048576
theorem FrameV.Fit.small {f : FrameV} (h : f.Fit) : f.Small := ⟨h.op.small, h.text⟩
theorem open_frames {v : Value} {y : DataW H × List MemPlace} (h : DataW.trod enc Tryd.prog w 0 (fun _ => true) true m 61 [v] = some y) (hb : Rows.uptoBulk y.1 ≤ 1048576) :
    ∃ (A : Option Addr) (c : Nat) (L : List FrameV), v = .slice A L.length c ∧ L.length ≤ c ∧ c ≤ 9223372036854775807 ∧ FramesIn w A L ∧ L.length ≤ 1048576 ∧ ∀ f ∈ L, f.Fit := by
  obtain ⟨A, c, L, hv, h1, h2, hrow, hl, hq⟩ := open_rows FrameV.cells 5 FrameV.cells_len (by decide) (fun f => OpIn (· < w.heap.size) w f.o.A f.o.ps ∧ f.Fit) Tryd.underlying61 (by kernel_rfl) (fun m cs y h hb => by
    obtain ⟨k, hd, ep, A, c, ps, s, rfl, _, _, _, ⟨g1, g2, g3, g4, g5⟩, g6⟩ := open_frame h hb
    exact ⟨⟨k, hd, ep, ⟨A, c, ps⟩, s⟩, rfl, g3, ⟨⟨g4, g5, g1, g2⟩, g6⟩⟩) h hb
  exact ⟨A, c, L, hv, h1, h2, ⟨hrow, fun f hf => (hq f hf).1⟩, Nat.le_trans hl hb, fun f hf => (hq f hf).2⟩
structure LinkV.Fit (l : LinkV) : Prop where
  sl : l.s.length ≤ 1048576
  ql : l.q.length ≤ 1048576
  s : ∀ f ∈ l.s, f.Fit
  q : ∀ f ∈ l.q, f.Fit
  sc : l.s.length ≤ l.sc ∧ l.sc ≤ 9223372036854775807
  qc : l.q.length ≤ l.qc ∧ l.qc ≤ 9223372036854775807
theorem LinkV.Fit.small {l : LinkV} (h : l.Fit) : l.Small := ⟨h.sl, h.ql, fun f hf => (h.s f hf).small, fun f hf => (h.q f hf).small⟩
theorem open_link {cs : List Value} {y : DataW H × List MemPlace} (h : DataW.trod enc Tryd.prog w 0 (fun _ => true) true m 63 cs = some y) (hb : Rows.uptoBulk y.1 ≤ 1048576) :
    ∃ l : LinkV, cs = [.int .i64 l.e, .int .i64 l.n, .slice l.sA l.s.length l.sc, .slice l.qA l.q.length l.qc, .int .i64 l.h] ∧ l.In w ∧ l.Fit := by
  obtain ⟨ys, n, hx, _, hl, hf⟩ := open_struct Tryd.underlying63 (by kernel_rfl) (by kernel_rfl) h
  obtain ⟨v0, v1, v2, v3, v4, rfl⟩ := list5 hl
  obtain ⟨_, y0, hc0, hy0, ht0⟩ := hf 0 _ rfl
  obtain ⟨_, y1, hc1, hy1, ht1⟩ := hf 1 _ rfl
  obtain ⟨_, y2, hc2, hy2, ht2⟩ := hf 2 _ rfl
  obtain ⟨_, y3, hc3, hy3, ht3⟩ := hf 3 _ rfl
  obtain ⟨_, y4, hc4, hy4, ht4⟩ := hf 4 _ rfl
  obtain rfl := Option.some.inj hc0
  obtain rfl := Option.some.inj hc1
  obtain rfl := Option.some.inj hc2
  obtain rfl := Option.some.inj hc3
  obtain rfl := Option.some.inj hc4
  obtain ⟨e, rfl, _⟩ := open_num Tryd.underlying3 ht0
  obtain ⟨n, rfl, _⟩ := open_num Tryd.underlying3 ht1
  obtain ⟨sA, sc, s, rfl, s1, s2, s3, s4, s5⟩ := open_frames ht2 (bulk_field hx hb hy2)
  obtain ⟨qA, qc, q, rfl, q1, q2, q3, q4, q5⟩ := open_frames ht3 (bulk_field hx hb hy3)
  obtain ⟨hd, rfl, _⟩ := open_num Tryd.underlying3 ht4
  exact ⟨⟨e, n, sA, sc, s, qA, qc, q, hd⟩, rfl, ⟨s3, q3⟩, ⟨s4, q4, s5, q5, ⟨s1, s2⟩, ⟨q1, q2⟩⟩⟩
end
end Go.Proofs.YtbmdepbmejnlkaaDoor
