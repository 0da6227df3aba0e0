/-
  A link's rows stand apart from a block that holds the frame of nothing (no walk).
-/
import Derived.Test.YtgcapkkgminidaaDoorRows
import Derived.Test.YtgcapkkgminidaaDoorMHearP
import Derived.Test.YtgcapkkgminidaaDoorMSent
namespace Go.Proofs.YtgcapkkgminidaaDoor
open Go.ChangeShapes Go.WideShapes Go.ChangeAt Go.RowKit
set_option maxRecDepth 100000
theorem op_zeroF {w w' : World} {F : Nat} {A : Option Addr} {ps : List PartD} (hF : FrameAt w F 0 0 0 none 0 0 ⟨#[]⟩) (h : OpIn (· < w.heap.size) w A ps) (ho : Only F w w') : OpIn (· < w'.heap.size) w' A ps := by
  refine ⟨h.1, fun hn => ?_⟩
  obtain ⟨b, o, e, hb, hc⟩ := h.2 hn
  have hbF : b ≠ F := fun e1 => by
    subst e1
    have c1 := hc 1 _ (by rw [show 1 = 0 * 3 + 1 from rfl, opCells_get ps 0 1 hn (by omega)]; rfl)
    have c2 := hc 2 _ (by rw [show 2 = 0 * 3 + 2 from rfl, opCells_get ps 0 2 hn (by omega)]; rfl)
    simp only [World.cell?, hF] at c1 c2
    match o, c1, c2 with
    | 0, _, c2 => cases c2
    | 1, _, c2 => cases c2
    | 2, c1, _ => cases c1
    | 3, c1, _ => cases c1
    | o + 4, c1, _ => simp at c1
  exact ⟨b, o, e, Nat.lt_of_lt_of_le hb ho.size, fun j u hu => (ho.cell hb hbF).trans (hc j u hu)⟩
theorem frames_zeroF {w w' : World} {F : Nat} {A : Option Addr} {L : List FrameV} (hF : FrameAt w F 0 0 0 none 0 0 ⟨#[]⟩) (h : FramesIn w A L) (hk : ∀ f ∈ L, f.k ≠ 0) (ho : Only F w w') : FramesIn w' A L := by
  refine ⟨⟨h.row.1, fun hn => ?_⟩, fun f hf => op_zeroF hF (h.each f hf) ho⟩
  obtain ⟨b, o, e, hb, hc⟩ := h.row.2 hn
  have hbF : b ≠ F := fun e1 => by
    subst e1
    cases L with
    | nil => simp at hn
    | cons f L =>
      have c0 := hc 0 _ rfl
      have c4 := hc 4 _ rfl
      simp only [World.cell?, hF] at c0 c4
      match o, c0, c4 with
      | 0, c0, _ =>
        injection c0 with c0
        injection c0 with _ c0
        exact hk f (List.mem_cons.2 (.inl rfl)) c0.symm
      | o + 1, _, c4 => simp at c4
  exact ⟨b, o, e, Nat.lt_of_lt_of_le hb ho.size, fun j u hu => (ho.cell hb hbF).trans (hc j u hu)⟩
theorem frameFault_kind {f : FrameD} (h : frameFault f = 0) : f.kind ≠ 0 := by
  intro e
  unfold frameFault at h
  rw [if_pos (by omega)] at h
  cases h
/-- Frames of some kind. -/
def kinds (x : LinkD) : Prop := (∀ f ∈ x.s, f.kind ≠ 0) ∧ ∀ f ∈ x.q, f.kind ≠ 0
theorem kinds_fill {x : LinkD} (h : kinds x) : kinds (fillL x) := by
  refine ⟨fun f hf => ?_, fun f hf => h.2 f (List.mem_of_mem_drop hf)⟩
  rcases List.mem_append.1 hf with hf | hf
  · exact h.1 f hf
  · exact h.2 f (List.mem_of_mem_take hf)
theorem framesOk_kinds {L : List FrameV} (h : framesOk L) : ∀ f ∈ L.map FrameV.d, f.kind ≠ 0 := by
  intro f hf
  obtain ⟨g, hg, rfl⟩ := List.mem_map.1 hf
  obtain ⟨i, hi, rfl⟩ := List.mem_iff_getElem.1 hg
  exact frameFault_kind (h i hi)
/-- Both results are laid; a link that was read before is read as before. -/
theorem heard_sets {W : World} {R F : Nat} {x0 x1 x2 x3 x4 y0 y1 y2 y3 y4 : Value} (hR : LinkAt W R zeroL) (hF : FrameAt W F 0 0 0 none 0 0 ⟨#[]⟩) (hne : R ≠ F) {W' WZ : World}
    (hW : W' = ((((((((((W.setCell ⟨R, 0, none⟩ x0).setCell ⟨R, 1, none⟩ x1).setCell ⟨R, 2, none⟩ x2).setCell ⟨R, 3, none⟩ x3).setCell ⟨R, 4, none⟩ x4).setCell ⟨F, 0, none⟩ y0).setCell ⟨F, 1, none⟩ y1).setCell ⟨F, 2, none⟩ y2).setCell ⟨F, 3, none⟩ y3).setCell ⟨F, 4, none⟩ y4)) (hZ : WZ = W'.drew) :
    WZ.heap[R]? = some (.cells #[x0, x1, x2, x3, x4] 35 (0, 0)) ∧ WZ.heap[F]? = some (.cells #[y0, y1, y2, y3, y4] 37 (0, 0)) ∧ Two R F W WZ ∧ ∀ l : LinkV, l.In W → kinds l.d → l.In WZ := by
  obtain ⟨b1, b2, b3⟩ := drew_sets (ten_sets (x0 := x0) (x1 := x1) (x2 := x2) (x3 := x3) (x4 := x4) (y0 := y0) (y1 := y1) (y2 := y2) (y3 := y3) (y4 := y4) hR hF hne hW) hZ
  refine ⟨b1, b2, b3, fun l hl hk => ?_⟩
  obtain ⟨a1, a2⟩ := five_sets (x0 := x0) (x1 := x1) (x2 := x2) (x3 := x3) (x4 := x4) hR
  obtain ⟨W1, hW1⟩ : ∃ W1, W1 = ((((W.setCell ⟨R, 0, none⟩ x0).setCell ⟨R, 1, none⟩ x1).setCell ⟨R, 2, none⟩ x2).setCell ⟨R, 3, none⟩ x3).setCell ⟨R, 4, none⟩ x4 := ⟨_, rfl⟩
  rw [← hW1] at a1 a2 hW
  have hFl : F < W.heap.size := (Array.getElem?_eq_some_iff.1 hF).1
  have hF1 : FrameAt W1 F 0 0 0 none 0 0 ⟨#[]⟩ := (a2.block F hFl (fun e => hne e.symm)).trans hF
  obtain ⟨_, c2⟩ := five_sets (x0 := y0) (x1 := y1) (x2 := y2) (x3 := y3) (x4 := y4) hF1
  rw [← hW] at c2
  have hs := fun f (hf : f ∈ l.s) => hk.1 f.d (List.mem_map.2 ⟨f, hf, rfl⟩)
  have hq := fun f (hf : f ∈ l.q) => hk.2 f.d (List.mem_map.2 ⟨f, hf, rfl⟩)
  have h1 := frames_zeroF hF1 (frames_only (no_string hR) hl.s a2) hs c2
  have h2 := frames_zeroF hF1 (frames_only (no_string hR) hl.q a2) hq c2
  have hd : Below W'.heap.size W' WZ := by
    rw [hZ]
    exact (Below.refl _ _).drew
  exact ⟨h1.later hd, h2.later hd⟩
/-- The frames behind the first ones. -/
theorem drop_in {w : World} {b o sc K : Nat} {L : List FrameV} {A' : Option Addr} (h : FramesIn w (some ⟨b, o, none⟩) L) (hK : K ≤ L.length) (hsc : L.length ≤ sc) (hA : A' = if sc = K then some ⟨b, o, none⟩ else some ⟨b, o + K * 5, none⟩) : FramesIn w A' (L.drop K) := by
  refine ⟨?_, fun f hf => h.each f (List.mem_of_mem_drop hf)⟩
  by_cases he : sc = K
  · have h0 : L.drop K = [] := List.drop_eq_nil_of_le (by omega)
    rw [h0]
    exact Sl.nil
  · rw [if_neg he] at hA
    subst hA
    have hdr : (L.drop K).flatMap FrameV.cells = (L.flatMap FrameV.cells).drop (K * 5) := by
      clear h hsc he
      induction K generalizing L with
      | zero => simp
      | succ K ih =>
        cases L with
        | nil => simp
        | cons f L =>
          have h5 := ih (L := L) (by simpa using hK)
          rw [List.drop_succ_cons, h5, List.flatMap_cons, show (K + 1) * 5 = f.cells.length + K * 5 by rw [FrameV.cells_len]; omega, ← List.drop_drop, List.drop_left]
    refine ⟨by rw [flat_length FrameV.cells 5 FrameV.cells_len], fun hn => ?_⟩
    rw [List.length_drop] at hn
    obtain ⟨b', o', e, hb, hc⟩ := h.row.2 (by omega)
    injection e with e
    injection e with e1 e2
    subst e1 e2
    refine ⟨b, o + K * 5, rfl, hb, fun j u hu => ?_⟩
    rw [hdr, List.getElem?_drop] at hu
    have := hc (K * 5 + j) u hu
    rwa [← Nat.add_assoc] at this
/-- A link's state with other frames sent, that lie behind all. -/
theorem LinkSt.swap {w w1 : World} {base X m c' : Nat} {e n h : Int} {sA qA A' : Option Addr} {sc qc : Nat} {s q L : List FrameV} (k : LinkSt w base X ⟨e, n, sA, sc, s, qA, qc, q, h⟩) (ho : FramesOwn w1 w.heap.size A' c' L) (hb : Below w.heap.size w w1) (hm : m = L.length) (hX : X < w.heap.size) :
    LinkAt (w1.setCell ⟨X, 2, none⟩ (.slice A' m c')) X ⟨e, n, A', c', L, qA, qc, q, h⟩ ∧ (⟨e, n, A', c', L, qA, qc, q, h⟩ : LinkV).In (w1.setCell ⟨X, 2, none⟩ (.slice A' m c')) := by
  subst hm
  have hO : Only X w1 (w1.setCell ⟨X, 2, none⟩ (.slice A' L.length c')) := Only.set _ _ _
  have hz := hO.size
  have hz1 := hb.size
  refine ⟨any_set 2 _ ((hb.block X hX).trans k.at_), ⟨FramesOwn.in_ (RowOwn.kept ho hz (fun b h1 h2 => hO.block b h2 (by omega))), ⟨?_, ?_⟩⟩⟩
  · exact k.qr.moved fun b hx => ⟨by omega, (hO.block b (by omega) hx.2.1).trans (hb.block b hx.1.2)⟩
  · exact fun f hf => (k.q f hf).moved fun b hx => ⟨by omega, (hO.block b (by omega) hx.2.1).trans (hb.block b hx.1.2)⟩
/-- One more is heard, where the frames sent lie apart from the link's block. -/
theorem LinkSt.swap4 {w w1 : World} {base X m c' : Nat} {e n h h' : Int} {sA qA A' : Option Addr} {sc qc : Nat} {s q L : List FrameV} (k : LinkSt w base X ⟨e, n, sA, sc, s, qA, qc, q, h⟩) (ho : FramesOwn w1 w.heap.size A' c' L) (hb : Below w.heap.size w w1) (hm : m = L.length) (hX : X < w.heap.size) :
    LinkAt ((w1.setCell ⟨X, 2, none⟩ (.slice A' m c')).setCell ⟨X, 4, none⟩ (.int .i64 h')) X ⟨e, n, A', c', L, qA, qc, q, h'⟩ ∧ (⟨e, n, A', c', L, qA, qc, q, h'⟩ : LinkV).In ((w1.setCell ⟨X, 2, none⟩ (.slice A' m c')).setCell ⟨X, 4, none⟩ (.int .i64 h')) := by
  have h0 := (k.swap ho hb hm hX).1
  subst hm
  have hO : Only X w1 ((w1.setCell ⟨X, 2, none⟩ (.slice A' L.length c')).setCell ⟨X, 4, none⟩ (.int .i64 h')) := (Only.set _ _ _).trans (Only.set _ _ _)
  have hz := hO.size
  have hz1 := hb.size
  refine ⟨any_set 4 _ h0, ⟨FramesOwn.in_ (RowOwn.kept ho hz (fun b h1 h2 => hO.block b h2 (by omega))), ⟨?_, ?_⟩⟩⟩
  · exact k.qr.moved fun b hx => ⟨by omega, (hO.block b (by omega) hx.2.1).trans (hb.block b hx.1.2)⟩
  · exact fun f hf => (k.q f hf).moved fun b hx => ⟨by omega, (hO.block b (by omega) hx.2.1).trans (hb.block b hx.1.2)⟩
end Go.Proofs.YtgcapkkgminidaaDoor
