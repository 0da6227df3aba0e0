/-
  Contract of the reference's LinkCopy; what a link says.
-/
import Derived.Test.YtgcapkkgminidaaDoorRows
import Derived.Test.YtgcapkkgminidaaDoorFramesOwn
import Derived.Test.YtgcapkkgminidaaDoorTickP
namespace Go.Proofs.YtgcapkkgminidaaDoor
open Go.ChangeShapes Go.WideShapes Go.ChangeAt Go.RowKit
set_option maxRecDepth 100000
/-- What a link says. -/
structure LinkD where
  e : Int
  n : Int
  s : List FrameD
  q : List FrameD
  h : Int
abbrev LinkV.d (l : LinkV) : LinkD := ⟨l.e, l.n, l.s.map FrameV.d, l.q.map FrameV.d, l.h⟩
/-- A call that hands back a link that says this. -/
def RetLink (w : World) (d : LinkD) (e : Ending) (w' : World) : Prop :=
  ∃ l : LinkV, e = .returned l.val ∧ l.d = d ∧ l.In w' ∧ Below w.heap.size w w'
theorem d_at {L L' : List FrameV} (h : L'.map FrameV.d = L.map FrameV.d) {i : Nat} (hi : i < L.length) (hi' : i < L'.length) : L'[i].d = L[i].d := by
  have := congrArg (fun l => l[i]?) h
  simpa [hi, hi'] using this
theorem framesOk_d {L L' : List FrameV} (h : L'.map FrameV.d = L.map FrameV.d) (hk : framesOk L) : framesOk L' := by
  intro i hi
  have hl : L'.length = L.length := by rw [← List.length_map (f := FrameV.d), h, List.length_map]
  rw [d_at h (hl ▸ hi) hi]
  exact hk i (hl ▸ hi)
theorem linkMay_d {l l' : LinkV} (h : l'.d = l.d) (hk : linkMay l) : linkMay l' := by
  obtain ⟨e, n, sA, sc, s, qA, qc, q, hd⟩ := l
  obtain ⟨e', n', sA', sc', s', qA', qc', q', hd'⟩ := l'
  simp only [LinkV.d, LinkD.mk.injEq] at h
  obtain ⟨rfl, rfl, h1, h2, rfl⟩ := h
  have l1 : s'.length = s.length := by rw [← List.length_map (f := FrameV.d), h1, List.length_map]
  have l2 : q'.length = q.length := by rw [← List.length_map (f := FrameV.d), h2, List.length_map]
  obtain ⟨k1, k2, ⟨k3, k4⟩, k5⟩ := hk
  refine ⟨k1, ?_, ⟨framesOk_d h1 k3, framesOk_d h2 k4⟩, ?_⟩
  · unfold linkLens at k2 ⊢
    dsimp only at k2 ⊢
    rw [l1, l2]
    exact k2
  · unfold linkNone at k5 ⊢
    dsimp only at k5 ⊢
    rw [l1]
    exact k5
theorem small_d {L L' : List FrameV} (h : L'.map FrameV.d = L.map FrameV.d) (hk : ∀ f ∈ L, f.Small) : ∀ f ∈ L', f.Small := by
  intro f hf
  have : f.d ∈ L.map FrameV.d := by rw [← h]; exact List.mem_map.2 ⟨f, hf, rfl⟩
  obtain ⟨g, hg, e⟩ := List.mem_map.1 this
  obtain ⟨⟨o1, o2⟩, o3⟩ := hk g hg
  obtain ⟨fk, fh, fe, ⟨fA, fc, fp⟩, fs⟩ := f
  obtain ⟨gk, gh, ge, ⟨gA, gc, gp⟩, gs⟩ := g
  simp only [FrameV.d, FrameD.mk.injEq] at e
  obtain ⟨_, _, _, rfl, rfl⟩ := e
  exact ⟨⟨o1, o2⟩, o3⟩
theorem LinkV.Small.of_d {l l' : LinkV} (h : l'.d = l.d) (hk : l.Small) : l'.Small := by
  simp only [LinkV.d, LinkD.mk.injEq] at h
  obtain ⟨_, _, h1, h2, _⟩ := h
  exact ⟨by rw [← List.length_map (f := FrameV.d), h1, List.length_map]; exact hk.sl, by rw [← List.length_map (f := FrameV.d), h2, List.length_map]; exact hk.ql, small_d h1 hk.s, small_d h2 hk.q⟩
theorem LinkV.In.later {w w' : World} {l : LinkV} (h : l.In w) (hb : Below w.heap.size w w') : l.In w' := ⟨h.s.later hb, h.q.later hb⟩
theorem packetD_d {l l' : LinkV} (h : l'.d = l.d) (k : Nat) (hk : k < l.s.length) : packetD l' k = packetD l k := by
  simp only [LinkV.d, LinkD.mk.injEq] at h
  obtain ⟨h1, h2, h3, h4, h5⟩ := h
  have l1 : l'.s.length = l.s.length := by rw [← List.length_map (f := FrameV.d), h3, List.length_map]
  have hk' : k < l'.s.length := by omega
  rw [packetD_at l k hk, packetD_at l' k hk', h1, h2, h5, d_at h3 hk hk']
  congr 3
  omega
set_option maxHeartbeats 1000000 in
theorem LinkCopy_c (w : World) (l : LinkV) (hi : l.In w) (hm : l.Small) : Calls Tryd.prog 20 #[l.val] w (RetLink w l.d) := by
  obtain ⟨e, n, sA, sc, s, qA, qc, q, h⟩ := l
  have H1 := Lib.hid (fun W hs => framesCopy_c W sA sc s hs hm.sl (fun f hf => (hm.s f hf).op.len))
  have H2 := Lib.hid (fun W hs => framesCopy_c W qA qc q hs hm.ql (fun f hf => (hm.q f hf).op.len))
  have HI := Lib.hid hi
  (try dsimp only at *)
  clear hi hm
  go_enter Tryd.func20, Tryd.ntmps20
  go_wp2_with (refine stop_at ?_)
  refine ⟨?_⟩
  go_region_held3 (fun w' => w'.cell? ⟨w.heap.size, 0, none⟩ = some (.int .i64 e) ∧ w'.cell? ⟨w.heap.size, 1, none⟩ = some (.int .i64 n) ∧ w'.cell? ⟨w.heap.size, 2, none⟩ = some (.slice sA s.length sc) ∧ w'.cell? ⟨w.heap.size, 3, none⟩ = some (.slice qA q.length qc) ∧ w'.cell? ⟨w.heap.size, 4, none⟩ = some (.int .i64 h))
    (go_keep)
    ((first
      | (go_at_call 57; (with_reducible refine (H1.out _ ?_).mono ?_); exact HI.out.s.later (by repeat (first | exact Below.refl _ _ | apply bGrow | apply bAlloc | apply Below.drew | apply bDrewN | apply bIter)); rintro r w2 ⟨A2, c2, L2, rfl, hd2, ho2, hb2⟩; obtain ⟨⟨d2, os2⟩, rfl⟩ := beyond_of hb2)
      | (go_at_call 57; (with_reducible refine (H2.out _ ?_).mono ?_); exact HI.out.q.later (by repeat (first | exact Below.refl _ _ | apply bGrow | apply bAlloc | apply Below.drew | apply bDrewN | apply bIter)); rintro r w3 ⟨A3, c3, L3, rfl, hd3, ho3, hb3⟩; obtain ⟨⟨d3, os3⟩, rfl⟩ := beyond_of hb3)))
  all_goals (
    go_wp2_with fail
    refine bodyPost_ret (v := (⟨e, n, A2, c2, L2, A3, c3, L3, h⟩ : LinkV).val) (by simp [results, Tryd.results20, go_sem]) rfl ?_
    refine ⟨⟨e, n, A2, c2, L2, A3, c3, L3, h⟩, rfl, by simp only [LinkV.d, hd2, hd3], ⟨FramesOwn.in_ (RowOwn.kept ho2 ?_ fun b hb hl => ?_), FramesOwn.in_ (RowOwn.kept ho3 ?_ fun b hb hl => ?_)⟩, (by repeat (first | exact Below.refl _ _ | apply bGrow | apply bAlloc | apply Below.drew | apply bDrewN | apply bIter))⟩
    · simp [Go.Sort.grow]
    · exact ((below_regrown _ d3 os3).block b (by simpa [Go.Sort.grow] using hl)).trans (grow_tail _ _ d2 os2 (by simp) (by simpa using hb))
    · simp [Go.Sort.grow]
    · exact grow_tail _ _ d3 os3 (by simp [Go.Sort.grow]) hb)
end Go.Proofs.YtgcapkkgminidaaDoor
