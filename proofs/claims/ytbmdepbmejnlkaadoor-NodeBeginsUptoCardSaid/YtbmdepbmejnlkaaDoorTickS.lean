/-
  The packets of a tick: of two links that say the same; how many, and how large.
-/
import Derived.Test.YtbmdepbmejnlkaaDoorRows
import Derived.Test.YtbmdepbmejnlkaaDoorTick
namespace Go.Proofs.YtbmdepbmejnlkaaDoor
open Go.ChangeShapes Go.WideShapes Go.ChangeAt Go.RowKit Go.Joins Go.Deep
set_option maxRecDepth 100000
theorem tickD_d {l l' : LinkV} (h : l'.d = l.d) : tickD l' = tickD l := by
  have h0 := h
  simp only [LinkV.d, LinkD.mk.injEq] at h
  obtain ⟨h1, h2, h3, h4, h5⟩ := h
  have l1 : l'.s.length = l.s.length := by rw [← List.length_map (f := FrameV.d), h3, List.length_map]
  have h6 : (List.range l.s.length).map (packetD l') = (List.range l.s.length).map (packetD l) := List.map_congr_left fun k hk => packetD_d h0 k (by simpa using hk)
  unfold tickD
  rw [l1, h1, h6]
  unfold bareD
  rw [h1, h5]
theorem tickD_small {l : LinkV} (h : linkMay l) (hm : l.Small) : (tickD l).length ≤ 1048577 ∧ ∀ p ∈ tickD l, p.frame.op.length ≤ 1048576 := by
  have h8 := h.2.1.1
  unfold tickD
  by_cases h0 : l.e = 0
  · rw [if_pos h0]; simp
  rw [if_neg h0]
  by_cases h1 : l.s.length = 0
  · rw [if_pos h1]; simp [bareD]
  rw [if_neg h1]
  refine ⟨by simp; omega, fun p hp => ?_⟩
  obtain ⟨k, hk, rfl⟩ := List.mem_map.1 hp
  have hk' : k < l.s.length := by simpa using hk
  rw [packetD_at l k hk']
  exact (hm.s _ (List.getElem_mem hk')).op.len
theorem tickD_eight {l : LinkV} (h : linkMay l) : (tickD l).length ≤ 8 := by
  have h8 := h.2.1.1
  unfold tickD
  by_cases h0 : l.e = 0
  · rw [if_pos h0]; simp
  rw [if_neg h0]
  by_cases h1 : l.s.length = 0
  · rw [if_pos h1]; simp
  rw [if_neg h1]
  simp
  exact h8
theorem linkTick_c (w : World) (l : LinkV) (hk : linkMay l) (hT : Tabs w) (hi : l.In w) (hm : l.Small) : Calls Tryd.prog 56 #[l.val] w (RetPks w (tickD l) 0) := by
  by_cases h0 : l.e = 0
  · rw [show tickD l = [] from if_pos h0]
    exact Tick_away w l hk h0 hT hi hm
  · exact Tick_ok w l hk h0 hT hi hm
end Go.Proofs.YtbmdepbmejnlkaaDoor
