/-
  node.Tick and the reference's NodeTicked, in one contract each: what they answer.
-/
import Derived.Test.YtbmdepbmejnlkaaDoorRows
import Derived.Test.YtbmdepbmejnlkaaDoorNTick
import Derived.Test.YtbmdepbmejnlkaaDoorNTicked
import Derived.Test.YtbmdepbmejnlkaaDoorBN
namespace Go.Proofs.YtbmdepbmejnlkaaDoor
open Go.ChangeShapes Go.WideShapes Go.ChangeAt Go.RowKit
set_option maxRecDepth 100000
/-- A call that hands back a turn that writes nothing and sends these posts, and an error. -/
def RetTurnK (w : World) (d : NodeD) (D : List PostD) (er : Int) (e : Ending) (w' : World) : Prop :=
  ∃ (n : NodeV) (A : Option Addr) (c : Nat) (L : List PostV), e = .returned (.tuple #[.agg (turnCells n (.slice A D.length c) (.slice none 0 0)), .int .i64 er]) ∧ n.d = d ∧ n.InS (fun b => w.heap.size ≤ b ∧ b < w'.heap.size) w' ∧ L.map PostV.d = D ∧ PostsOwn w' w.heap.size A c L ∧ Below w.heap.size w w'
theorem RetTurnP.k {w w' : World} {d : NodeD} {D : List PostD} {er : Int} {e : Ending} (h : RetTurnP w d D er e w') : RetTurnK w d D er e w' := by
  obtain ⟨n, A, c, L, h1, h2, h3, h4, h5, h6⟩ := h
  have hl : L.length = D.length := by rw [← h4, List.length_map]
  exact ⟨n, A, c, L, by rw [← hl]; exact h1, h2, h3, h4, h5, h6⟩
open Classical in
noncomputable def tkD (zs : List Int) (n : NodeV) : NodeD := if nodeFault zs n = 0 then n.d else zeroN.d
open Classical in
noncomputable def tkP (zs : List Int) (n : NodeV) : List PostD := if nodeFault zs n = 0 then ticksD n.S else []
theorem NTick_c (w : World) (T : Option Addr) (N Nc : Nat) (zs : List Int) (n : NodeV) (hT : Tabs w) (hi : n.In w) (hm : n.Small) (hz : Sl (· < w.heap.size) w 1 T N (zs.map (Value.int .i64))) (hN : N ≤ 9223372036854775807) :
    Calls Tryd.prog 22 #[.slice T N Nc, n.val] w (RetTurnK w (tkD zs n) (tkP zs n) (nodeFault zs n)) := by
  unfold tkD tkP
  by_cases h0 : nodeFault zs n = 0
  · rw [if_pos h0, if_pos h0, h0]
    exact (NTick_ok w T N Nc zs n hT hi hm hz hN h0).mono fun _ _ h => h.k
  · rw [if_neg h0, if_neg h0]
    exact (NTick_fault w T N Nc zs n hT hi hm hz hN _ rfl (by simpa using h0)).mono fun _ _ h => h.k
theorem NTicked_c (w : World) (T : Option Addr) (N Nc : Nat) (zs : List Int) (n : NodeV) (hT : Tabs w) (hi : n.In w) (hm : n.Small) (hz : Sl (· < w.heap.size) w 1 T N (zs.map (Value.int .i64))) (hN : N ≤ 9223372036854775807) :
    Calls Tryd.prog 23 #[.slice T N Nc, n.val] w (RetTurnK w (tkD zs n) (tkP zs n) (nodeFault zs n)) := by
  unfold tkD tkP
  by_cases h0 : nodeFault zs n = 0
  · rw [if_pos h0, if_pos h0, h0]
    exact (NTicked_ok w T N Nc zs n hT hi hm hz hN h0).mono fun _ _ h => h.k
  · rw [if_neg h0, if_neg h0]
    exact (NTicked_fault w T N Nc zs n hT hi hm hz hN _ rfl (by simpa using h0)).mono fun _ _ h => h.k
theorem tkD_d {zs : List Int} {n n' : NodeV} (hd : n'.d = n.d) : tkD zs n' = tkD zs n := by
  unfold tkD
  rw [nodeFault_d hd, hd]
theorem tkP_d {zs : List Int} {n n' : NodeV} (hd : n'.d = n.d) : tkP zs n' = tkP zs n := by
  unfold tkP
  rw [nodeFault_d hd, ticksD_d (congrArg NodeD.S hd)]
theorem tk_mid {zs : List Int} {n n' : NodeV} (hm : n.Small) (hd : n'.d = tkD zs n) : n'.Mid := by
  unfold tkD at hd
  split at hd
  · exact (NodeV.Small.of_d hd hm).mid
  · exact (NodeV.Small.of_d hd zeroN_small).mid
theorem tkP_small {zs : List Int} {n : NodeV} (hm : n.Small) : (tkP zs n).length ≤ 1099511627776 ∧ ∀ p ∈ tkP zs n, p.p.frame.op.length ≤ 1048576 := by
  unfold tkP
  split
  · have h1 := ticksD_len (nodeFault_links (by assumption))
    have h2 := hm.sl
    exact ⟨by omega, ticksD_small fun x hx => ⟨nodeFault_links (by assumption) x hx, hm.sides x hx⟩⟩
  · exact ⟨by simp, by simp⟩
end Go.Proofs.YtbmdepbmejnlkaaDoor
