/-
  The neighbours of a node, in plain words (no walk).
-/
import Derived.Test.YtbmdepbmejnlkaaDoorRows
import Derived.Test.YtbmdepbmejnlkaaDoorTree
namespace Go.Proofs.YtbmdepbmejnlkaaDoor
open Go.ChangeShapes Go.WideShapes Go.ChangeAt Go.RowKit
set_option maxRecDepth 100000
/-! ### neighbours -/
def kidsTo (zs : List Int) (me : Int) (k : Nat) : List Int := ((List.range k).filter (fun i => zs.getD i 0 == me)).map Int.ofNat
theorem kidsTo_zero (zs : List Int) (me : Int) : kidsTo zs me 0 = [] := rfl
theorem kidsTo_yes {zs : List Int} {me : Int} {k : Nat} (h : (zs.getD k 0 == me) = true) : kidsTo zs me (k + 1) = kidsTo zs me k ++ [(k : Int)] := by
  unfold kidsTo
  rw [List.range_succ, List.filter_append, List.map_append]
  simp only [List.filter_cons, h, if_true, List.filter_nil, List.map_cons, List.map_nil]
  rfl
theorem kidsTo_no {zs : List Int} {me : Int} {k : Nat} (h : (zs.getD k 0 == me) = false) : kidsTo zs me (k + 1) = kidsTo zs me k := by
  unfold kidsTo
  rw [List.range_succ, List.filter_append, List.map_append]
  simp only [List.filter_cons, h, Bool.false_eq_true, if_false, List.filter_nil, List.map_nil, List.append_nil]
theorem kidsTo_len (zs : List Int) (me : Int) (k : Nat) : (kidsTo zs me k).length ≤ k := by
  unfold kidsTo
  rw [List.length_map]
  exact Nat.le_trans (List.length_filter_le _ _) (by simp)
def peerHead (zs : List Int) (me : Int) : List Int := if 0 < me then [zs.getD me.toNat 0] else []
/-- The parent first, then the children. -/
def peers (zs : List Int) (me : Int) : List Int := peerHead zs me ++ kidsTo zs me zs.length
theorem tree_root {zs : List Int} (h : treeFault zs = 0) : 1 ≤ zs.length ∧ zs.length ≤ 7 ∧ zs.getD 0 0 = -1 := by
  by_cases h1 : zs.length < 1 ∨ 7 < zs.length
  · rw [treeFault_size h1] at h
    cases h
  · refine ⟨by omega, by omega, ?_⟩
    apply Classical.byContradiction
    intro hb
    rw [treeFault_bad h1 (k := 0) (by omega) (by simpa [tOk] using hb)] at h
    cases h

end Go.Proofs.YtbmdepbmejnlkaaDoor
