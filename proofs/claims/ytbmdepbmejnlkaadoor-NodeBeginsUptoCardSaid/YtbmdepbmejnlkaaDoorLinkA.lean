/-
  Contracts of link.Open, its reference, and of sameLink at two links without frames.
-/
import Derived.Test.YtbmdepbmejnlkaaDoorRows
import Derived.Test.YtbmdepbmejnlkaaDoorBA
namespace Go.Proofs.YtbmdepbmejnlkaaDoor
open Go.ChangeShapes Go.WideShapes Go.ChangeAt Go.RowKit
set_option maxRecDepth 100000
abbrev linkV (ep nx : Int) : Value := .agg #[.int .i64 ep, .int .i64 nx, .slice none 0 0, .slice none 0 0, .int .i64 0]
theorem open_bad (a : Int) (w : World) (h : a < 1 ∨ 1048576 < a) : Calls Tryd.prog 67 #[.int .i64 a] w fun e w' => e = .returned (.tuple #[linkV 0 0, .int .i64 2]) ∧ Below w.heap.size w w' := by
  rcases h with h | h
  · go_enter Tryd.func67, Tryd.ntmps67
    go_wp2
    exact bodyPost_ret (v := .tuple #[linkV 0 0, .int .i64 2]) (by simp [results, Tryd.results67, go_sem]) rfl ⟨rfl, bAlloc (Below.refl _ _) _⟩
  · have h' : ¬ a < 1 := by omega
    go_enter Tryd.func67, Tryd.ntmps67
    go_wp2
    exact bodyPost_ret (v := .tuple #[linkV 0 0, .int .i64 2]) (by simp [results, Tryd.results67, go_sem]) rfl ⟨rfl, bAlloc (Below.refl _ _) _⟩
theorem open_good (a : Int) (w : World) (h1 : 1 ≤ a) (h2 : a ≤ 1048576) : Calls Tryd.prog 67 #[.int .i64 a] w fun e w' => e = .returned (.tuple #[linkV a 1, .int .i64 0]) ∧ Below w.heap.size w w' := by
  go_enter Tryd.func67, Tryd.ntmps67
  go_wp2
  exact bodyPost_ret (v := .tuple #[linkV a 1, .int .i64 0]) (by simp [results, Tryd.results67, go_sem]) rfl ⟨rfl, bAlloc (Below.refl _ _) _⟩
theorem opened_bad (a : Int) (w : World) (h : a < 1 ∨ 1048576 < a) : Calls Tryd.prog 69 #[.int .i64 a] w fun e w' => e = .returned (.tuple #[linkV 0 0, .int .i64 2]) ∧ Below w.heap.size w w' := by
  go_enter Tryd.func69, Tryd.ntmps69
  go_wp2_with (go_at_call 31; refine (In_no _ _ _ _ h).mono ?_; rintro e w' ⟨rfl, rfl⟩)
  exact bodyPost_ret (v := .tuple #[linkV 0 0, .int .i64 2]) (by simp [results, Tryd.results69, go_sem]) rfl ⟨rfl, bAlloc (Below.refl _ _) _⟩
theorem opened_good (a : Int) (w : World) (h1 : 1 ≤ a) (h2 : a ≤ 1048576) : Calls Tryd.prog 69 #[.int .i64 a] w fun e w' => e = .returned (.tuple #[linkV a 1, .int .i64 0]) ∧ Below w.heap.size w w' := by
  go_enter Tryd.func69, Tryd.ntmps69
  go_wp2_with (go_at_call 31; refine (In_yes _ _ _ _ h1 h2).mono ?_; rintro e w' ⟨rfl, rfl⟩)
  exact bodyPost_ret (v := .tuple #[linkV a 1, .int .i64 0]) (by simp [results, Tryd.results69, go_sem]) rfl ⟨rfl, bAlloc (Below.refl _ _) _⟩
theorem sameFrames_nil (w : World) : Calls Tryd.prog 95 #[.slice none 0 0, .slice none 0 0] w fun e w' => e = .returned (.bool true) ∧ w = w' := by
  go_enter Tryd.func95, Tryd.ntmps95
  go_wp2
  refine wp_loop_rounds 1 ?_
  rw [rounds_succ]
  go_wp2
  go_ret
  exact ⟨rfl, rfl⟩
theorem sameLink_bare (a b : Int) (w : World) : Calls Tryd.prog 71 #[linkV a b, linkV a b] w fun e w' => e = .returned (.bool true) ∧ Below w.heap.size w w' := by
  go_enter Tryd.func71, Tryd.ntmps71
  go_wp2_with (go_at_call 95; refine (sameFrames_nil _).mono ?_; rintro e w' ⟨rfl, rfl⟩)
  go_ret
  exact ⟨by simp, by repeat (first | exact Below.refl _ _ | apply bDrewN | apply Below.drew | apply bAlloc)⟩
end Go.Proofs.YtbmdepbmejnlkaaDoor
