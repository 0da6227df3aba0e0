/-
  Contracts of link.Open, its reference, and of sameLink at two links without frames.
-/
import Derived.Test.YtccjmgcafifmkaaRows
import Derived.Test.YtccjmgcafifmkaaBase
namespace Go.Proofs.Ytccjmgcafifmkaa
open Go.ChangeShapes Go.WideShapes Go.ChangeAt Go.RowKit
set_option maxRecDepth 100000
abbrev linkV (ep nx : Int) : Value := .agg #[.int .i64 ep, .int .i64 nx, .slice none 0 0, .slice none 0 0, .int .i64 0]
theorem In_yes (n lo hi : Int) (w : World) (h1 : lo ≤ n) (h2 : n ≤ hi) : Calls Try.prog 22 #[.int .i64 n, .int .i64 lo, .int .i64 hi] w fun e w' => e = .returned (.bool true) ∧ w = w' := by
  have e1 : decide (lo ≤ n) = true := by simpa using h1
  have e2 : decide (n ≤ hi) = true := by simpa using h2
  go_enter Try.func22, Try.ntmps22
  go_wp2
  go_ret
  exact ⟨rfl, rfl⟩
theorem In_no (n lo hi : Int) (w : World) (h : n < lo ∨ hi < n) : Calls Try.prog 22 #[.int .i64 n, .int .i64 lo, .int .i64 hi] w fun e w' => e = .returned (.bool false) ∧ w = w' := by
  rcases Int.lt_or_le n lo with h1 | h1
  · have e1 : decide (lo ≤ n) = false := by simpa using h1
    go_enter Try.func22, Try.ntmps22
    go_wp2
    go_ret
    exact ⟨rfl, rfl⟩
  · have h2 : hi < n := by omega
    have e1 : decide (lo ≤ n) = true := by simpa using h1
    have e2 : decide (n ≤ hi) = false := by simpa using h2
    go_enter Try.func22, Try.ntmps22
    go_wp2
    go_ret
    exact ⟨rfl, rfl⟩
theorem open_bad (a : Int) (w : World) (h : a < 1 ∨ 1048576 < a) : Calls Try.prog 9 #[.int .i64 a] w fun e w' => e = .returned (.tuple #[linkV 0 0, .int .i64 2]) ∧ Below w.heap.size w w' := by
  rcases h with h | h
  · go_enter Try.func9, Try.ntmps9
    go_wp2
    exact bodyPost_ret (v := .tuple #[linkV 0 0, .int .i64 2]) (by simp [results, Try.results9, go_sem]) rfl ⟨rfl, bAlloc (Below.refl _ _) _⟩
  · have h' : ¬ a < 1 := by omega
    go_enter Try.func9, Try.ntmps9
    go_wp2
    exact bodyPost_ret (v := .tuple #[linkV 0 0, .int .i64 2]) (by simp [results, Try.results9, go_sem]) rfl ⟨rfl, bAlloc (Below.refl _ _) _⟩
theorem open_good (a : Int) (w : World) (h1 : 1 ≤ a) (h2 : a ≤ 1048576) : Calls Try.prog 9 #[.int .i64 a] w fun e w' => e = .returned (.tuple #[linkV a 1, .int .i64 0]) ∧ Below w.heap.size w w' := by
  go_enter Try.func9, Try.ntmps9
  go_wp2
  exact bodyPost_ret (v := .tuple #[linkV a 1, .int .i64 0]) (by simp [results, Try.results9, go_sem]) rfl ⟨rfl, bAlloc (Below.refl _ _) _⟩
theorem opened_bad (a : Int) (w : World) (h : a < 1 ∨ 1048576 < a) : Calls Try.prog 10 #[.int .i64 a] w fun e w' => e = .returned (.tuple #[linkV 0 0, .int .i64 2]) ∧ Below w.heap.size w w' := by
  go_enter Try.func10, Try.ntmps10
  go_wp2_with (go_at_call 22; refine (In_no _ _ _ _ h).mono ?_; rintro e w' ⟨rfl, rfl⟩)
  exact bodyPost_ret (v := .tuple #[linkV 0 0, .int .i64 2]) (by simp [results, Try.results10, go_sem]) rfl ⟨rfl, bAlloc (Below.refl _ _) _⟩
theorem opened_good (a : Int) (w : World) (h1 : 1 ≤ a) (h2 : a ≤ 1048576) : Calls Try.prog 10 #[.int .i64 a] w fun e w' => e = .returned (.tuple #[linkV a 1, .int .i64 0]) ∧ Below w.heap.size w w' := by
  go_enter Try.func10, Try.ntmps10
  go_wp2_with (go_at_call 22; refine (In_yes _ _ _ _ h1 h2).mono ?_; rintro e w' ⟨rfl, rfl⟩)
  exact bodyPost_ret (v := .tuple #[linkV a 1, .int .i64 0]) (by simp [results, Try.results10, go_sem]) rfl ⟨rfl, bAlloc (Below.refl _ _) _⟩
theorem sameFrames_nil (w : World) : Calls Try.prog 23 #[.slice none 0 0, .slice none 0 0] w fun e w' => e = .returned (.bool true) ∧ w = w' := by
  go_enter Try.func23, Try.ntmps23
  go_wp2
  refine wp_loop_rounds 1 ?_
  rw [rounds_succ]
  go_wp2
  go_ret
  exact ⟨rfl, rfl⟩
theorem sameLink_bare (a b : Int) (w : World) : Calls Try.prog 11 #[linkV a b, linkV a b] w fun e w' => e = .returned (.bool true) ∧ Below w.heap.size w w' := by
  go_enter Try.func11, Try.ntmps11
  go_wp2_with (go_at_call 23; refine (sameFrames_nil _).mono ?_; rintro e w' ⟨rfl, rfl⟩)
  go_ret
  exact ⟨by simp, by repeat (first | exact Below.refl _ _ | apply bDrewN | apply Below.drew | apply bAlloc)⟩
end Go.Proofs.Ytccjmgcafifmkaa
