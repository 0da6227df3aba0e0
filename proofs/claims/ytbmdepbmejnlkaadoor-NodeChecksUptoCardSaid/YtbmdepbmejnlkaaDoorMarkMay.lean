/-
  Contract of the reference's markMay.
-/
import Derived.Test.YtbmdepbmejnlkaaDoorRows
import Derived.Test.YtbmdepbmejnlkaaDoorSideM
import Derived.Test.YtbmdepbmejnlkaaDoorIn
import Derived.Test.YtbmdepbmejnlkaaDoorStop
import Derived.BigQuiet
import Derived.Lib.QuietBelow
namespace Go.Proofs.YtbmdepbmejnlkaaDoor
open Go.ChangeShapes Go.WideShapes Go.ChangeAt Go.RowKit
set_option maxRecDepth 100000
theorem regrown_same {P : Program} {f : FuncId} {args : Array Value} {w : World} {d : Nat} {os : Array Obj} {v : Value} (h : Calls P f args (Go.Sort.grow (redrawn w d) os) fun e w' => e = .returned v ∧ Go.Sort.grow (redrawn w d) os = w') : Calls P f args (Go.Sort.grow (redrawn w d) os) fun e w'' => e = .returned v ∧ ∃ p : Regrown, w'' = Go.Sort.grow (redrawn w p.d) p.os :=
  h.mono fun _ _ ⟨he, hw⟩ => ⟨he, ⟨d, os⟩, hw.symm⟩
abbrev markV (m : Int × Int) : Value := .agg #[.int .i64 m.1, .int .i64 m.2]
set_option maxHeartbeats 1000000 in
theorem markMay_a (w : World) (s : ByteArray) (a h : Int) (hs : s.size ≤ 1048576) (H : Hid (a < 0 ∨ runesI s < a)) : Calls Tryd.prog 38 #[.string s, markV (a, h)] w fun r w' => r = .returned (.bool false) ∧ Below w.heap.size w w' := by
  have HR := Lib.hid (fun W => runes_c s W hs)
  unfold runesI at H
  generalize (Lib.runeCount s : Int) = rc at *
  have HR2 : ∀ (W : World) d os, Calls Tryd.prog 34 #[.string s] (Go.Sort.grow (redrawn W d) os) fun e w'' => e = .returned (.int .i64 rc) ∧ ∃ p : Regrown, w'' = Go.Sort.grow (redrawn W p.d) p.os := fun W d os => Calls.regrown_of (HR.out _)
  have HI2 : ∀ (W : World) d os, Calls Tryd.prog 31 #[.int .i64 a, .int .i64 0, .int .i64 rc] (Go.Sort.grow (redrawn W d) os) fun e w'' => e = .returned (.bool false) ∧ ∃ p : Regrown, w'' = Go.Sort.grow (redrawn W p.d) p.os := fun W d os => regrown_same (In_no a 0 rc _ H.out)
  have HR3 := Lib.hid HR2
  have HI3 := Lib.hid HI2
  clear HR2 HI2
  obtain ⟨W1, hW1⟩ : ∃ W1, W1 = w.alloc (.cells #[.int .i64 a, .int .i64 h] 52) := ⟨_, rfl⟩
  have k0 := cell_regrown (show W1.cell? ⟨w.heap.size, 0, none⟩ = some (.int .i64 a) by rw [hW1]; simp)
  have HW := Lib.hid hW1.symm
  have HB := Lib.hid (show Below w.heap.size w W1 by rw [hW1]; exact bAlloc (Below.refl _ _) _)
  clear hW1
  go_enter Tryd.func38, Tryd.ntmps38
  go_wp2_with (refine stop_at ?_)
  refine ⟨?_⟩
  rw [HW.out]
  refine wp_region_quiet_below (by kernel_rfl) (by kernel_rfl) ?_
  repeat (quiet_step (first | (go_at_call 34; exact HR3.out _ _ _) | (go_at_call 31; exact HI3.out _ _ _) | exact HR3.out _ _ _ | exact HI3.out _ _ _))
  refine wpQuiet_nil ?_
  intro _ hw'
  obtain ⟨⟨dq, osq⟩, hw''⟩ := hw'
  subst hw''
  go_wp2_with fail
  go_ret
  exact ⟨rfl, bThen HB.out (below_regrown _ dq osq)⟩
set_option maxHeartbeats 1000000 in
theorem markMay_b (w : World) (s : ByteArray) (a h : Int) (hs : s.size ≤ 1048576) (h1 : 0 ≤ a) (H1 : Hid (a ≤ runesI s)) (b : Bool) (HB : Hid ((b = true ∧ 0 ≤ h ∧ h ≤ runesI s) ∨ (b = false ∧ (h < 0 ∨ runesI s < h)))) : Calls Tryd.prog 38 #[.string s, markV (a, h)] w fun r w' => r = .returned (.bool b) ∧ Below w.heap.size w w' := by
  have HR := Lib.hid (fun W => runes_c s W hs)
  unfold runesI at H1 HB
  generalize (Lib.runeCount s : Int) = rc at *
  go_enter Tryd.func38, Tryd.ntmps38
  have HI : Hid (∀ W, Calls Tryd.prog 31 #[.int .i64 h, .int .i64 0, .int .i64 rc] W fun e w' => e = .returned (.bool b) ∧ W = w') := Lib.hid fun W => by
    rcases HB.out with ⟨rfl, q1, q2⟩ | ⟨rfl, q⟩
    · exact In_yes h 0 rc W q1 q2
    · exact In_no h 0 rc W q
  go_wp2_with (refine stop_at ?_)
  refine ⟨?_⟩
  go_region_law (first
    | (go_simp; go_at_call 34; refine (HR.out _).mono ?_; rintro e w1 ⟨rfl, hb1⟩; obtain ⟨⟨d1, os1⟩, rfl⟩ := beyond_of hb1)
    | (go_simp; go_at_call 31; (with_reducible refine (In_yes a 0 rc _ h1 H1.out).mono ?_); rintro e w2 ⟨rfl, rfl⟩)
    | (go_simp; go_at_call 31; refine (HI.out _).mono ?_; rintro e w2 ⟨rfl, rfl⟩))
  all_goals (
    go_wp2_with fail
    go_ret
    exact ⟨by simp, (by repeat (first | exact Below.refl _ _ | apply bGrow | apply bAlloc | apply Below.drew | apply bDrewN | apply bIter))⟩)
theorem markMay_c (w : World) (s : ByteArray) (m : Int × Int) (hs : s.size ≤ 1048576) : Calls Tryd.prog 38 #[.string s, markV m] w fun r w' => (∃ b : Bool, r = .returned (.bool b) ∧ (b = true ↔ markOk (runesI s) m)) ∧ Below w.heap.size w w' := by
  obtain ⟨a, h⟩ := m
  unfold markOk
  by_cases h1 : 0 ≤ a ∧ a ≤ runesI s
  · by_cases h2 : 0 ≤ h ∧ h ≤ runesI s
    · exact (markMay_b w s a h hs h1.1 h1.2 true (.inl ⟨rfl, h2⟩)).mono fun _ _ k => ⟨⟨true, k.1, by simp [h1, h2]⟩, k.2⟩
    · exact (markMay_b w s a h hs h1.1 h1.2 false (.inr ⟨rfl, by omega⟩)).mono fun _ _ k => ⟨⟨false, k.1, by simp; intro _ _ q; omega⟩, k.2⟩
  · exact (markMay_a w s a h hs (by show a < 0 ∨ runesI s < a; omega)).mono fun _ _ k => ⟨⟨false, k.1, by simp; intro q; omega⟩, k.2⟩
end Go.Proofs.YtbmdepbmejnlkaaDoor
