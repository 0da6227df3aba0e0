/-
  Contracts of wire.number, wire.CheckRecord and its reference RecordFault.
-/
import Derived.Test.YtbmdepbmejnlkaaDoorRows
import Derived.Test.YtbmdepbmejnlkaaDoorOps
import Derived.Test.YtbmdepbmejnlkaaDoorText
import Derived.Test.YtbmdepbmejnlkaaDoorCheck
import Derived.Test.YtbmdepbmejnlkaaDoorIn
namespace Go.Proofs.YtbmdepbmejnlkaaDoor
open Go.ChangeShapes Go.WideShapes Go.ChangeAt Go.RowKit
set_option maxRecDepth 100000
theorem number_yes (n : Int) (w : World) (h1 : 0 ≤ n) (h2 : n ≤ 1048576) : Calls Tryd.prog 110 #[.int .i64 n] w fun e w' => e = .returned (.bool true) ∧ w = w' := by
  have e1 : decide (0 ≤ n) = true := by simpa using h1
  have e2 : decide (n ≤ 1048576) = true := by simpa using h2
  go_enter Tryd.func110, Tryd.ntmps110
  go_wp2
  go_ret
  exact ⟨rfl, rfl⟩
theorem number_no (n : Int) (w : World) (h : n < 0 ∨ 1048576 < n) : Calls Tryd.prog 110 #[.int .i64 n] w fun e w' => e = .returned (.bool false) ∧ w = w' := by
  rcases Int.lt_or_le n 0 with h1 | h1
  · have e1 : decide (0 ≤ n) = false := by simpa using h1
    go_enter Tryd.func110, Tryd.ntmps110
    go_wp2
    go_ret
    exact ⟨rfl, rfl⟩
  · have h2 : 1048576 < n := by omega
    have e1 : decide (0 ≤ n) = true := by simpa using h1
    have e2 : decide (n ≤ 1048576) = false := by simpa using h2
    go_enter Tryd.func110, Tryd.ntmps110
    go_wp2
    go_ret
    exact ⟨rfl, rfl⟩
/-- What a record is refused for. -/
def recordFault (ep : Int) (ps : List PartD) : Int := if ep < 0 ∨ 1048576 < ep then 2 else if 0 < ep ∧ 0 < ps.length then 4 else opFault ps
abbrev recordV (ep : Int) (A : Option Addr) (n c : Nat) : Value := .agg #[.int .i64 ep, .slice A n c]
end Go.Proofs.YtbmdepbmejnlkaaDoor
