/-
  Contracts of the tape calls that only copy bytes.
-/
import Derived.Test.YtbmdepbmejnlkaaDoorRows
import Derived.Test.YtbmdepbmejnlkaaDoorBA
namespace Go.Proofs.YtbmdepbmejnlkaaDoor
open Go.ChangeShapes Go.WideShapes Go.ChangeAt Go.RowKit
set_option maxRecDepth 100000
theorem infoByte : (Tryd.prog.info? 5).map (fun i => (i.zero, i.size, i.bytes)) = some (some (.int .u8 0), 1, 1) := by kernel_rfl
/-- A call that hands back these bytes in memory of its own. -/
def RetBytes (w : World) (bs : List UInt8) (e : Ending) (w' : World) : Prop :=
  ∃ A c, e = .returned (.slice A bs.length c) ∧ w'.ownsRow w.heap.size 5 1 (.slice A bs.length c) bs.length (bs.map byteV) ∧ Below w.heap.size w w'
theorem byteV_one : ∀ (bs : List UInt8), ∀ u ∈ bs.map byteV, u.oneCell' = true := by
  intro bs u hu
  obtain ⟨b, _, rfl⟩ := List.mem_map.1 hu
  rfl
abbrev tapeV (A : Option Addr) (n c : Nat) (sy : Int) : Value := .agg #[.slice A n c, .int .i64 sy]
/-- A call that hands back these bytes, so many synced. -/
def RetTape (w : World) (bs : List UInt8) (sy : Int) (e : Ending) (w' : World) : Prop :=
  ∃ A c, e = .returned (tapeV A bs.length c sy) ∧ w'.ownsRow w.heap.size 5 1 (.slice A bs.length c) bs.length (bs.map byteV) ∧ Below w.heap.size w w'

/-- May this tape be? -/
def tapeOk (bs : List UInt8) (sy : Int) : Prop := 0 ≤ sy ∧ sy ≤ bs.length ∧ bs.length ≤ 8388608
def RetOpen (w : World) (bs : List UInt8) (sy : Int) (e : Ending) (w' : World) : Prop :=
  ∃ A c, e = .returned (.tuple #[tapeV A bs.length c sy, .bool true]) ∧ w'.ownsRow w.heap.size 5 1 (.slice A bs.length c) bs.length (bs.map byteV) ∧ Below w.heap.size w w'

end Go.Proofs.YtbmdepbmejnlkaaDoor
