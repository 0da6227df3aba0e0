/-
  Contracts of tape.Sync and tape.Crash, their references, and sameTape.
-/
import Derived.Test.YtbmdepbmejnlkaaDoorRows
import Derived.Test.YtbmdepbmejnlkaaDoorBA
import Derived.Test.YtbmdepbmejnlkaaDoorTapeA
namespace Go.Proofs.YtbmdepbmejnlkaaDoor
open Go.ChangeShapes Go.WideShapes Go.ChangeAt Go.RowKit
set_option maxRecDepth 100000
def RetTapeE (w : World) (bs : List UInt8) (sy er : Int) (e : Ending) (w' : World) : Prop :=
  ∃ A c, e = .returned (.tuple #[tapeV A bs.length c sy, .int .i64 er]) ∧ w'.ownsRow w.heap.size 5 1 (.slice A bs.length c) bs.length (bs.map byteV) ∧ Below w.heap.size w w'

/-- A slice of slices of bytes. -/
def Bss (w : World) (A : Option Addr) (bss : List (List UInt8)) : Prop :=
  ∃ vs, Sl (· < w.heap.size) w 1 A bss.length vs ∧ ∀ i, i < bss.length → ∃ Ai ci, vs[i]? = some (.slice Ai (bss.getD i []).length ci) ∧ Sl (· < w.heap.size) w 1 Ai (bss.getD i []).length ((bss.getD i []).map byteV)
theorem flat_take (bss : List (List UInt8)) (i : Nat) (h : i < bss.length) : (bss.take (i + 1)).flatten = (bss.take i).flatten ++ bss.getD i [] := by
  rw [List.take_succ_eq_append_getElem h, List.flatten_append]
  simp [List.getD_eq_getElem?_getD, List.getElem?_eq_getElem h]
theorem flat_le (bss : List (List UInt8)) (i : Nat) : (bss.take i).flatten.length ≤ bss.flatten.length := by
  have h : bss.flatten = (bss.take i).flatten ++ (bss.drop i).flatten := by rw [← List.flatten_append, List.take_append_drop]
  rw [h]
  simp
theorem take_more (l : List UInt8) (k : Nat) (h : k < l.length) : l.take (k + 1) = l.take k ++ [l.getD k 0] := by
  rw [List.take_succ_eq_append_getElem h]
  simp [List.getD_eq_getElem?_getD, List.getElem?_eq_getElem h]
end Go.Proofs.YtbmdepbmejnlkaaDoor
