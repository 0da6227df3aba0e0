/-
  The laws' sameOp, where both read as the same parts; what an operation is appended with.
-/
import Derived.Test.YtbmdepbmejnlkaaDoorRows
import Derived.Test.YtbmdepbmejnlkaaDoorOps
namespace Go.Proofs.YtbmdepbmejnlkaaDoor
open Go.ChangeShapes Go.WideShapes Go.ChangeAt Go.RowKit
set_option maxRecDepth 100000
theorem infoPart : (Tryd.prog.info? 90).map (fun i => (i.zero, i.size, i.bytes)) = some (some (.agg #[.int .i64 0, .int .i64 0, .string ⟨#[]⟩]), 3, 32) := by kernel_rfl
theorem part_one : ∀ (ps : List PartD), ∀ u ∈ opCells ps, u.oneCell' = true := by
  intro ps u hu
  obtain ⟨p, _, h⟩ := List.mem_flatMap.1 hu
  simp only [PartD.cells, List.mem_cons, List.not_mem_nil, or_false] at h
  rcases h with rfl | rfl | rfl <;> rfl
/-- A call that hands back these parts in memory of its own. -/
def RetOp (w : World) (ps : List PartD) (e : Ending) (w' : World) : Prop :=
  ∃ A c, e = .returned (.slice A ps.length c) ∧ w'.ownsRow w.heap.size 90 3 (.slice A ps.length c) ps.length (opCells ps) ∧ Below w.heap.size w w'
theorem sameOp_c (w : World) (A A' : Option Addr) (c c' : Nat) (ps : List PartD) (hs : OpIn (· < w.heap.size) w A ps) (hs' : OpIn (· < w.heap.size) w A' ps) (hm : ps.length ≤ 1048576) :
    Calls Tryd.prog 18 #[.slice A ps.length c, .slice A' ps.length c'] w fun e w' => e = .returned (.bool true) ∧ Below w.heap.size w w' := by
  have HS := Lib.hid hs
  have HS' := Lib.hid hs'
  clear hs hs'
  go_enter Tryd.func18, Tryd.ntmps18
  go_wp2_with fail
  go_loopw [4, 5] (fun r i wr => ∃ (k : Nat), k ≤ ps.length ∧ i = .int .i64 k ∧ r = .bool false ∧ Below w.heap.size w wr) (fun _ i _ => ps.length - (intOf i).toNat)
  case atStart => exact ⟨0, Nat.zero_le _, rfl, rfl, Below.refl _ _⟩
  case round =>
    obtain ⟨k, hk, rfl, rfl, hbw⟩ := hrel
    by_cases hlt : k < ps.length
    · obtain ⟨b, o, rfl, hbs, h0, h1, h2⟩ := OpIn.at_ (ps := ps) (Sl.later HS.out hbw) hlt
      obtain ⟨b', o', rfl, hbs', g0, g1, g2⟩ := OpIn.at_ (ps := ps) (Sl.later HS'.out hbw) hlt
      generalize ps[k] = p at *
      obtain ⟨kd, pn, tx⟩ := p
      dsimp only at *
      go_wp2_with fail
      go_quiet (fail)
      go_wp2_with fail
      go_roundw
      case rel => exact ⟨k + 1, by omega, by go_num, rfl, (by repeat (first | exact hbw | exact Below.refl _ _ | apply bGrow | apply bAlloc | apply Below.drew | apply bDrewN | apply bIter))⟩
      case measure => simp [intOf]; omega
    · obtain rfl : k = ps.length := by omega
      go_wp2_with fail
      go_ret
      exact ⟨rfl, (by repeat (first | exact hbw | exact Below.refl _ _ | apply bGrow | apply bAlloc | apply Below.drew | apply bDrewN | apply bIter))⟩
end Go.Proofs.YtbmdepbmejnlkaaDoor
