/-
  Contract of the reference's OpCopy.
-/
import Derived.Test.YtbmdepbmejnlkaaDoorRows
import Derived.Test.YtbmdepbmejnlkaaDoorSame
namespace Go.Proofs.YtbmdepbmejnlkaaDoor
open Go.ChangeShapes Go.WideShapes Go.ChangeAt Go.RowKit
set_option maxRecDepth 100000
theorem opCells_snocA (rs : List PartD) (p : PartD) : opCells (rs ++ [p]) = opCells rs ++ p.cells := by simp [opCells]
set_option maxHeartbeats 1000000 in
theorem OpCopy_c (w : World) (A : Option Addr) (c : Nat) (ps : List PartD) (hs : OpIn (· < w.heap.size) w A ps) (hm : ps.length ≤ 1048576) :
    Calls Tryd.prog 14 #[.slice A ps.length c] w (RetOp w ps) := by
  obtain ⟨i0, hi, hz0, hz1, hz2⟩ := info_parts infoPart
  go_enter Tryd.func14, Tryd.ntmps14
  go_wp2_with fail
  go_loopw [3, 4] (fun out i wr => ∃ (k : Nat) (Ao : Option Addr) (co : Nat), k ≤ ps.length ∧ i = .int .i64 k ∧ out = .slice Ao k co ∧ wr.ownsRow w.heap.size 90 3 (.slice Ao k co) k (opCells (ps.take k)) ∧ Below w.heap.size w wr)
    (fun _ i _ => ps.length - (intOf i).toNat)
  case atStart => exact ⟨0, none, 0, Nat.zero_le _, rfl, rfl, World.ownsRow_nil _ _ _ _, Below.refl _ _⟩
  case round =>
    obtain ⟨k, Ao, co, hk, rfl, rfl, hown, hbw⟩ := hrel
    by_cases hlt : k < ps.length
    · obtain ⟨b, o, rfl, hbs, h0, h1, h2⟩ := OpIn.at_ (ps := ps) (Sl.later hs hbw) hlt
      have HL := Lib.hid (show opCells (ps.take (k + 1)) = opCells (ps.take k) ++ (ps[k]).cells by rw [List.take_succ_eq_append_getElem hlt, opCells_snocA])
      generalize ps[k] = p at *
      obtain ⟨kd, pn, tx⟩ := p
      dsimp only at *
      have HX := Lib.hid (hown.alloc (.cells #[.int .i64 kd, .int .i64 pn, .string tx] 90))
      have HS := Lib.hid (Sl.new (S := fun _ => True) wr [.int .i64 kd, .int .i64 pn, .string tx] 90 3 1 rfl trivial)
      go_wp2_with (at_builtin; refine wpList_append_sl _ rfl _ _ 43 rfl w.heap.size 90 i0 (.agg #[.int .i64 0, .int .i64 0, .string ⟨#[]⟩]) 3 32 Tryd.underlying43 hi hz0 hz1 hz2 rfl (by decide) _ _ _ rfl HX.out _ _ _ _ _ rfl HS.out ?c1 ?c2 ?c3 ?c4 ?_)
      case c1 => simp [Value.oneCell']
      case c2 => unfold maxLen; omega
      case c3 => omega
      case c4 => have := hbw.size; simp; omega
      intro A' c' w1 hown' hgrow hat
      go_wp2_with fail
      go_roundw
      case rel => exact ⟨k + 1, A', c', by omega, by go_num, rfl, by rw [HL.out]; exact hown', (bAlloc hbw _).grown hgrow (by have := hbw.size; simp; omega) (fun g hg => (hown.lt g hg).1)⟩
      case measure => simp [intOf]; omega
    · obtain rfl : k = ps.length := by omega
      rw [List.take_length] at hown
      go_wp2_with fail
      go_ret
      exact ⟨Ao, co, rfl, hown, hbw⟩
end Go.Proofs.YtbmdepbmejnlkaaDoor
