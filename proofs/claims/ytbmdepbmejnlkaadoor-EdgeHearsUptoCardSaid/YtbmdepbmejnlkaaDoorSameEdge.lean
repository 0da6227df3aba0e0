/-
  The laws' sameOps and sameEdge, where both read as the same operations.
-/
import Derived.Test.YtbmdepbmejnlkaaDoorRows
import Derived.Test.YtbmdepbmejnlkaaDoorEdgeA
import Derived.Test.YtbmdepbmejnlkaaDoorSame
namespace Go.Proofs.YtbmdepbmejnlkaaDoor
open Go.ChangeShapes Go.WideShapes Go.ChangeAt Go.RowKit
set_option maxRecDepth 100000
set_option maxHeartbeats 1000000 in
theorem sameOps_c (w : World) (A A' : Option Addr) (c c' n : Nat) (L L' : List OpV) (hs : OpsIn w A L) (hs' : OpsIn w A' L') (hp : L'.map OpV.ps = L.map OpV.ps) (hn : L.length = n) (hm : n ≤ 1048577) (hl : ∀ o ∈ L, o.ps.length ≤ 1048576) :
    Calls Tryd.prog 52 #[.slice A n c, .slice A' n c'] w fun e w' => e = .returned (.bool true) ∧ Below w.heap.size w w' := by
  have hn' : L'.length = n := by rw [← hn, ← List.length_map (f := OpV.ps), hp, List.length_map]
  have HS := Lib.hid hs
  have HS' := Lib.hid hs'
  have HL := Lib.hid hl
  have HN := Lib.hid hn
  have HN' := Lib.hid hn'
  have HE := Lib.hid (show ∀ k (h : k < L.length) (h' : k < L'.length), L'[k].ps = L[k].ps from fun k h h' => by
    have := congrArg (fun l => l[k]?) hp
    simpa [h, h'] using this)
  clear hs hs' hl hn hn' hp
  go_enter Tryd.func52, Tryd.ntmps52
  go_wp2_with fail
  go_loopw [4, 5] (fun r i wr => ∃ (k : Nat), k ≤ n ∧ i = .int .i64 k ∧ r = .bool false ∧ Below w.heap.size w wr) (fun _ i _ => n - (intOf i).toNat)
  case atStart => exact ⟨0, Nat.zero_le _, rfl, rfl, Below.refl _ _⟩
  case round =>
    obtain ⟨k, hk, rfl, rfl, hbw⟩ := hrel
    by_cases hlt : k < n
    · obtain ⟨b, o, rfl, hbs, g0, hop⟩ := (HS.out.later hbw).at_ (k := k) (by rw [HN.out]; exact hlt)
      obtain ⟨b', o', rfl, hbs', g0', hop'⟩ := (HS'.out.later hbw).at_ (k := k) (by rw [HN'.out]; exact hlt)
      have he := HE.out k (by rw [HN.out]; exact hlt) (by rw [HN'.out]; exact hlt)
      have hlen := HL.out _ (List.getElem_mem (show k < L.length by rw [HN.out]; exact hlt))
      generalize L[k]'(by rw [HN.out]; exact hlt) = q at *
      generalize L'[k]'(by rw [HN'.out]; exact hlt) = q' at *
      obtain ⟨qA, qc, qp⟩ := q
      obtain ⟨qA', qc', qp'⟩ := q'
      dsimp only at *
      subst he
      have HC := Lib.hid (fun W h h' => sameOp_c W qA qA' qc qc' qp' h h' hlen)
      have HP := Lib.hid hop
      have HP' := Lib.hid hop'
      clear hop hop' hlen
      go_wp2_with fail
      go_region_law (first
        | (go_simp; go_at_call 18; refine (HC.out _ ?_ ?_).mono ?_; exact HP.out; exact HP'.out; rintro e w2 ⟨rfl, hb2⟩; obtain ⟨⟨d2, os2⟩, rfl⟩ := beyond_of hb2))
      all_goals (
        have HB2 := Lib.hid (show Below wr.heap.size wr (Go.Sort.grow (redrawn wr d2) os2) from ⟨hb2.os, hb2.tape, hb2.output, hb2.size, hb2.block⟩)
        clear hb2
        go_wp2_with fail
        go_roundw
        case rel => exact ⟨k + 1, by omega, by go_num, rfl, bThen hbw HB2.out⟩
        case measure => simp [intOf]; omega)
    · obtain rfl : k = n := by omega
      go_wp2_with fail
      go_ret
      exact ⟨rfl, (by repeat (first | exact hbw | exact Below.refl _ _ | apply bGrow | apply bAlloc | apply Below.drew | apply bDrewN | apply bIter))⟩
theorem sameEdge_c (w : World) (s h : Int) (A A' : Option Addr) (c c' n : Nat) (L L' : List OpV) (hs : OpsIn w A L) (hs' : OpsIn w A' L') (hp : L'.map OpV.ps = L.map OpV.ps) (hn : L.length = n) (hm : n ≤ 1048577) (hl : ∀ o ∈ L, o.ps.length ≤ 1048576) :
    Calls Tryd.prog 17 #[edgeV s h A n c, edgeV s h A' n c'] w fun e w' => e = .returned (.bool true) ∧ Below w.heap.size w w' := by
  have HC := Lib.hid (fun W h h' => sameOps_c W A A' c c' n L L' h h' hp hn hm hl)
  have HS := Lib.hid hs
  have HS' := Lib.hid hs'
  clear hs hs' hp hl hn
  go_enter Tryd.func17, Tryd.ntmps17
  go_wp2_with fail
  refine (HC.out _ (HS.out.later (by repeat (first | exact Below.refl _ _ | apply bGrow | apply bAlloc | apply Below.drew | apply bDrewN | apply bIter))) (HS'.out.later (by repeat (first | exact Below.refl _ _ | apply bGrow | apply bAlloc | apply Below.drew | apply bDrewN | apply bIter)))).mono ?_
  rintro e w1 ⟨rfl, hb1⟩
  obtain ⟨⟨d1, os1⟩, rfl⟩ := beyond_of hb1
  go_wp2_with fail
  go_ret
  exact ⟨by simp, (by repeat (first | exact Below.refl _ _ | apply bGrow | apply bAlloc | apply Below.drew | apply bDrewN | apply bIter))⟩
end Go.Proofs.YtbmdepbmejnlkaaDoor
