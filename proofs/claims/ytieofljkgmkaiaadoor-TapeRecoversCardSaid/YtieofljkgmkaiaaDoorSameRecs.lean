/-
  The laws' sameRecords, where both read as the same records.
-/
import Derived.Test.YtieofljkgmkaiaaDoorRows
import Derived.Test.YtieofljkgmkaiaaDoorRecV
import Derived.Test.YtieofljkgmkaiaaDoorSame
import Derived.Test.YtieofljkgmkaiaaDoorScan
import Derived.Test.YtieofljkgmkaiaaDoorStop
namespace Go.Proofs.YtieofljkgmkaiaaDoor
open Go.ChangeShapes Go.WideShapes Go.ChangeAt Go.RowKit
set_option maxRecDepth 100000
abbrev RecV.key (r : RecV) : Int × List PartD := (r.ep, r.o.ps)
set_option maxHeartbeats 1000000 in
theorem sameRecords_c (w : World) (A A' : Option Addr) (c c' n : Nat) (L L' : List RecV) (hs : RecsIn w A L) (hs' : RecsIn w A' L') (hp : L'.map RecV.key = L.map RecV.key) (hn : L.length = n) (hm : n ≤ 8388608) (hl : ∀ r ∈ L, r.o.ps.length ≤ 1048576) :
    Calls Tryd.prog 31 #[.slice A n c, .slice A' n c'] w fun e w' => e = .returned (.bool true) ∧ Below w.heap.size w w' := by
  have hn' : L'.length = n := by rw [← hn, ← List.length_map (f := RecV.key), hp, List.length_map]
  have HS := Lib.hid hs
  have HS' := Lib.hid hs'
  have HL := Lib.hid hl
  have HN := Lib.hid hn
  have HN' := Lib.hid hn'
  have HE := Lib.hid (show ∀ k (h : k < L.length) (h' : k < L'.length), L'[k].key = L[k].key from fun k h h' => by
    have := congrArg (fun l => l[k]?) hp
    simpa [h, h'] using this)
  clear hs hs' hl hn hn' hp
  go_enter Tryd.func31, Tryd.ntmps31
  go_wp2_with fail
  go_loopw [4, 5] (fun r i wr => ∃ (k : Nat), k ≤ n ∧ i = .int .i64 k ∧ r = .bool false ∧ Below w.heap.size w wr) (fun _ i _ => n - (intOf i).toNat)
  case atStart => exact ⟨0, Nat.zero_le _, rfl, rfl, Below.refl _ _⟩
  case round =>
    obtain ⟨k, hk, rfl, rfl, hbw⟩ := hrel
    by_cases hlt : k < n
    · obtain ⟨b, o, rfl, hbs, g0, g1, hop⟩ := (HS.out.later hbw).at_ (k := k) (by rw [HN.out]; exact hlt)
      obtain ⟨b', o', rfl, hbs', g0', g1', hop'⟩ := (HS'.out.later hbw).at_ (k := k) (by rw [HN'.out]; exact hlt)
      have he := HE.out k (by rw [HN.out]; exact hlt) (by rw [HN'.out]; exact hlt)
      have hlen := HL.out _ (List.getElem_mem (show k < L.length by rw [HN.out]; exact hlt))
      generalize L[k]'(by rw [HN.out]; exact hlt) = q at *
      generalize L'[k]'(by rw [HN'.out]; exact hlt) = q' at *
      obtain ⟨qe, qA, qc, qp⟩ := q
      obtain ⟨qe', qA', qc', qp'⟩ := q'
      unfold RecV.key at he
      dsimp only at *
      injection he with he1 he2
      subst he1
      subst he2
      have HC := Lib.hid (fun W h h' => sameOp_c W qA qA' qc qc' qp' h h' hlen)
      have HP := Lib.hid hop
      have HP' := Lib.hid hop'
      clear hop hop' hlen
      go_wp2_with (refine stop_at ?_)
      refine ⟨?_⟩
      go_region_held3 (fun w' => w'.cell? ⟨b, o + k * 2, none⟩ = some (.int .i64 qe') ∧ w'.cell? ⟨b', o' + k * 2, none⟩ = some (.int .i64 qe') ∧ w'.cell? ⟨b, o + k * 2 + 1, none⟩ = some (.slice qA qp'.length qc) ∧ w'.cell? ⟨b', o' + k * 2 + 1, none⟩ = some (.slice qA' qp'.length qc'))
        (go_keep)
        ((first
          | (go_at_call 25; refine (HC.out _ ?_ ?_).mono ?_; exact HP.out; exact HP'.out; rintro e w2 ⟨rfl, hb2⟩; obtain ⟨⟨d2, os2⟩, rfl⟩ := beyond_of hb2)))
      all_goals
        go_wp2_with fail
        go_roundw
        case rel => exact ⟨k + 1, by omega, by go_num, rfl, (by repeat (first | exact hbw | exact Below.refl _ _ | apply bGrow | apply bAlloc | apply Below.drew | apply bDrewN | apply bIter))⟩
        case measure => simp [intOf]; omega
    · obtain rfl : k = n := by omega
      go_wp2_with fail
      go_ret
      exact ⟨rfl, (by repeat (first | exact hbw | exact Below.refl _ _ | apply bGrow | apply bAlloc | apply Below.drew | apply bDrewN | apply bIter))⟩
end Go.Proofs.YtieofljkgmkaiaaDoor
