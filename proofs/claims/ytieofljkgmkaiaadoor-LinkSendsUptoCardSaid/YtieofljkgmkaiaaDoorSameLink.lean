/-
  The laws' sameFrames and sameLink, where both say the same.
-/
import Derived.Test.YtieofljkgmkaiaaDoorRows
import Derived.Test.YtieofljkgmkaiaaDoorLinkCopy
import Derived.Test.YtieofljkgmkaiaaDoorStop
namespace Go.Proofs.YtieofljkgmkaiaaDoor
open Go.ChangeShapes Go.WideShapes Go.ChangeAt Go.RowKit
set_option maxRecDepth 100000
set_option maxHeartbeats 1000000 in
theorem sameFrames_c (w : World) (A A' : Option Addr) (c c' n : Nat) (L L' : List FrameV) (hs : FramesIn w A L) (hs' : FramesIn w A' L') (hp : L'.map FrameV.d = L.map FrameV.d) (hn : L.length = n) (hm : n ≤ 1048577) (hl : ∀ f ∈ L, f.o.ps.length ≤ 1048576) :
    Calls Tryd.prog 63 #[.slice A n c, .slice A' n c'] w fun e w' => e = .returned (.bool true) ∧ Below w.heap.size w w' := by
  have hn' : L'.length = n := by rw [← hn, ← List.length_map (f := FrameV.d), hp, List.length_map]
  have HS := Lib.hid hs
  have HS' := Lib.hid hs'
  have HL := Lib.hid hl
  have HN := Lib.hid hn
  have HN' := Lib.hid hn'
  have HE := Lib.hid hp
  clear hs hs' hl hn hn' hp
  go_enter Tryd.func63, Tryd.ntmps63
  go_wp2_with fail
  go_loopw [4, 5] (fun r i wr => ∃ (k : Nat), k ≤ n ∧ i = .int .i64 k ∧ r = .bool false ∧ Below w.heap.size w wr) (fun _ i _ => n - (intOf i).toNat)
  case atStart => exact ⟨0, Nat.zero_le _, rfl, rfl, Below.refl _ _⟩
  case round =>
    obtain ⟨k, hk, rfl, rfl, hbw⟩ := hrel
    by_cases hlt : k < n
    · obtain ⟨b, o, rfl, hbs, g0, g1, g2, g3, g4, hop⟩ := (HS.out.later hbw).at_ (k := k) (by rw [HN.out]; exact hlt)
      obtain ⟨b', o', rfl, hbs', g0', g1', g2', g3', g4', hop'⟩ := (HS'.out.later hbw).at_ (k := k) (by rw [HN'.out]; exact hlt)
      have he := d_at HE.out (i := k) (by rw [HN.out]; exact hlt) (by rw [HN'.out]; exact hlt)
      have hlen := HL.out _ (List.getElem_mem (show k < L.length by rw [HN.out]; exact hlt))
      generalize L[k]'(by rw [HN.out]; exact hlt) = q at *
      generalize L'[k]'(by rw [HN'.out]; exact hlt) = q' at *
      obtain ⟨fk, fh, fe, ⟨qA, qc, qp⟩, fs⟩ := q
      obtain ⟨fk', fh', fe', ⟨qA', qc', qp'⟩, fs'⟩ := q'
      dsimp only at *
      simp only [FrameV.d, FrameD.mk.injEq] at he
      obtain ⟨rfl, rfl, rfl, rfl, rfl⟩ := he
      have HC := Lib.hid (fun W h h' => sameFrame_c W fk' fh' fe' qA qA' qc qc' qp' fs' h h' hlen)
      have HP := Lib.hid hop
      have HP' := Lib.hid hop'
      clear hop hop' hlen
      go_wp2_with fail
      go_region_law (first
        | (go_simp; go_at_call 37; refine (HC.out _ ?_ ?_).mono ?_; exact HP.out; exact HP'.out; rintro e w2 ⟨rfl, hb2⟩; obtain ⟨⟨d2, os2⟩, rfl⟩ := beyond_of hb2))
      all_goals (
        have HB2 := Lib.hid (show Below wr.heap.size wr (Go.Sort.grow (redrawn wr d2) os2) from ⟨hb2.os, hb2.tape, hb2.output, hb2.size, hb2.block⟩)
        clear hb2
        go_wp2_with fail
        go_roundw
        case rel => exact ⟨k + 1, by omega, by go_num, rfl, bThen hbw HB2.out⟩
        case measure => simp [intOf]; omega)
    · obtain rfl : k = n := by omega
      go_wp2_with fail
      go_ret
      exact ⟨rfl, (by repeat (first | exact hbw | exact Below.refl _ _ | apply bGrow | apply bAlloc | apply Below.drew | apply bDrewN | apply bIter))⟩
set_option maxHeartbeats 1000000 in
theorem sameLink_c (w : World) (l l' : LinkV) (hi : l.In w) (hi' : l'.In w) (hd : l'.d = l.d) (hl : l.s.length ≤ 1048577 ∧ l.q.length ≤ 1048577) (hm : (∀ f ∈ l.s, f.o.ps.length ≤ 1048576) ∧ ∀ f ∈ l.q, f.o.ps.length ≤ 1048576) :
    Calls Tryd.prog 21 #[l.val, l'.val] w fun e w' => e = .returned (.bool true) ∧ Below w.heap.size w w' := by
  obtain ⟨e, n, sA, sc, s, qA, qc, q, h⟩ := l
  obtain ⟨e', n', sA', sc', s', qA', qc', q', h'⟩ := l'
  simp only [LinkV.d, LinkD.mk.injEq] at hd
  obtain ⟨rfl, rfl, h1, h2, rfl⟩ := hd
  have l1 : s'.length = s.length := by rw [← List.length_map (f := FrameV.d), h1, List.length_map]
  have l2 : q'.length = q.length := by rw [← List.length_map (f := FrameV.d), h2, List.length_map]
  have H1 := Lib.hid (fun W g g' => sameFrames_c W sA sA' sc sc' s.length s s' g g' h1 rfl hl.1 hm.1)
  have H2 := Lib.hid (fun W g g' => sameFrames_c W qA qA' qc qc' q.length q q' g g' h2 rfl hl.2 hm.2)
  have HI := Lib.hid hi
  have HI' := Lib.hid hi'
  have hv : (LinkV.val ⟨e', n', sA', sc', s', qA', qc', q', h'⟩) = .agg #[.int .i64 e', .int .i64 n', .slice sA' s.length sc', .slice qA' q.length qc', .int .i64 h'] := by
    dsimp only [LinkV.val]
    rw [l1, l2]
  rw [hv]
  clear hi hi' h1 h2 l1 l2 hl hm hv
  go_enter Tryd.func21, Tryd.ntmps21
  go_wp2_with fail
  refine (H1.out _ (HI.out.s.later (by repeat (first | exact Below.refl _ _ | apply bGrow | apply bAlloc | apply Below.drew | apply bDrewN | apply bIter))) (HI'.out.s.later (by repeat (first | exact Below.refl _ _ | apply bGrow | apply bAlloc | apply Below.drew | apply bDrewN | apply bIter)))).mono ?_
  rintro r w1 ⟨rfl, hb1⟩
  obtain ⟨⟨d1, os1⟩, rfl⟩ := beyond_of hb1
  go_wp2_with fail
  refine (H2.out _ (HI.out.q.later (by repeat (first | exact Below.refl _ _ | apply bGrow | apply bAlloc | apply Below.drew | apply bDrewN | apply bIter))) (HI'.out.q.later (by repeat (first | exact Below.refl _ _ | apply bGrow | apply bAlloc | apply Below.drew | apply bDrewN | apply bIter)))).mono ?_
  rintro r w2 ⟨rfl, hb2⟩
  obtain ⟨⟨d2, os2⟩, rfl⟩ := beyond_of hb2
  go_wp2_with fail
  go_ret
  exact ⟨by simp, (by repeat (first | exact Below.refl _ _ | apply bGrow | apply bAlloc | apply Below.drew | apply bDrewN | apply bIter))⟩
end Go.Proofs.YtieofljkgmkaiaaDoor
