/-
  Contract of the reference's LinkSent.
-/
import Derived.Test.YtieofljkgmkaiaaDoorRows
import Derived.Test.YtieofljkgmkaiaaDoorFilled
import Derived.Test.YtieofljkgmkaiaaDoorLinkF
namespace Go.Proofs.YtieofljkgmkaiaaDoor
open Go.ChangeShapes Go.WideShapes Go.ChangeAt Go.RowKit
set_option maxRecDepth 100000
set_option maxHeartbeats 1000000 in
theorem LinkCopyO_c (w : World) (l : LinkV) (hi : l.In w) (hm : l.Small) : Calls Tryd.prog 15 #[l.val] w (RetOwn w l.d) := by
  obtain ⟨e, n, sA, sc, s, qA, qc, q, h⟩ := l
  have H1 := Lib.hid (fun W hs => framesCopy_c W sA sc s hs hm.sl (fun f hf => (hm.s f hf).op.len))
  have H2 := Lib.hid (fun W hs => framesCopy_c W qA qc q hs hm.ql (fun f hf => (hm.q f hf).op.len))
  have HI := Lib.hid hi
  (try dsimp only at *)
  clear hi hm
  go_enter Tryd.func15, Tryd.ntmps15
  go_wp2_with (refine stop_at ?_)
  refine ⟨?_⟩
  go_region_held3 (fun w' => w'.cell? ⟨w.heap.size, 0, none⟩ = some (.int .i64 e) ∧ w'.cell? ⟨w.heap.size, 1, none⟩ = some (.int .i64 n) ∧ w'.cell? ⟨w.heap.size, 2, none⟩ = some (.slice sA s.length sc) ∧ w'.cell? ⟨w.heap.size, 3, none⟩ = some (.slice qA q.length qc) ∧ w'.cell? ⟨w.heap.size, 4, none⟩ = some (.int .i64 h))
    (go_keep)
    ((first
      | (go_at_call 54; (with_reducible refine (H1.out _ ?_).mono ?_); exact HI.out.s.later (by repeat (first | exact Below.refl _ _ | apply bGrow | apply bAlloc | apply Below.drew | apply bDrewN | apply bIter)); rintro r w2 ⟨A2, c2, L2, rfl, hd2, ho2, hb2⟩; obtain ⟨⟨d2, os2⟩, rfl⟩ := beyond_of hb2)
      | (go_at_call 54; (with_reducible refine (H2.out _ ?_).mono ?_); exact HI.out.q.later (by repeat (first | exact Below.refl _ _ | apply bGrow | apply bAlloc | apply Below.drew | apply bDrewN | apply bIter)); rintro r w3 ⟨A3, c3, L3, rfl, hd3, ho3, hb3⟩; obtain ⟨⟨d3, os3⟩, rfl⟩ := beyond_of hb3)))
  all_goals (
    go_wp2_with fail
    refine bodyPost_ret (v := (⟨e, n, A2, c2, L2, A3, c3, L3, h⟩ : LinkV).val) (by simp [results, Tryd.results15, go_sem]) rfl ?_
    refine ⟨⟨e, n, A2, c2, L2, A3, c3, L3, h⟩, _, rfl, by simp only [LinkV.d, hd2, hd3], ⟨?_, ?_⟩, FramesTo.kept ((FramesTo.of ho2)) ?_ ?_ |>.mono ?_, RowOwn.kept ho3 ?_ fun b hb hl => ?_, (by repeat (first | exact Below.refl _ _ | apply bGrow | apply bAlloc | apply Below.drew | apply bDrewN | apply bIter))⟩
    · simp [Go.Sort.grow]
    · simp [Go.Sort.grow]
    · simp [Go.Sort.grow]
    · intro b hb hl
      exact ((below_regrown _ d3 os3).block b (by simpa [Go.Sort.grow] using hl)).trans (grow_tail _ _ d2 os2 (by simp) (by simpa using hb))
    · simp
    · simp [Go.Sort.grow]
    · exact grow_tail _ _ d3 os3 (by simp [Go.Sort.grow]) hb)
section
variable (w : World) (l : LinkV) (f : FrameV) (hT : Tabs w) (hi : l.In w) (hm : l.Small) (hf : OpIn (· < w.heap.size) w f.o.A f.o.ps) (hfm : f.Small)
include hT hi hm
theorem Sent_state (hk : ¬ linkMay l) : Calls Tryd.prog 20 #[l.val, frameV f.k f.h f.e f.o.A f.o.ps.length f.o.c f.s] w (RetSend w zeroL.d [] 9) := by
  have HC := Lib.hid (fun W hT hi => LinkMay_c W l hT hi hm)
  rw [decide_eq_false hk] at HC
  have HI := Lib.hid hi
  have HT := Lib.hid hT
  clear hi hT hm
  obtain ⟨e, n, sA, sc, s, qA, qc, q, h⟩ := l
  obtain ⟨fk, fh, fe, ⟨fA, fc, fp⟩, fs⟩ := f
  go_enter Tryd.func20, Tryd.ntmps20
  go_wp2_with fail
  refine (HC.out _ (HT.out.later (by repeat (first | exact Below.refl _ _ | apply bGrow | apply bAlloc | apply Below.drew | apply bDrewN | apply bIter))) (HI.out.later (by repeat (first | exact Below.refl _ _ | apply bGrow | apply bAlloc | apply Below.drew | apply bDrewN | apply bIter)))).mono ?_
  rintro r w1 ⟨rfl, hb1⟩
  obtain ⟨⟨d1, os1⟩, rfl⟩ := beyond_of hb1
  go_wp2_with fail
  refine bodyPost_ret (v := .tuple #[zeroL.val, .slice none 0 0, .int .i64 9]) (by simp [results, Tryd.results20, go_sem]) rfl ?_
  exact ⟨zeroL, none, 0, [], rfl, rfl, rfl, zero_in _, PacketsIn.nil _, (by repeat (first | exact Below.refl _ _ | apply bGrow | apply bAlloc | apply Below.drew | apply bDrewN | apply bIter))⟩
theorem Sent_away (hk : linkMay l) (h0 : l.e = 0) : Calls Tryd.prog 20 #[l.val, frameV f.k f.h f.e f.o.A f.o.ps.length f.o.c f.s] w (RetSend w zeroL.d [] 12) := by
  have HC := Lib.hid (fun W hT hi => LinkMay_c W l hT hi hm)
  rw [decide_eq_true hk] at HC
  have HI := Lib.hid hi
  have HT := Lib.hid hT
  clear hi hT hm hk
  obtain ⟨e, n, sA, sc, s, qA, qc, q, h⟩ := l
  obtain ⟨fk, fh, fe, ⟨fA, fc, fp⟩, fs⟩ := f
  dsimp only at h0
  subst h0
  go_enter Tryd.func20, Tryd.ntmps20
  go_wp2_with fail
  refine (HC.out _ (HT.out.later (by repeat (first | exact Below.refl _ _ | apply bGrow | apply bAlloc | apply Below.drew | apply bDrewN | apply bIter))) (HI.out.later (by repeat (first | exact Below.refl _ _ | apply bGrow | apply bAlloc | apply Below.drew | apply bDrewN | apply bIter)))).mono ?_
  rintro r w1 ⟨rfl, hb1⟩
  obtain ⟨⟨d1, os1⟩, rfl⟩ := beyond_of hb1
  go_wp2_with fail
  refine bodyPost_ret (v := .tuple #[zeroL.val, .slice none 0 0, .int .i64 12]) (by simp [results, Tryd.results20, go_sem]) rfl ?_
  exact ⟨zeroL, none, 0, [], rfl, rfl, rfl, zero_in _, PacketsIn.nil _, (by repeat (first | exact Below.refl _ _ | apply bGrow | apply bAlloc | apply Below.drew | apply bDrewN | apply bIter))⟩
include hf hfm
theorem Sent_fault (hk : linkMay l) (h0 : l.e ≠ 0) (er : Int) (he : frameFault f.d = er) (h1 : er ≠ 0) : Calls Tryd.prog 20 #[l.val, frameV f.k f.h f.e f.o.A f.o.ps.length f.o.c f.s] w (RetSend w zeroL.d [] er) := by
  have HC := Lib.hid (fun W hT hi => LinkMay_c W l hT hi hm)
  rw [decide_eq_true hk] at HC
  have HF := Lib.hid (fun W hT hs => FrameFault_c W f.k f.h f.e f.o.A f.o.c f.o.ps f.s hT hs hfm.op.len hfm.op.text hfm.text)
  rw [show frameFault ⟨f.k, f.h, f.e, f.o.ps, f.s⟩ = er from he] at HF
  have HI := Lib.hid hi
  have HT := Lib.hid hT
  have HO := Lib.hid hf
  have e0 : (l.e == 0) = false := by simpa using h0
  have e1 : (er != 0) = true := by simpa using h1
  have e2 : (er == 0) = false := by simpa using h1
  clear hi hT hm hk hf hfm he h0 h1
  obtain ⟨e, n, sA, sc, s, qA, qc, q, h⟩ := l
  obtain ⟨fk, fh, fe, ⟨fA, fc, fp⟩, fs⟩ := f
  dsimp only at *
  go_enter Tryd.func20, Tryd.ntmps20
  go_wp2_with fail
  refine (HC.out _ (HT.out.later (by repeat (first | exact Below.refl _ _ | apply bGrow | apply bAlloc | apply Below.drew | apply bDrewN | apply bIter))) (HI.out.later (by repeat (first | exact Below.refl _ _ | apply bGrow | apply bAlloc | apply Below.drew | apply bDrewN | apply bIter)))).mono ?_
  rintro r w1 ⟨rfl, hb1⟩
  obtain ⟨⟨d1, os1⟩, rfl⟩ := beyond_of hb1
  go_wp2_with fail
  refine (HF.out _ (HT.out.later (by repeat (first | exact Below.refl _ _ | apply bGrow | apply bAlloc | apply Below.drew | apply bDrewN | apply bIter))) (Sl.later HO.out (by repeat (first | exact Below.refl _ _ | apply bGrow | apply bAlloc | apply Below.drew | apply bDrewN | apply bIter)))).mono ?_
  rintro r w2 ⟨rfl, hb2⟩
  obtain ⟨⟨d2, os2⟩, rfl⟩ := beyond_of hb2
  go_wp2_with fail
  refine bodyPost_ret (v := .tuple #[zeroL.val, .slice none 0 0, .int .i64 er]) (by simp [results, Tryd.results20, go_sem]) rfl ?_
  exact ⟨zeroL, none, 0, [], rfl, rfl, rfl, zero_in _, PacketsIn.nil _, (by repeat (first | exact Below.refl _ _ | apply bGrow | apply bAlloc | apply Below.drew | apply bDrewN | apply bIter))⟩
theorem Sent_full (hk : linkMay l) (h0 : l.e ≠ 0) (he : frameFault f.d = 0) (h1 : l.n = 1048576) : Calls Tryd.prog 20 #[l.val, frameV f.k f.h f.e f.o.A f.o.ps.length f.o.c f.s] w (RetSend w zeroL.d [] 8) := by
  have HC := Lib.hid (fun W hT hi => LinkMay_c W l hT hi hm)
  rw [decide_eq_true hk] at HC
  have HF := Lib.hid (fun W hT hs => FrameFault_c W f.k f.h f.e f.o.A f.o.c f.o.ps f.s hT hs hfm.op.len hfm.op.text hfm.text)
  rw [show frameFault ⟨f.k, f.h, f.e, f.o.ps, f.s⟩ = 0 from he] at HF
  have HI := Lib.hid hi
  have HT := Lib.hid hT
  have HO := Lib.hid hf
  have e0 : (l.e == 0) = false := by simpa using h0
  clear hi hT hm hk hf hfm he h0
  obtain ⟨e, n, sA, sc, s, qA, qc, q, h⟩ := l
  obtain ⟨fk, fh, fe, ⟨fA, fc, fp⟩, fs⟩ := f
  dsimp only at *
  subst h1
  go_enter Tryd.func20, Tryd.ntmps20
  go_wp2_with fail
  refine (HC.out _ (HT.out.later (by repeat (first | exact Below.refl _ _ | apply bGrow | apply bAlloc | apply Below.drew | apply bDrewN | apply bIter))) (HI.out.later (by repeat (first | exact Below.refl _ _ | apply bGrow | apply bAlloc | apply Below.drew | apply bDrewN | apply bIter)))).mono ?_
  rintro r w1 ⟨rfl, hb1⟩
  obtain ⟨⟨d1, os1⟩, rfl⟩ := beyond_of hb1
  go_wp2_with fail
  refine (HF.out _ (HT.out.later (by repeat (first | exact Below.refl _ _ | apply bGrow | apply bAlloc | apply Below.drew | apply bDrewN | apply bIter))) (Sl.later HO.out (by repeat (first | exact Below.refl _ _ | apply bGrow | apply bAlloc | apply Below.drew | apply bDrewN | apply bIter)))).mono ?_
  rintro r w2 ⟨rfl, hb2⟩
  obtain ⟨⟨d2, os2⟩, rfl⟩ := beyond_of hb2
  go_wp2_with fail
  refine bodyPost_ret (v := .tuple #[zeroL.val, .slice none 0 0, .int .i64 8]) (by simp [results, Tryd.results20, go_sem]) rfl ?_
  exact ⟨zeroL, none, 0, [], rfl, rfl, rfl, zero_in _, PacketsIn.nil _, (by repeat (first | exact Below.refl _ _ | apply bGrow | apply bAlloc | apply Below.drew | apply bDrewN | apply bIter))⟩
end
end Go.Proofs.YtieofljkgmkaiaaDoor
