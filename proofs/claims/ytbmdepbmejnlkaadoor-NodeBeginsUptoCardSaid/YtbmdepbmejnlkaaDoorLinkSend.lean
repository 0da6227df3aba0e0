/-
  Contract of link.Send.
-/
import Derived.Test.YtbmdepbmejnlkaaDoorRows
import Derived.Test.YtbmdepbmejnlkaaDoorLinkOwn
import Derived.Test.YtbmdepbmejnlkaaDoorTapeC
namespace Go.Proofs.YtbmdepbmejnlkaaDoor
open Go.ChangeShapes Go.WideShapes Go.ChangeAt Go.RowKit
set_option maxRecDepth 100000
/-- A link that was made in memory of the call's own, and then laid in a block. -/
theorem LinkSt.plain {w3 W : World} {B0 mid : Nat} {l : LinkV} (hS : FramesTo w3 B0 mid l.sA l.sc l.s) (hQ : FramesOwn w3 mid l.qA l.qc l.q) (hm : B0 ≤ mid ∧ mid ≤ w3.heap.size) (hW : Below w3.heap.size w3 W) (hX : LinkAt W w3.heap.size l) : LinkSt W B0 w3.heap.size l := by
  have hz := hW.size
  have hq : ∀ b, b < w3.heap.size → mid ≤ b → (Value.slice l.sA l.s.length l.sc).ownBlock ≠ some b := fun b _ h e1 => by have := hS.low b e1; omega
  refine ⟨hX, (OwnsAt.of_row hS.own.row).later hW, fun f hf => (hS.ops f hf).moved fun b hb => ⟨⟨⟨by omega, by omega⟩, by omega, hb.2⟩, hW.block b (by omega)⟩, ?_, fun f hf => (hQ.each f hf).moved fun b hb => ⟨⟨⟨by omega, by omega⟩, by omega, hq b hb.1.2 hb.1.1⟩, hW.block b hb.1.2⟩, (own_cap hQ.row).1, fun e1 => ?_⟩
  · exact (Sl.of_own _ hQ.row).moved fun b hb => ⟨⟨⟨by omega, by omega⟩, by omega, hq b hb.2 hb.1⟩, hW.block b hb.2⟩
  · have := hS.low _ e1
    omega
theorem LinkSt.make {w3 W2 w5 : World} {B0 mid : Nat} {e n h : Int} {sA qA A' : Option Addr} {sc qc c' : Nat} {s q : List FrameV} {f : FrameV} (hS : FramesTo w3 B0 mid sA sc s) (hQ : FramesOwn w3 mid qA qc q) (hm : B0 ≤ mid ∧ mid ≤ w3.heap.size) (hW : Below w3.heap.size w3 W2) (hX : LinkAt W2 w3.heap.size ⟨e, n, sA, sc, s, qA, qc, q, h⟩)
    (hf : OpIn (fun b => w3.heap.size < b ∧ b < W2.heap.size) W2 f.o.A f.o.ps) (hg : W2.grownBy w5 (Value.slice qA q.length qc).ownBlock)
    (hown : w5.ownsRow mid 83 5 (.slice A' (q.length + 1) c') (q.length + 1) (q.flatMap FrameV.cells ++ f.cells))
    (hat : (Value.slice A' (q.length + 1) c').ownBlock = (Value.slice qA q.length qc).ownBlock ∨ (Value.slice A' (q.length + 1) c').ownBlock = some W2.heap.size) :
    LinkSt (w5.setCell ⟨w3.heap.size, 3, none⟩ (.slice A' (q.length + 1) c')) B0 w3.heap.size ⟨e, n, sA, sc, s, A', c', q ++ [f], h⟩ := by
  have hz := hW.size
  have hXl : w3.heap.size < W2.heap.size := (five_cell hX).2.2.2.2.2.2.2.2.2.2
  have hz5 := hg.size
  have hlen : (q ++ [f]).length = q.length + 1 := by simp
  have hqX : (Value.slice qA q.length qc).ownBlock ≠ some w3.heap.size := fun e1 => by have := (hQ.row.lt _ e1).2; omega
  have hold : ∀ b, b < W2.heap.size → b ≠ w3.heap.size → (Value.slice qA q.length qc).ownBlock ≠ some b → (w5.setCell ⟨w3.heap.size, 3, none⟩ (.slice A' (q.length + 1) c')).heap[b]? = W2.heap[b]? := fun b hb hbX hne =>
    (Below.heap_setCell _ _ _ _ hbX).trans (hg.block b hb (fun e1 => hne e1.symm))
  have hsn : ∀ b, b < mid → (Value.slice qA q.length qc).ownBlock ≠ some b := fun b hb e1 => by have := (hQ.row.lt b e1).1; omega
  have hss : ∀ b, mid ≤ b → (Value.slice sA s.length sc).ownBlock ≠ some b := fun b hb e1 => by have := hS.low b e1; omega
  have hA5 : ∀ b, (Value.slice A' (q.length + 1) c').ownBlock = some b → mid ≤ b ∧ b < w5.heap.size := fun b e1 => hown.lt b e1
  have hzs : (w5.setCell ⟨w3.heap.size, 3, none⟩ (.slice A' (q.length + 1) c')).heap.size = w5.heap.size := by simp [World.setCell]
  have hAX : (Value.slice A' (q.length + 1) c').ownBlock ≠ some w3.heap.size := fun e1 => by
    rcases hat with h1 | h1
    · exact hqX (h1.symm.trans e1)
    · rw [h1] at e1
      injection e1 with e1
      omega
  refine ⟨?_, ?_, fun g hgm => ?_, ?_, fun g hgm => ?_, ?_, ?_⟩
  · show (w5.setCell ⟨w3.heap.size, 3, none⟩ (.slice A' (q.length + 1) c')).heap[w3.heap.size]? = _
    rw [show (LinkV.mk e n sA sc s A' c' (q ++ [f]) h).q.length = q.length + 1 from hlen]
    exact any_set 3 _ ((hg.block _ hXl (fun e1 => hqX e1.symm)).trans hX)
  · refine ((OwnsAt.of_row hS.own.row).later hW).kept (by rw [hzs]; exact hz5) fun g hgo => hold g ?_ ?_ (hsn g (hS.low g hgo))
    · have := hS.low g hgo
      omega
    · have := hS.low g hgo
      omega
  · exact (hS.ops g hgm).moved fun b hb => ⟨⟨⟨by omega, by rw [hzs]; omega⟩, by omega, hb.2⟩, (hold b (by omega) (by omega) (hsn b hb.1.2)).trans (hW.block b (by omega))⟩
  · show Sl _ _ 5 A' (q ++ [f]).length ((q ++ [f]).flatMap FrameV.cells)
    rw [hlen, List.flatMap_append]
    simp only [List.flatMap_cons, List.flatMap_nil, List.append_nil]
    have h1 := (OwnsAt.of_row hown).sl
    refine h1.moved fun b hb => ⟨⟨⟨by have := (hA5 b hb.1).1; omega, by rw [hzs]; exact hb.2⟩, fun e1 => hAX (by rw [← e1]; exact hb.1), hss b (hA5 b hb.1).1⟩, Below.heap_setCell _ _ _ _ (fun e1 => hAX ?_)⟩
    rw [hb.1]
    exact congrArg some e1
  · rcases List.mem_append.1 hgm with hgm | hgm
    · exact (hQ.each g hgm).moved fun b hb => ⟨⟨⟨by omega, by rw [hzs]; omega⟩, by omega, hss b hb.1.1⟩, (hold b (by omega) (by omega) hb.2).trans (hW.block b hb.1.2)⟩
    · obtain rfl : g = f := by simpa using hgm
      refine hf.moved fun b hb => ⟨⟨⟨by omega, by rw [hzs]; omega⟩, by omega, hss b (by omega)⟩, hold b hb.2 (by omega) (fun e1 => ?_)⟩
      have := (hQ.row.lt b e1).2
      omega
  · show (q ++ [f]).length ≤ c'
    rw [hlen]
    exact (own_cap hown).1
  · exact hss _ hm.2
theorem below_grown {w0 W w3 : World} {ob : Option Nat} (hg : W.grownBy w3 ob) (hb : Below w0.heap.size w0 W) (ho : ∀ g, ob = some g → w0.heap.size ≤ g) : Below w0.heap.size w0 w3 := Below.grown hb hg hb.size ho
theorem name_world {W w5 W4 : World} {ob : Option Nat} (hg : W.grownBy w5 ob) (hb : Below W4.heap.size W4 W) : ∃ WQ, WQ = W ∧ WQ.grownBy w5 ob ∧ Below W4.heap.size W4 WQ := ⟨W, rfl, hg, hb⟩
/-- A call that hands back a link, packets and an error. -/
def RetSend (w : World) (d : LinkD) (D : List PacketD) (er : Int) (e : Ending) (w' : World) : Prop :=
  ∃ (l : LinkV) (A : Option Addr) (c : Nat) (L : List PacketV), e = .returned (.tuple #[l.val, .slice A L.length c, .int .i64 er]) ∧ l.d = d ∧ L.map PacketV.d = D ∧ l.In w' ∧ PacketsIn w' A L ∧ Below w.heap.size w w'
theorem zero_in (w : World) : zeroL.In w := ⟨FramesIn.nil _, FramesIn.nil _⟩
/-- What Send answers beside the link. -/
def sendE (l : LinkV) (f : FrameD) : Int := if ¬ linkMay l then 9 else if l.e = 0 then 12 else if frameFault f ≠ 0 then frameFault f else if l.n = 1048576 then 8 else 0
/-- A frame waits. -/
def waitL (x : LinkD) (f : FrameD) : LinkD := ⟨x.e, x.n, x.s, x.q ++ [f], x.h⟩
section
variable (w : World) (l : LinkV) (f : FrameV) (hT : Tabs w) (hi : l.In w) (hm : l.Small) (hf : OpIn (· < w.heap.size) w f.o.A f.o.ps) (hfm : f.Small)
include hT hi hm
theorem Send_state (hk : ¬ linkMay l) : Calls Tryd.prog 93 #[l.val, frameV f.k f.h f.e f.o.A f.o.ps.length f.o.c f.s] w (RetSend w zeroL.d [] 9) := by
  have HC := Lib.hid (fun W hT hi => LinkCheck_c W l hT hi hm)
  rw [if_neg hk] at HC
  have HI := Lib.hid hi
  have HT := Lib.hid hT
  clear hi hT hm
  obtain ⟨e, n, sA, sc, s, qA, qc, q, h⟩ := l
  obtain ⟨fk, fh, fe, ⟨fA, fc, fp⟩, fs⟩ := f
  go_enter Tryd.func93, Tryd.ntmps93
  go_wp2_with fail
  refine (HC.out _ (HT.out.later (by repeat (first | exact Below.refl _ _ | apply bGrow | apply bAlloc | apply Below.drew | apply bDrewN | apply bIter))) (HI.out.later (by repeat (first | exact Below.refl _ _ | apply bGrow | apply bAlloc | apply Below.drew | apply bDrewN | apply bIter)))).mono ?_
  rintro r w1 ⟨rfl, hb1⟩
  obtain ⟨⟨d1, os1⟩, rfl⟩ := beyond_of hb1
  go_wp2_with fail
  refine bodyPost_ret (v := .tuple #[zeroL.val, .slice none 0 0, .int .i64 9]) (by simp [results, Tryd.results93, go_sem]) rfl ?_
  exact ⟨zeroL, none, 0, [], rfl, rfl, rfl, zero_in _, PacketsIn.nil _, (by repeat (first | exact Below.refl _ _ | apply bGrow | apply bAlloc | apply Below.drew | apply bDrewN | apply bIter))⟩
theorem Send_away (hk : linkMay l) (h0 : l.e = 0) : Calls Tryd.prog 93 #[l.val, frameV f.k f.h f.e f.o.A f.o.ps.length f.o.c f.s] w (RetSend w zeroL.d [] 12) := by
  have HC := Lib.hid (fun W hT hi => LinkCheck_c W l hT hi hm)
  rw [if_pos hk] at HC
  have HI := Lib.hid hi
  have HT := Lib.hid hT
  clear hi hT hm hk
  obtain ⟨e, n, sA, sc, s, qA, qc, q, h⟩ := l
  obtain ⟨fk, fh, fe, ⟨fA, fc, fp⟩, fs⟩ := f
  dsimp only at h0
  subst h0
  go_enter Tryd.func93, Tryd.ntmps93
  go_wp2_with fail
  refine (HC.out _ (HT.out.later (by repeat (first | exact Below.refl _ _ | apply bGrow | apply bAlloc | apply Below.drew | apply bDrewN | apply bIter))) (HI.out.later (by repeat (first | exact Below.refl _ _ | apply bGrow | apply bAlloc | apply Below.drew | apply bDrewN | apply bIter)))).mono ?_
  rintro r w1 ⟨rfl, hb1⟩
  obtain ⟨⟨d1, os1⟩, rfl⟩ := beyond_of hb1
  go_wp2_with fail
  refine bodyPost_ret (v := .tuple #[zeroL.val, .slice none 0 0, .int .i64 12]) (by simp [results, Tryd.results93, go_sem]) rfl ?_
  exact ⟨zeroL, none, 0, [], rfl, rfl, rfl, zero_in _, PacketsIn.nil _, (by repeat (first | exact Below.refl _ _ | apply bGrow | apply bAlloc | apply Below.drew | apply bDrewN | apply bIter))⟩
include hf hfm
theorem Send_fault (hk : linkMay l) (h0 : l.e ≠ 0) (er : Int) (he : frameFault f.d = er) (h1 : er ≠ 0) : Calls Tryd.prog 93 #[l.val, frameV f.k f.h f.e f.o.A f.o.ps.length f.o.c f.s] w (RetSend w zeroL.d [] er) := by
  have HC := Lib.hid (fun W hT hi => LinkCheck_c W l hT hi hm)
  rw [if_pos hk] at HC
  have HF := Lib.hid (fun W hT hs => CheckFrame_c W f.k f.h f.e f.o.A f.o.c f.o.ps f.s hT hs hfm.op.len hfm.op.text hfm.text)
  rw [show frameFault ⟨f.k, f.h, f.e, f.o.ps, f.s⟩ = er from he] at HF
  have HI := Lib.hid hi
  have HT := Lib.hid hT
  have HO := Lib.hid hf
  have e0 : (l.e == 0) = false := by simpa using h0
  have e1 : (er != 0) = true := by simpa using h1
  clear hi hT hm hk hf hfm he h0 h1
  obtain ⟨e, n, sA, sc, s, qA, qc, q, h⟩ := l
  obtain ⟨fk, fh, fe, ⟨fA, fc, fp⟩, fs⟩ := f
  dsimp only at *
  go_enter Tryd.func93, Tryd.ntmps93
  go_wp2_with fail
  refine (HC.out _ (HT.out.later (by repeat (first | exact Below.refl _ _ | apply bGrow | apply bAlloc | apply Below.drew | apply bDrewN | apply bIter))) (HI.out.later (by repeat (first | exact Below.refl _ _ | apply bGrow | apply bAlloc | apply Below.drew | apply bDrewN | apply bIter)))).mono ?_
  rintro r w1 ⟨rfl, hb1⟩
  obtain ⟨⟨d1, os1⟩, rfl⟩ := beyond_of hb1
  go_wp2_with fail
  refine (HF.out _ (HT.out.later (by repeat (first | exact Below.refl _ _ | apply bGrow | apply bAlloc | apply Below.drew | apply bDrewN | apply bIter))) (Sl.later HO.out (by repeat (first | exact Below.refl _ _ | apply bGrow | apply bAlloc | apply Below.drew | apply bDrewN | apply bIter)))).mono ?_
  rintro r w2 ⟨rfl, hb2⟩
  obtain ⟨⟨d2, os2⟩, rfl⟩ := beyond_of hb2
  go_wp2_with fail
  refine bodyPost_ret (v := .tuple #[zeroL.val, .slice none 0 0, .int .i64 er]) (by simp [results, Tryd.results93, go_sem]) rfl ?_
  exact ⟨zeroL, none, 0, [], rfl, rfl, rfl, zero_in _, PacketsIn.nil _, (by repeat (first | exact Below.refl _ _ | apply bGrow | apply bAlloc | apply Below.drew | apply bDrewN | apply bIter))⟩
theorem Send_full (hk : linkMay l) (h0 : l.e ≠ 0) (he : frameFault f.d = 0) (h1 : l.n = 1048576) : Calls Tryd.prog 93 #[l.val, frameV f.k f.h f.e f.o.A f.o.ps.length f.o.c f.s] w (RetSend w zeroL.d [] 8) := by
  have HC := Lib.hid (fun W hT hi => LinkCheck_c W l hT hi hm)
  rw [if_pos hk] at HC
  have HF := Lib.hid (fun W hT hs => CheckFrame_c W f.k f.h f.e f.o.A f.o.c f.o.ps f.s hT hs hfm.op.len hfm.op.text hfm.text)
  rw [show frameFault ⟨f.k, f.h, f.e, f.o.ps, f.s⟩ = 0 from he] at HF
  have HI := Lib.hid hi
  have HT := Lib.hid hT
  have HO := Lib.hid hf
  have e0 : (l.e == 0) = false := by simpa using h0
  clear hi hT hm hk hf hfm he h0
  obtain ⟨e, n, sA, sc, s, qA, qc, q, h⟩ := l
  obtain ⟨fk, fh, fe, ⟨fA, fc, fp⟩, fs⟩ := f
  dsimp only at *
  subst h1
  go_enter Tryd.func93, Tryd.ntmps93
  go_wp2_with fail
  refine (HC.out _ (HT.out.later (by repeat (first | exact Below.refl _ _ | apply bGrow | apply bAlloc | apply Below.drew | apply bDrewN | apply bIter))) (HI.out.later (by repeat (first | exact Below.refl _ _ | apply bGrow | apply bAlloc | apply Below.drew | apply bDrewN | apply bIter)))).mono ?_
  rintro r w1 ⟨rfl, hb1⟩
  obtain ⟨⟨d1, os1⟩, rfl⟩ := beyond_of hb1
  go_wp2_with fail
  refine (HF.out _ (HT.out.later (by repeat (first | exact Below.refl _ _ | apply bGrow | apply bAlloc | apply Below.drew | apply bDrewN | apply bIter))) (Sl.later HO.out (by repeat (first | exact Below.refl _ _ | apply bGrow | apply bAlloc | apply Below.drew | apply bDrewN | apply bIter)))).mono ?_
  rintro r w2 ⟨rfl, hb2⟩
  obtain ⟨⟨d2, os2⟩, rfl⟩ := beyond_of hb2
  go_wp2_with fail
  refine bodyPost_ret (v := .tuple #[zeroL.val, .slice none 0 0, .int .i64 8]) (by simp [results, Tryd.results93, go_sem]) rfl ?_
  exact ⟨zeroL, none, 0, [], rfl, rfl, rfl, zero_in _, PacketsIn.nil _, (by repeat (first | exact Below.refl _ _ | apply bGrow | apply bAlloc | apply Below.drew | apply bDrewN | apply bIter))⟩
end
end Go.Proofs.YtbmdepbmejnlkaaDoor
