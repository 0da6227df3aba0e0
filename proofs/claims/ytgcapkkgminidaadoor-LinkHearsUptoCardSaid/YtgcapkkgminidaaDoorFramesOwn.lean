/-
  Contract of the reference's framesCopy: a row of frames of the call's own.
-/
import Derived.Test.YtgcapkkgminidaaDoorRows
import Derived.Test.YtgcapkkgminidaaDoorFrameOwn
import Derived.Test.YtgcapkkgminidaaDoorStop
namespace Go.Proofs.YtgcapkkgminidaaDoor
open Go.ChangeShapes Go.WideShapes Go.ChangeAt Go.RowKit
set_option maxRecDepth 100000
theorem infoFrame : (Tryd.prog.info? 37).map (fun i => (i.zero, i.size, i.bytes)) = some (some (.agg #[.int .i64 0, .int .i64 0, .int .i64 0, .slice none 0 0, .string ⟨#[]⟩]), 5, 64) := by kernel_rfl
abbrev FramesOwn (w : World) (base : Nat) (A : Option Addr) (c : Nat) (L : List FrameV) : Prop := RowOwn 37 5 FrameV.cells FrameV.o w base A c L
theorem FramesOwn.in_ {w : World} {base : Nat} {A : Option Addr} {c : Nat} {L : List FrameV} (h : FramesOwn w base A c L) : FramesIn w A L :=
  ⟨(Sl.of_own _ h.row).moved fun _ hx => ⟨hx.2, rfl⟩, fun o ho => (h.each o ho).moved fun _ hx => ⟨hx.1.2, rfl⟩⟩
theorem FramesIn.nil (w : World) : FramesIn w none [] := ⟨Sl.nil, by simp⟩
theorem row_top {W : World} {cs : List Value} {t : TypeId} {n m : Nat} {A : Option Addr} (hl : cs.length = n * m) (hA : A = some ⟨W.heap.size, 0, none⟩) : Sl (fun _ => True) (W.alloc (.cells cs.toArray t)) m A n cs := by
  subst hA
  exact Sl.new W cs t m n hl trivial
/-- A call that hands back these frames in memory of its own. -/
def RetFrames (w : World) (D : List FrameD) (e : Ending) (w' : World) : Prop :=
  ∃ A c L, e = .returned (.slice A L.length c) ∧ L.map FrameV.d = D ∧ FramesOwn w' w.heap.size A c L ∧ Below w.heap.size w w'
set_option maxHeartbeats 1000000 in
theorem framesCopy_c (w : World) (A : Option Addr) (c : Nat) (L : List FrameV) (hs : FramesIn w A L) (hl : L.length ≤ 1048576) (hm : ∀ f ∈ L, f.o.ps.length ≤ 1048576) :
    Calls Tryd.prog 57 #[.slice A L.length c] w (RetFrames w (L.map FrameV.d)) := by
  obtain ⟨i0, hi, hz0, hz1, hz2⟩ := info_parts infoFrame
  have HS := Lib.hid hs
  have HM := Lib.hid hm
  clear hs hm
  go_enter Tryd.func57, Tryd.ntmps57
  go_wp2_with fail
  go_loopw [3, 4] (fun out i wr => ∃ (k : Nat) (L' : List FrameV) (Ao : Option Addr) (co : Nat), k ≤ L.length ∧ i = .int .i64 k ∧ L'.length = k ∧ out = .slice Ao k co ∧ Hid (L'.map FrameV.d = (L.take k).map FrameV.d) ∧ FramesOwn wr w.heap.size Ao co L' ∧ Below w.heap.size w wr) (fun _ i _ => L.length - (intOf i).toNat)
  case atStart => exact ⟨0, [], none, 0, Nat.zero_le _, rfl, rfl, rfl, rfl, RowOwn.nil _ _, Below.refl _ _⟩
  case round =>
    obtain ⟨k, L', Ao, co, hk, rfl, hL', rfl, hps, hown, hbw⟩ := hrel
    subst hL'
    by_cases hlt : L'.length < L.length
    · obtain ⟨b, o, rfl, hbs, g0, g1, g2, g3, g4, hop⟩ := (FramesIn.later HS.out hbw).at_ hlt
      have hsm := HM.out _ (List.getElem_mem hlt)
      have HT := Lib.hid (show (L.take (L'.length + 1)).map FrameV.d = (L.take L'.length).map FrameV.d ++ [L[L'.length].d] by rw [List.take_succ_eq_append_getElem hlt, List.map_append]; rfl)
      generalize L[L'.length] = q at *
      obtain ⟨fk, fh, fe, ⟨fA, fc, fp⟩, fs⟩ := q
      dsimp only at *
      have HC := Lib.hid (fun W hs => FrameCopy_c W fk fh fe fA fc fp fs hs hsm)
      have HOP := Lib.hid hop
      have HO := Lib.hid hown
      have hsz := hbw.size
      clear hop hown hsm
      go_wp2_with fail
      refine (HC.out _ (Sl.later HOP.out (by repeat (first | exact Below.refl _ _ | apply bGrow | apply bAlloc | apply Below.drew | apply bDrewN | apply bIter)))).mono ?_
      rintro e w2 ⟨A2, c2, rfl, ho2, hb2⟩
      have HX := Lib.hid (((HO.out.later hb2).row.alloc (.cells #[.int .i64 fk, .int .i64 fh, .int .i64 fe, .slice A2 fp.length c2, .string fs] 37)).alloc (.cells #[.int .i64 fk, .int .i64 fh, .int .i64 fe, .slice A2 fp.length c2, .string fs] 37))
      have HO2 := Lib.hid ho2
      have HB2 := Lib.hid hb2
      have hzw := hb2.size
      clear ho2 hb2
      go_wp2_with (refine stop_append rfl ?_)
      refine ⟨?_⟩
      refine wpList_append_sl _ rfl _ _ 33 rfl w.heap.size 37 i0 (.agg #[.int .i64 0, .int .i64 0, .int .i64 0, .slice none 0 0, .string ⟨#[]⟩]) 5 64 Tryd.underlying33 hi hz0 hz1 hz2 rfl (by decide) _ _ _ rfl HX.out (fun _ => True) _ _ _ _ rfl (row_top (by rfl) (by simp)) ?c1 ?c2 ?c3 ?c4 ?_
      case c1 => intro u hu; simp at hu; rcases hu with rfl | rfl | rfl | rfl | rfl <;> rfl
      case c2 => unfold maxLen; omega
      case c3 => omega
      case c4 => simp; omega
      intro A' c' w3 hown' hgrow hat
      have hP := RowOwn.push (f := FrameV.cells) (op := FrameV.o) (x := ⟨fk, fh, fe, ⟨A2, c2, fp⟩, fs⟩) (W2 := w2.alloc (.cells #[.int .i64 fk, .int .i64 fh, .int .i64 fe, .slice A2 fp.length c2, .string fs] 37)) HO.out hsz (bAlloc HB2.out _) (HO2.out.moved fun b hb => ⟨⟨hb.1, by simp; omega⟩, heap_alloc_old _ _ b hb.2⟩) hgrow hown' hat
      have hF := push_frame hbw (bAlloc HB2.out _) hgrow (fun g hg => (HO.out.row.lt g hg).1)
      clear hown' hgrow hat
      go_wp2_with fail
      go_roundw
      case rel => exact ⟨L'.length + 1, L' ++ [⟨fk, fh, fe, ⟨A2, c2, fp⟩, fs⟩], A', c', by omega, by go_num, by simp, rfl, by rw [List.map_append, hps.out, HT.out]; rfl, hP, hF⟩
      case measure => simp [intOf]; omega
    · obtain hk' : L'.length = L.length := by omega
      rw [hk', List.take_length] at hps
      go_wp2_with fail
      go_ret
      exact ⟨Ao, co, L', rfl, hps.out, hown, hbw⟩
end Go.Proofs.YtgcapkkgminidaaDoor
