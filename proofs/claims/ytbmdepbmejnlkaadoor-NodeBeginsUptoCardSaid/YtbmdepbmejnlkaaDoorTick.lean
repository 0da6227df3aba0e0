/-
  Contracts of link.Tick and of the reference's LinkTicked.
-/
import Derived.Test.YtbmdepbmejnlkaaDoorRows
import Derived.Test.YtbmdepbmejnlkaaDoorBF
import Derived.Test.YtbmdepbmejnlkaaDoorBJ
import Derived.Test.YtbmdepbmejnlkaaDoorLinkD
namespace Go.Proofs.YtbmdepbmejnlkaaDoor
open Go.ChangeShapes Go.WideShapes Go.ChangeAt Go.RowKit
set_option maxRecDepth 100000
theorem infoPacket : (Tryd.prog.info? 85).map (fun i => (i.zero, i.size, i.bytes)) = some (some (.agg #[.int .i64 0, .int .i64 0, .bool false, .int .i64 0, .int .i64 0, .int .i64 0, .int .i64 0, .slice none 0 0, .string ⟨#[]⟩]), 9, 96) := by kernel_rfl
abbrev PacketsOwn (w : World) (base : Nat) (A : Option Addr) (c : Nat) (L : List PacketV) : Prop := RowOwn 85 9 PacketV.cells PacketV.op w base A c L
theorem PacketsOwn.in_ {w : World} {base : Nat} {A : Option Addr} {c : Nat} {L : List PacketV} (h : PacketsOwn w base A c L) : PacketsIn w A L :=
  ⟨(Sl.of_own _ h.row).moved fun _ hx => ⟨hx.2, rfl⟩, fun o ho => (h.each o ho).moved fun _ hx => ⟨hx.1.2, rfl⟩⟩
/-- A call that hands back these packets and this error. -/
def RetPks (w : World) (D : List PacketD) (er : Int) (e : Ending) (w' : World) : Prop :=
  ∃ A c L, e = .returned (.tuple #[.slice A L.length c, .int .i64 er]) ∧ L.map PacketV.d = D ∧ PacketsOwn w' w.heap.size A c L ∧ Below w.heap.size w w'
/-- The packets of a tick. -/
def tickD (l : LinkV) : List PacketD := if l.e = 0 then [] else if l.s.length = 0 then [bareD l] else (List.range l.s.length).map (packetD l)
theorem Tick_no (w : World) (l : LinkV) (hk : ¬ linkMay l) (hT : Tabs w) (hi : l.In w) (hm : l.Small) :
    Calls Tryd.prog 56 #[l.val] w (RetPks w [] 9) := by
  have HC := Lib.hid (fun W hT hi => LinkCheck_c W l hT hi hm)
  rw [if_neg hk] at HC
  have HI := Lib.hid hi
  have HT := Lib.hid hT
  clear hi hT hm
  obtain ⟨e, n, sA, sc, s, qA, qc, q, h⟩ := l
  go_enter Tryd.func56, Tryd.ntmps56
  go_wp2_with fail
  refine (HC.out _ (HT.out.later (by repeat (first | exact Below.refl _ _ | apply bGrow | apply bAlloc | apply Below.drew | apply bDrewN | apply bIter))) (HI.out.later (by repeat (first | exact Below.refl _ _ | apply bGrow | apply bAlloc | apply Below.drew | apply bDrewN | apply bIter)))).mono ?_
  rintro r w1 ⟨rfl, hb1⟩
  obtain ⟨⟨d1, os1⟩, rfl⟩ := beyond_of hb1
  go_wp2_with fail
  refine bodyPost_ret (v := .tuple #[.slice none 0 0, .int .i64 9]) (by simp [results, Tryd.results56, go_sem]) rfl ?_
  exact ⟨none, 0, [], rfl, rfl, RowOwn.nil _ _, (by repeat (first | exact Below.refl _ _ | apply bGrow | apply bAlloc | apply Below.drew | apply bDrewN | apply bIter))⟩
theorem Tick_away (w : World) (l : LinkV) (hk : linkMay l) (h0 : l.e = 0) (hT : Tabs w) (hi : l.In w) (hm : l.Small) :
    Calls Tryd.prog 56 #[l.val] w (RetPks w [] 0) := by
  have HC := Lib.hid (fun W hT hi => LinkCheck_c W l hT hi hm)
  rw [if_pos hk] at HC
  have HI := Lib.hid hi
  have HT := Lib.hid hT
  clear hi hT hm hk
  obtain ⟨e, n, sA, sc, s, qA, qc, q, h⟩ := l
  dsimp only at h0
  subst h0
  go_enter Tryd.func56, Tryd.ntmps56
  go_wp2_with fail
  refine (HC.out _ (HT.out.later (by repeat (first | exact Below.refl _ _ | apply bGrow | apply bAlloc | apply Below.drew | apply bDrewN | apply bIter))) (HI.out.later (by repeat (first | exact Below.refl _ _ | apply bGrow | apply bAlloc | apply Below.drew | apply bDrewN | apply bIter)))).mono ?_
  rintro r w1 ⟨rfl, hb1⟩
  have x0 := box_at' hb1 0
  simp at x0
  go_wp2_with fail
  refine bodyPost_ret (v := .tuple #[.slice none 0 0, .int .i64 0]) (by simp [results, Tryd.results56, go_sem]) rfl ?_
  exact ⟨none, 0, [], rfl, rfl, RowOwn.nil _ _, box_below' hb1⟩
set_option maxHeartbeats 1000000 in
theorem Tick_ok (w : World) (l : LinkV) (hk : linkMay l) (h0 : l.e ≠ 0) (hT : Tabs w) (hi : l.In w) (hm : l.Small) :
    Calls Tryd.prog 56 #[l.val] w (RetPks w (tickD l) 0) := by
  obtain ⟨i0, hi0, hz0, hz1, hz2⟩ := info_parts infoPacket
  have HC := Lib.hid (fun W hT hi => LinkCheck_c W l hT hi hm)
  rw [if_pos hk] at HC
  have HI := Lib.hid hi
  have HT := Lib.hid hT
  have hb := bareD l
  have HK := Lib.hid hk
  have HM := Lib.hid hm
  have hs8 := hk.2.1.1
  have he : (l.e == 0) = false := by simpa using h0
  have HD := Lib.hid (show tickD l = if l.s.length = 0 then [bareD l] else (List.range l.s.length).map (packetD l) from if_neg h0)
  have HPK := Lib.hid (fun W k hk2 hs => packet_c W l k hk2 hs (fun f hf => (hm.s f hf).op.len) ⟨hk.1.2.1.1, hk.1.2.1.2, hk.2.1.1⟩)
  have HBR := Lib.hid (fun W => bare_c W l)
  generalize tickD l = D at *
  clear hi hT hm hk h0 hb
  obtain ⟨e, n, sA, sc, s, qA, qc, q, h⟩ := l
  dsimp only at *
  go_enter Tryd.func56, Tryd.ntmps56
  go_wp2_with fail
  refine (HC.out _ (HT.out.later (by repeat (first | exact Below.refl _ _ | apply bGrow | apply bAlloc | apply Below.drew | apply bDrewN | apply bIter))) (HI.out.later (by repeat (first | exact Below.refl _ _ | apply bGrow | apply bAlloc | apply Below.drew | apply bDrewN | apply bIter)))).mono ?_
  rintro r w1 ⟨rfl, hb1⟩
  have HL1 := Lib.hid (show LinkAt w1 w.heap.size ⟨e, n, sA, sc, s, qA, qc, q, h⟩ from (hb1.block _ (by simp)).trans (heap_alloc_new _ _))
  have HB1 := Lib.hid (box_below' hb1)
  obtain ⟨x0, x1, x2, x3, x4, f0, f1, f2, f3, f4, hxz⟩ := five_cell HL1.out
  have HL2 := HL1
  clear hb1
  go_wp2_with fail
  go_loopw [5, 18] (fun out i wr => ∃ (k : Nat) (L' : List PacketV) (Ao : Option Addr) (co : Nat), k ≤ s.length ∧ i = .int .i64 k ∧ L'.length = k ∧ out = .slice Ao k co ∧ Hid (L'.map PacketV.d = (List.range k).map (packetD ⟨e, n, sA, sc, s, qA, qc, q, h⟩)) ∧ PacketsOwn wr w1.heap.size Ao co L' ∧ Below w1.heap.size w1 wr) (fun _ i _ => s.length - (intOf i).toNat)
  case atStart => exact ⟨0, [], none, 0, Nat.zero_le _, rfl, rfl, rfl, rfl, RowOwn.nil _ _, Below.refl _ _⟩
  case round =>
    obtain ⟨k, L', Ao, co, hk, rfl, hL', rfl, hps, hown, hbw⟩ := hrel
    subst hL'
    clear x0 x1 x2 x3 x4 f0 f1 f2 f3 f4 hxz
    have HLR := Lib.hid (show LinkAt wr w.heap.size ⟨e, n, sA, sc, s, qA, qc, q, h⟩ from (hbw.block _ (five_cell HL1.out).2.2.2.2.2.2.2.2.2.2).trans HL1.out)
    obtain ⟨x0, x1, x2, x3, x4, f0, f1, f2, f3, f4, hxz⟩ := five_cell HLR.out
    have hsz := hbw.size
    by_cases hlt : L'.length < s.length
    · have HT := Lib.hid (show (List.range (L'.length + 1)).map (packetD ⟨e, n, sA, sc, s, qA, qc, q, h⟩) = (List.range L'.length).map (packetD ⟨e, n, sA, sc, s, qA, qc, q, h⟩) ++ [packetD ⟨e, n, sA, sc, s, qA, qc, q, h⟩ L'.length] by rw [List.range_succ, List.map_append]; rfl)
      have HP := Lib.hid (fun W hs => HPK.out W L'.length hlt hs)
      have HO := Lib.hid hown
      clear hown
      generalize packetD ⟨e, n, sA, sc, s, qA, qc, q, h⟩ L'.length = pk at *
      obtain ⟨pe, pn, pb, pa, ⟨fk, fh, fe, fp, fs⟩⟩ := pk
      unfold RetPacket at HP
      dsimp only at HP
      go_wp2_with fail
      refine (HP.out _ (HI.out.s.later (bThen HB1.out hbw))).mono ?_
      rintro r w2 ⟨A2, c2, rfl, ho2, hb2⟩
      have HX := Lib.hid ((HO.out.later hb2).row.alloc (.cells #[.int .i64 pe, .int .i64 pn, .bool pb, .int .i64 pa, .int .i64 fk, .int .i64 fh, .int .i64 fe, .slice A2 fp.length c2, .string fs] 85))
      have HO2 := Lib.hid ho2
      have HB2 := Lib.hid hb2
      have hzw := hb2.size
      clear ho2 hb2
      go_wp2_with (refine stop_append rfl ?_)
      refine ⟨?_⟩
      refine wpList_append_sl _ rfl _ _ 100 rfl w1.heap.size 85 i0 (.agg #[.int .i64 0, .int .i64 0, .bool false, .int .i64 0, .int .i64 0, .int .i64 0, .int .i64 0, .slice none 0 0, .string ⟨#[]⟩]) 9 96 Tryd.underlying100 hi0 hz0 hz1 hz2 rfl (by decide) _ _ _ rfl HX.out (fun _ => True) _ _ _ _ rfl (row_top (by rfl) (by simp)) ?c1 ?c2 ?c3 ?c4 ?_
      case c1 => intro u hu; simp at hu; rcases hu with rfl | rfl | rfl | rfl | rfl | rfl | rfl | rfl | rfl <;> rfl
      case c2 => unfold maxLen; omega
      case c3 => omega
      case c4 => simp; omega
      intro A' c' w3 hown' hgrow hat
      have hP := RowOwn.push (f := PacketV.cells) (op := PacketV.op) (x := ⟨pe, pn, pb, pa, ⟨fk, fh, fe, ⟨A2, c2, fp⟩, fs⟩⟩) HO.out hsz HB2.out HO2.out hgrow hown' hat
      have hF := push_frame hbw HB2.out hgrow (fun g hg => (HO.out.row.lt g hg).1)
      clear hown' hgrow hat
      go_wp2_with fail
      go_roundw
      case rel => exact ⟨L'.length + 1, L' ++ [⟨pe, pn, pb, pa, ⟨fk, fh, fe, ⟨A2, c2, fp⟩, fs⟩⟩], A', c', by omega, by go_num, by simp, rfl, by rw [List.map_append, hps.out, HT.out]; rfl, hP, hF⟩
      case measure => simp [intOf]; omega
    · obtain hk' : L'.length = s.length := by omega
      rw [hk'] at hps
      by_cases hz : s.length = 0
      · have HD' := Lib.hid (show D = [bareD ⟨e, n, sA, sc, s, qA, qc, q, h⟩] from HD.out.trans (if_pos hz))
        have HO := Lib.hid hown
        have hL0 : L' = [] := List.eq_nil_of_length_eq_zero (by omega)
        subst hL0
        have hs0 : s = [] := List.eq_nil_of_length_eq_zero hz
        subst hs0
        clear hz
        have HB0 := Lib.hid (HBR.out wr)
        unfold bareD RetPacket at HB0
        dsimp only at HB0
        go_wp2_with fail
        refine HB0.out.mono ?_
        rintro r w2 ⟨A2, c2, rfl, ho2, hb2⟩
        have HX := Lib.hid ((HO.out.later hb2).row.alloc (.cells #[.int .i64 e, .int .i64 0, .bool true, .int .i64 h, .int .i64 0, .int .i64 0, .int .i64 0, .slice A2 0 c2, .string ⟨#[]⟩] 85))
        have HO2 := Lib.hid ho2
        have HB2 := Lib.hid hb2
        have hzw := hb2.size
        clear ho2 hb2
        go_wp2_with (refine stop_append rfl ?_)
        refine ⟨?_⟩
        refine wpList_append_sl _ rfl _ _ 100 rfl w1.heap.size 85 i0 (.agg #[.int .i64 0, .int .i64 0, .bool false, .int .i64 0, .int .i64 0, .int .i64 0, .int .i64 0, .slice none 0 0, .string ⟨#[]⟩]) 9 96 Tryd.underlying100 hi0 hz0 hz1 hz2 rfl (by decide) _ _ _ rfl HX.out (fun _ => True) _ _ _ _ rfl (row_top (by rfl) (by simp)) ?c1 ?c2 ?c3 ?c4 ?_
        case c1 => intro u hu; simp at hu; rcases hu with rfl | rfl | rfl | rfl | rfl | rfl | rfl | rfl | rfl <;> rfl
        case c2 => unfold maxLen; simp
        case c3 => simp
        case c4 => simp; omega
        intro A' c' w3 hown' hgrow hat
        have hP := RowOwn.push (f := PacketV.cells) (op := PacketV.op) (x := ⟨e, 0, true, h, ⟨0, 0, 0, ⟨A2, c2, []⟩, ⟨#[]⟩⟩⟩) HO.out hsz HB2.out HO2.out hgrow hown' hat
        have hF := push_frame hbw HB2.out hgrow (fun g hg => (HO.out.row.lt g hg).1)
        have hsw := HB1.out.size
        clear hown' hgrow hat
        go_wp2_with fail
        refine bodyPost_ret (v := .tuple #[.slice A' 1 c', .int .i64 0]) (by simp [results, Tryd.results56, go_sem]) rfl ?_
        exact ⟨A', c', [⟨e, 0, true, h, ⟨0, 0, 0, ⟨A2, c2, []⟩, ⟨#[]⟩⟩⟩], rfl, HD'.out.symm, hP.mono hsw, bThen HB1.out hF⟩
      · have HD' := Lib.hid (show D = (List.range s.length).map (packetD ⟨e, n, sA, sc, s, qA, qc, q, h⟩) from HD.out.trans (if_neg hz))
        have hz' : decide (s.length = 0) = false := by simpa using hz
        have hsw := HB1.out.size
        go_wp2_with fail
        refine bodyPost_ret (v := .tuple #[.slice Ao s.length co, .int .i64 0]) (by simp [results, Tryd.results56, go_sem]) rfl ?_
        exact ⟨Ao, co, L', by rw [hk'], hps.out.trans HD'.out.symm, hown.mono hsw, bThen HB1.out hbw⟩
end Go.Proofs.YtbmdepbmejnlkaaDoor
