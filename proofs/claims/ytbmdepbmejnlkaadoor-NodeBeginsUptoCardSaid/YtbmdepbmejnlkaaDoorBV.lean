/-
  Contract of the reference's BegunOf where it begins at the root.
  Contract of the reference's BegunOf where it begins below the root.
  Contract of the reference's BegunOf: where it refuses.
-/
import Derived.Test.YtbmdepbmejnlkaaDoorRows
import Derived.Test.YtbmdepbmejnlkaaDoorBT
import Derived.Test.YtbmdepbmejnlkaaDoorBS
import Derived.Test.YtbmdepbmejnlkaaDoorBH
import Derived.Test.YtbmdepbmejnlkaaDoorBA
namespace Go.Proofs.YtbmdepbmejnlkaaDoor
open Go.ChangeShapes Go.WideShapes Go.ChangeAt Go.RowKit
set_option maxRecDepth 100000
set_option maxHeartbeats 2000000 in
theorem Begun_ok0 (w : World) (T : Option Addr) (N Nc : Nat) (zs : List Int) (births : Int) (s : ByteArray) (hT : Tabs w) (hz : Sl (· < w.heap.size) w 1 T N (zs.map (Value.int .i64))) (hN : N ≤ 9223372036854775807) (ht : treeFault zs = 0) (hb : 1 ≤ births ∧ births ≤ 250) (hst : textFault s = 0) (hsm : s.size ≤ 1048576) :
    Calls Tryd.prog 11 #[.slice T N Nc, .int .i64 0, .int .i64 births, .string s] w (RetTurnP w (begD 0 (births * 4096) s (peers zs 0)) (begP 0 (births * 4096) (peers zs 0)) 0) := by
  obtain ⟨i0, hi0, hz0, hz1, hz2⟩ := info_parts infoSide
  have hl : zs.length = N := by have := hz.1; simpa using this
  have htl := tree_root ht
  have H1 := Lib.hid (fun W hz => TreeFault_c W T N Nc zs hz hN)
  rw [ht] at H1
  have H2 := Lib.hid (fun W hT => TextFault_c s W hT hsm)
  rw [hst] at H2
  have H3 := Lib.hid (fun W hz => peersOf_c W T N Nc zs hz ht 0 (Int.le_refl _) (by omega))
  have hpl : (peers zs 0).length ≤ zs.length + 1 := upK_len zs 0 zs.length
  have hp8 : (peers zs 0).length ≤ 8 := by omega
  
  generalize hPP : peers zs 0 = P at *
  have hw1 : wrap64 (births * 4096) = births * 4096 := by unfold wrap64; omega
  have t1 : decide ((N : Int) ≤ 0) = false := by simp; omega
  have hn0 : ¬ N = 0 := by omega
  have t2 : decide (births < 1) = false := by simp; omega
  have t3 : decide (250 < births) = false := by simp; omega
  
  
  
  
  have HI1 := Lib.hid (fun W => In_yes 0 0 ((N : Int) - 1) W (by omega) (by omega))
  have HI2 := Lib.hid (fun W => In_yes births 1 250 W hb.1 hb.2)
  have HT := Lib.hid hT
  have HZ := Lib.hid hz
  have HBI := Lib.hid hb
  clear hPP hT hz hb ht hl htl hpl hst hsm
  obtain ⟨R, hR⟩ : ∃ R, R = w.heap.size := ⟨_, rfl⟩
  obtain ⟨WA, hWA⟩ : ∃ WA, WA = w.alloc (.cells #[.int .i64 0, .int .i64 0, .int .i64 0, .bool false, .string ⟨#[]⟩, .slice none 0 0, .slice none 0 0, .slice none 0 0, .slice none 0 0, .slice none 0 0] 35) := ⟨_, rfl⟩
  have HA := Lib.hid (show WA.heap[R]? = some (.cells #[.int .i64 0, .int .i64 0, .int .i64 0, .bool false, .string ⟨#[]⟩, .slice none 0 0, .slice none 0 0, .slice none 0 0, .slice none 0 0, .slice none 0 0] 35 (0, 0)) by rw [hWA, hR]; exact World.alloc_heap_new _ _)
  have HBA := Lib.hid (show Below w.heap.size w WA by rw [hWA]; exact bAlloc (Below.refl _ _) _)
  have hRz : R < WA.heap.size := (Array.getElem?_eq_some_iff.1 HA.out).1
  have HW := Lib.hid hWA.symm
  have HRE := Lib.hid hR.symm
  clear hWA hR
  go_enter Tryd.func11, Tryd.ntmps11
  go_wp2_with fail
  rw [HW.out, HRE.out]
  refine (H1.out _ (Sl.later HZ.out HBA.out)).mono ?_
  rintro r w1 ⟨rfl, rfl⟩
  go_wp2_with fail
  refine (HI1.out _).mono ?_
  rintro r w1 ⟨rfl, rfl⟩
  go_wp2_with fail
  refine (HI2.out _).mono ?_
  rintro r w1 ⟨rfl, rfl⟩
  go_wp2_with fail
  refine (H2.out _ (HT.out.later HBA.out)).mono ?_
  rintro r w2 ⟨rfl, hb2⟩
  have HB2 := Lib.hid (bThen HBA.out hb2)
  have HA2 := Lib.hid ((hb2.block R hRz).trans HA.out)
  have hz2' := hb2.size
  clear hb2
  go_wp2_with fail
  obtain ⟨X, hX⟩ : ∃ X, X = w2.heap.size := ⟨_, rfl⟩
  obtain ⟨W3, hW3⟩ : ∃ W3, W3 = w2.alloc (.cells #[.int .i64 0, .int .i64 (births * 4096), .int .i64 0, .bool true, .string s, .slice none 0 0, .slice none 0 0, .slice none 0 0, .slice none 0 0, .slice none 0 0] 35) := ⟨_, rfl⟩
  have hb3 : Below w2.heap.size w2 W3 := by rw [hW3]; exact bAlloc (Below.refl _ _) _
  have HX3 := Lib.hid (show W3.heap[X]? = some (.cells #[.int .i64 0, .int .i64 (births * 4096), .int .i64 0, .bool true, .string s, .slice none 0 0, .slice none 0 0, .slice none 0 0, .slice none 0 0, .slice none 0 0] 35 (0, 0)) by rw [hW3, hX]; exact World.alloc_heap_new _ _)
  have HB3 := Lib.hid (bThen HB2.out hb3)
  have HA3 := Lib.hid ((hb3.block R (by omega)).trans HA2.out)
  have hRX : R < X := by omega
  have hWX : WA.heap.size ≤ X := by omega
  have hX3 : X < W3.heap.size := (Array.getElem?_eq_some_iff.1 HX3.out).1
  rw [← hW3, ← hX]
  clear hW3 hX hb3 hz2'
  refine (H3.out _ (Sl.later HZ.out HB3.out)).mono ?_
  rintro r w4 ⟨pA, pc, rfl, hown, hb4⟩
  have HB4 := Lib.hid (bThen HB3.out hb4)
  have hz4 := hb4.size
  have HA4 := Lib.hid ((hb4.block R (by omega)).trans HA3.out)
  have HG4 : Hid (BegAt 35 w4 w4 X 0 (births * 4096) true s none 0 []) := Lib.hid ⟨(hb4.block X hX3).trans HX3.out, World.ownsRow_nil _ _ _ _, Turned.refl _ _ _⟩
  have HPI := Lib.hid (Sl.of_own _ hown)
  clear hown hb4
  go_wp2_with fail
  go_loopw [13] (fun i wr => ∃ (k : Nat) (A : Option Addr) (c : Nat) (Q : List Int), k ≤ P.length ∧ i = .int .i64 k ∧ Q.length = k ∧ Hid (Q = P.take k) ∧ Hid (BegAt 35 wr w4 X 0 (births * 4096) true s A c Q)) (fun i _ => P.length - (intOf i).toNat)
  case atStart => exact ⟨0, none, 0, [], Nat.zero_le _, rfl, rfl, Lib.hid rfl, HG4⟩
  case round =>
    obtain ⟨k, A, c, Q, hk, rfl, hQ, HQ, HR⟩ := hrel
    subst hQ
    obtain ⟨x0, x1, x2, x3, x4, x5, x6, x7, x8, x9, xz⟩ := ten_cell HR.out.blk
    have hzr := HR.out.turned.size
    by_cases hlt : Q.length < P.length
    · obtain ⟨b, o, hA, hbs, hc⟩ := HPI.out.2 (by omega)
      have hpc := hc Q.length (.int .i64 P[Q.length]) (by rw [List.getElem?_map, List.getElem?_eq_getElem hlt]; rfl)
      have hbr : wr.heap[b]? = w4.heap[b]? := HR.out.turned.block b hbs.2 (by have := hbs.1; omega) (by simp)
      have ce0 : wr.cell? ⟨b, o + Q.length, none⟩ = some (.int .i64 P[Q.length]) := (World.cell?_of_block (a := ⟨b, o + Q.length, none⟩) hbr).trans hpc
      have HTK := Lib.hid (show Q ++ [P[Q.length]] = P.take (Q.length + 1) by
        have h9 := List.take_succ_eq_append_getElem hlt
        rw [h9]
        exact congrArg (· ++ [P[Q.length]]) HQ.out)
      clear hpc hbr hc
      generalize P[Q.length] = p at *
      subst hA
      have hkb : Q.length + 1 ≤ 9 := by omega
      have HN2 := Lib.hid (show Q.length + 1 ≤ P.length from hlt)
      have hX2 := HR.out.lt
      have hne : (Value.slice A Q.length c).ownBlock ≠ some X := own_apart HR.out.row HR.out.blk (by decide)
      clear x0 x1 x2 x3 x4 x6 x7 x8 x9 xz
      go_wp2_with (refine stop_at ?_)
      refine ⟨?_⟩
      go_region_law (first
        | (refine step_append_sl _ rfl _ _ 24 rfl w4.heap.size 65 i0 (.agg #[.int .i64 0, .bool false, .int .i64 0, .int .i64 0, .slice none 0 0, .int .i64 0, .int .i64 0, .slice none 0 0, .slice none 0 0, .int .i64 0]) 10 128 Tryd.underlying24 hi0 hz0 hz1 hz2 rfl (by decide) _ _ _ rfl (own_belowS HR.out.row (by repeat (first | exact Below.refl _ _ | apply bGrow | apply bAlloc | apply Below.drew | apply bDrewN | apply bIter))) (fun _ => True) _ _ _ _ rfl (row_top (by rfl) (by simp)) ?_ ?_ ?_ ?_ ?_; (intro u hu; simp at hu; rcases hu with rfl | rfl | rfl | rfl | rfl | rfl | rfl | rfl | rfl | rfl <;> rfl); (unfold maxLen; omega); omega; (simp; omega); intro A' c' w6 hown' hgrow hat; have hX6 := (hgrow.block X (Nat.lt_of_lt_of_le hX2 (show Below wr.heap.size wr _ from (by repeat (first | exact Below.refl _ _ | apply bGrow | apply bAlloc | apply Below.drew | apply bDrewN | apply bIter))).size) (fun e1 => hne e1.symm)).trans (((show Below wr.heap.size wr _ from (by repeat (first | exact Below.refl _ _ | apply bGrow | apply bAlloc | apply Below.drew | apply bDrewN | apply bIter))).block X hX2).trans HR.out.blk); obtain ⟨_, _, _, _, _, v5, _, _, _, _, vz⟩ := ten_cell hX6; have f5 := tenF hX6 5))
      all_goals (
        obtain ⟨WQ, hWQ, hgQ, hbQ⟩ := name_grown2 (W4 := wr) hgrow (by repeat (first | exact Below.refl _ _ | apply bGrow | apply bAlloc | apply Below.drew | apply bDrewN | apply bIter))
        have hPU := HR.out.push (by decide) hbQ hgQ hown'
        refine post_hide (fun G => BegAt 35 G w4 X 0 (births * 4096) true s A' c' (Q ++ [p])) hPU ?_
        clear hWQ hgQ hbQ hPU hown' hgrow hat hX6 v5 vz f5
        rintro G hG
        have HG := Lib.hid hG
        clear hG x5 ce0
        go_wp2_with fail
        go_roundw
        case rel => exact ⟨Q.length + 1, A', c', Q ++ [p], HN2.out, by go_num, by simp, HTK, HG⟩
        case measure => have := HN2.out; simp [intOf]; omega)
    · have hk' : Q.length = P.length := by omega
      have hQP : Q = P := by rw [HQ.out, hk', List.take_length]
      clear HQ hk' hlt hk
      subst hQP
      clear HPI
      have hbl : Below WA.heap.size w4 wr := HR.out.turned.below hWX (by simp) (by omega)
      have HBR := Lib.hid (show Below w.heap.size w wr from HB4.out.trans (hbl.mono HBA.out.size))
      have HAR := Lib.hid ((hbl.block R hRz).trans HA4.out)
      have HBU := Lib.hid (begBusy (T := 35) (me := 0) (s := s) hWX (by have h9 := HR.out.blk; simpa [begN, turnCells] using h9) (own_monoS HR.out.row (by omega)) : Busy 35 wr WA.heap.size X (begN 0 (births * 4096) s A c Q) none 0 [] (.slice none 0 0))
      clear hbl
      have hbz : Busy 35 wr WA.heap.size X ⟨0, births * 4096, 0, true, s, A, c, Q.map mkSide, none, 0, [], none, 0, []⟩ none 0 [] (.slice none 0 0) := HBU.out
      have hdd : (⟨0, births * 4096, 0, true, s, A, c, Q.map mkSide, none, 0, [], none, 0, []⟩ : NodeV).d = begD 0 (births * 4096) s Q := by simp [begD, begN]
      generalize Q.map mkSide = SS at hbz hdd
      clear x0 x1 x2 x3 x4 x5 x6 x7 x8 x9 xz
      obtain ⟨x0, x1, x2, x3, x4, x5, x6, x7, x8, x9, xz⟩ := ten_cell hbz.blk
      (try dsimp only [List.length_nil] at x0 x1 x2 x3 x4 x5 x6 x7 x8 x9)
      have HBZ2 := Lib.hid hbz
      obtain ⟨r0, r1, r2, r3, r4, r5, r6, r7, r8, r9, rz⟩ := ten_cell HAR.out
      have F0 := tenF HAR.out 0
      have F1 := tenF HAR.out 1
      have F2 := tenF HAR.out 2
      have F3 := tenF HAR.out 3
      have F4 := tenF HAR.out 4
      have F5 := tenF HAR.out 5
      have F6 := tenF HAR.out 6
      have F7 := tenF HAR.out 7
      have F8 := tenF HAR.out 8
      have F9 := tenF HAR.out 9
      have hRX' : ¬ R = X := by omega
      clear hbz
      go_wp2_with fail
      have hq := begFin (w := w) (n' := ⟨0, births * 4096, 0, true, s, A, c, SS, none, 0, [], none, 0, []⟩) (by decide) HBZ2.out HAR.out hRz (by have := HRE.out; omega) HBR.out
      clear r0 r1 r2 r3 r4 r5 r6 r7 r8 r9 rz F0 F1 F2 F3 F4 F5 F6 F7 F8 F9 x0 x1 x2 x3 x4 x5 x6 x7 x8 x9 xz
      refine post_hide (fun H => H.heap[R]? = some (.cells #[.int .i64 0, .int .i64 (births * 4096), .int .i64 0, .bool true, .string s, .slice A SS.length c, .slice none 0 0, .slice none 0 0, .slice none 0 0, .slice none 0 0] 35 (0, 0)) ∧ NodeV.InS (fun b => w.heap.size ≤ b ∧ b < H.heap.size) H ⟨0, births * 4096, 0, true, s, A, c, SS, none, 0, [], none, 0, []⟩ ∧ PostsOwn H w.heap.size none 0 [] ∧ Below w.heap.size w H) hq ?_
      clear hq
      rintro H ⟨j1, j2, j3, j4⟩
      obtain ⟨r0, r1, r2, r3, r4, r5, r6, r7, r8, r9, rz⟩ := ten_cell j1
      refine bodyPost_ret (v := .tuple #[.agg #[.int .i64 0, .int .i64 (births * 4096), .int .i64 0, .bool true, .string s, .slice A SS.length c, .slice none 0 0, .slice none 0 0, .slice none 0 0, .slice none 0 0], .int .i64 0]) (by simp [results, Tryd.results11, go_sem, r0, r1, r2, r3, r4, r5, r6, r7, r8, r9]) rfl ?_
      exact ⟨⟨0, births * 4096, 0, true, s, A, c, SS, none, 0, [], none, 0, []⟩, none, 0, [], rfl, hdd, j2, rfl, j3, j4⟩
end Go.Proofs.YtbmdepbmejnlkaaDoor
namespace Go.Proofs.YtbmdepbmejnlkaaDoor
open Go.ChangeShapes Go.WideShapes Go.ChangeAt Go.RowKit
set_option maxRecDepth 100000
set_option maxHeartbeats 2000000 in
theorem Begun_ok1 (w : World) (T : Option Addr) (N Nc : Nat) (zs : List Int) (births : Int) (hT : Tabs w) (hz : Sl (· < w.heap.size) w 1 T N (zs.map (Value.int .i64))) (hN : N ≤ 9223372036854775807) (ht : treeFault zs = 0) (hb : 1 ≤ births ∧ births ≤ 250) (me : Int) (h0 : 0 < me) (h1 : me < zs.length) :
    Calls Tryd.prog 11 #[.slice T N Nc, .int .i64 me, .int .i64 births, .string ⟨#[]⟩] w (RetTurnP w (begD me (births * 4096) ⟨#[]⟩ (peers zs me)) (begP me (births * 4096) (peers zs me)) 0) := by
  obtain ⟨i0, hi0, hz0, hz1, hz2⟩ := info_parts infoSide
  have hl : zs.length = N := by have := hz.1; simpa using this
  have htl := tree_root ht
  have H1 := Lib.hid (fun W hz => TreeFault_c W T N Nc zs hz hN)
  rw [ht] at H1
  have H2 := Lib.hid (fun W hT => TextFault_c ⟨#[]⟩ W hT (Nat.zero_le _))
  rw [textFault_none] at H2
  have H3 := Lib.hid (fun W hz => peersOf_c W T N Nc zs hz ht me (by omega) h1)
  have hpl : (peers zs me).length ≤ zs.length + 1 := upK_len zs me zs.length
  have hp8 : (peers zs me).length ≤ 8 := by omega
  have HP1 := Lib.hid (peers_some (zs := zs) h0)
  generalize hPP : peers zs me = P at *
  have hw1 : wrap64 (births * 4096) = births * 4096 := by unfold wrap64; omega
  have t1 : decide ((N : Int) ≤ me) = false := by simp; omega
  
  have t2 : decide (births < 1) = false := by simp; omega
  have t3 : decide (250 < births) = false := by simp; omega
  have t0 : decide (me < 0) = false := by simp; omega
  have t4 : decide (0 < me) = true := by simp; omega
  have t5 : (me == 0) = false := by simp; omega
  have HME := Lib.hid (show ¬ me = 0 by omega)
  have HI1 := Lib.hid (fun W => In_yes me 0 ((N : Int) - 1) W (by omega) (by omega))
  have HI2 := Lib.hid (fun W => In_yes births 1 250 W hb.1 hb.2)
  have HT := Lib.hid hT
  have HZ := Lib.hid hz
  have HBI := Lib.hid hb
  clear hPP hT hz hb ht hl htl hpl
  obtain ⟨R, hR⟩ : ∃ R, R = w.heap.size := ⟨_, rfl⟩
  obtain ⟨WA, hWA⟩ : ∃ WA, WA = w.alloc (.cells #[.int .i64 0, .int .i64 0, .int .i64 0, .bool false, .string ⟨#[]⟩, .slice none 0 0, .slice none 0 0, .slice none 0 0, .slice none 0 0, .slice none 0 0] 35) := ⟨_, rfl⟩
  have HA := Lib.hid (show WA.heap[R]? = some (.cells #[.int .i64 0, .int .i64 0, .int .i64 0, .bool false, .string ⟨#[]⟩, .slice none 0 0, .slice none 0 0, .slice none 0 0, .slice none 0 0, .slice none 0 0] 35 (0, 0)) by rw [hWA, hR]; exact World.alloc_heap_new _ _)
  have HBA := Lib.hid (show Below w.heap.size w WA by rw [hWA]; exact bAlloc (Below.refl _ _) _)
  have hRz : R < WA.heap.size := (Array.getElem?_eq_some_iff.1 HA.out).1
  have HW := Lib.hid hWA.symm
  have HRE := Lib.hid hR.symm
  clear hWA hR
  go_enter Tryd.func11, Tryd.ntmps11
  go_wp2_with fail
  rw [HW.out, HRE.out]
  refine (H1.out _ (Sl.later HZ.out HBA.out)).mono ?_
  rintro r w1 ⟨rfl, rfl⟩
  go_wp2_with fail
  refine (HI1.out _).mono ?_
  rintro r w1 ⟨rfl, rfl⟩
  go_wp2_with fail
  refine (HI2.out _).mono ?_
  rintro r w1 ⟨rfl, rfl⟩
  go_wp2_with fail
  refine (H2.out _ (HT.out.later HBA.out)).mono ?_
  rintro r w2 ⟨rfl, hb2⟩
  have HB2 := Lib.hid (bThen HBA.out hb2)
  have HA2 := Lib.hid ((hb2.block R hRz).trans HA.out)
  have hz2' := hb2.size
  clear hb2
  go_wp2_with fail
  obtain ⟨X, hX⟩ : ∃ X, X = w2.heap.size := ⟨_, rfl⟩
  obtain ⟨W3, hW3⟩ : ∃ W3, W3 = w2.alloc (.cells #[.int .i64 me, .int .i64 (births * 4096), .int .i64 0, .bool false, .string ⟨#[]⟩, .slice none 0 0, .slice none 0 0, .slice none 0 0, .slice none 0 0, .slice none 0 0] 35) := ⟨_, rfl⟩
  have hb3 : Below w2.heap.size w2 W3 := by rw [hW3]; exact bAlloc (Below.refl _ _) _
  have HX3 := Lib.hid (show W3.heap[X]? = some (.cells #[.int .i64 me, .int .i64 (births * 4096), .int .i64 0, .bool false, .string ⟨#[]⟩, .slice none 0 0, .slice none 0 0, .slice none 0 0, .slice none 0 0, .slice none 0 0] 35 (0, 0)) by rw [hW3, hX]; exact World.alloc_heap_new _ _)
  have HB3 := Lib.hid (bThen HB2.out hb3)
  have HA3 := Lib.hid ((hb3.block R (by omega)).trans HA2.out)
  have hRX : R < X := by omega
  have hWX : WA.heap.size ≤ X := by omega
  have hX3 : X < W3.heap.size := (Array.getElem?_eq_some_iff.1 HX3.out).1
  rw [← hW3, ← hX]
  clear hW3 hX hb3 hz2'
  refine (H3.out _ (Sl.later HZ.out HB3.out)).mono ?_
  rintro r w4 ⟨pA, pc, rfl, hown, hb4⟩
  have HB4 := Lib.hid (bThen HB3.out hb4)
  have hz4 := hb4.size
  have HA4 := Lib.hid ((hb4.block R (by omega)).trans HA3.out)
  have HG4 : Hid (BegAt 35 w4 w4 X me (births * 4096) false ⟨#[]⟩ none 0 []) := Lib.hid ⟨(hb4.block X hX3).trans HX3.out, World.ownsRow_nil _ _ _ _, Turned.refl _ _ _⟩
  have HPI := Lib.hid (Sl.of_own _ hown)
  clear hown hb4
  go_wp2_with fail
  go_loopw [13] (fun i wr => ∃ (k : Nat) (A : Option Addr) (c : Nat) (Q : List Int), k ≤ P.length ∧ i = .int .i64 k ∧ Q.length = k ∧ Hid (Q = P.take k) ∧ Hid (BegAt 35 wr w4 X me (births * 4096) false ⟨#[]⟩ A c Q)) (fun i _ => P.length - (intOf i).toNat)
  case atStart => exact ⟨0, none, 0, [], Nat.zero_le _, rfl, rfl, Lib.hid rfl, HG4⟩
  case round =>
    obtain ⟨k, A, c, Q, hk, rfl, hQ, HQ, HR⟩ := hrel
    subst hQ
    obtain ⟨x0, x1, x2, x3, x4, x5, x6, x7, x8, x9, xz⟩ := ten_cell HR.out.blk
    have hzr := HR.out.turned.size
    by_cases hlt : Q.length < P.length
    · obtain ⟨b, o, hA, hbs, hc⟩ := HPI.out.2 (by omega)
      have hpc := hc Q.length (.int .i64 P[Q.length]) (by rw [List.getElem?_map, List.getElem?_eq_getElem hlt]; rfl)
      have hbr : wr.heap[b]? = w4.heap[b]? := HR.out.turned.block b hbs.2 (by have := hbs.1; omega) (by simp)
      have ce0 : wr.cell? ⟨b, o + Q.length, none⟩ = some (.int .i64 P[Q.length]) := (World.cell?_of_block (a := ⟨b, o + Q.length, none⟩) hbr).trans hpc
      have HTK := Lib.hid (show Q ++ [P[Q.length]] = P.take (Q.length + 1) by
        have h9 := List.take_succ_eq_append_getElem hlt
        rw [h9]
        exact congrArg (· ++ [P[Q.length]]) HQ.out)
      clear hpc hbr hc
      generalize P[Q.length] = p at *
      subst hA
      have hkb : Q.length + 1 ≤ 9 := by omega
      have HN2 := Lib.hid (show Q.length + 1 ≤ P.length from hlt)
      have hX2 := HR.out.lt
      have hne : (Value.slice A Q.length c).ownBlock ≠ some X := own_apart HR.out.row HR.out.blk (by decide)
      clear x0 x1 x2 x3 x4 x6 x7 x8 x9 xz
      go_wp2_with (refine stop_at ?_)
      refine ⟨?_⟩
      go_region_law (first
        | (refine step_append_sl _ rfl _ _ 24 rfl w4.heap.size 65 i0 (.agg #[.int .i64 0, .bool false, .int .i64 0, .int .i64 0, .slice none 0 0, .int .i64 0, .int .i64 0, .slice none 0 0, .slice none 0 0, .int .i64 0]) 10 128 Tryd.underlying24 hi0 hz0 hz1 hz2 rfl (by decide) _ _ _ rfl (own_belowS HR.out.row (by repeat (first | exact Below.refl _ _ | apply bGrow | apply bAlloc | apply Below.drew | apply bDrewN | apply bIter))) (fun _ => True) _ _ _ _ rfl (row_top (by rfl) (by simp)) ?_ ?_ ?_ ?_ ?_; (intro u hu; simp at hu; rcases hu with rfl | rfl | rfl | rfl | rfl | rfl | rfl | rfl | rfl | rfl <;> rfl); (unfold maxLen; omega); omega; (simp; omega); intro A' c' w6 hown' hgrow hat; have hX6 := (hgrow.block X (Nat.lt_of_lt_of_le hX2 (show Below wr.heap.size wr _ from (by repeat (first | exact Below.refl _ _ | apply bGrow | apply bAlloc | apply Below.drew | apply bDrewN | apply bIter))).size) (fun e1 => hne e1.symm)).trans (((show Below wr.heap.size wr _ from (by repeat (first | exact Below.refl _ _ | apply bGrow | apply bAlloc | apply Below.drew | apply bDrewN | apply bIter))).block X hX2).trans HR.out.blk); obtain ⟨_, _, _, _, _, v5, _, _, _, _, vz⟩ := ten_cell hX6; have f5 := tenF hX6 5))
      all_goals (
        obtain ⟨WQ, hWQ, hgQ, hbQ⟩ := name_grown2 (W4 := wr) hgrow (by repeat (first | exact Below.refl _ _ | apply bGrow | apply bAlloc | apply Below.drew | apply bDrewN | apply bIter))
        have hPU := HR.out.push (by decide) hbQ hgQ hown'
        refine post_hide (fun G => BegAt 35 G w4 X me (births * 4096) false ⟨#[]⟩ A' c' (Q ++ [p])) hPU ?_
        clear hWQ hgQ hbQ hPU hown' hgrow hat hX6 v5 vz f5
        rintro G hG
        have HG := Lib.hid hG
        clear hG x5 ce0
        go_wp2_with fail
        go_roundw
        case rel => exact ⟨Q.length + 1, A', c', Q ++ [p], HN2.out, by go_num, by simp, HTK, HG⟩
        case measure => have := HN2.out; simp [intOf]; omega)
    · have hk' : Q.length = P.length := by omega
      have hQP : Q = P := by rw [HQ.out, hk', List.take_length]
      clear HQ hk' hlt hk
      subst hQP
      clear HPI
      have hbl : Below WA.heap.size w4 wr := HR.out.turned.below hWX (by simp) (by omega)
      have HBR := Lib.hid (show Below w.heap.size w wr from HB4.out.trans (hbl.mono HBA.out.size))
      have HAR := Lib.hid ((hbl.block R hRz).trans HA4.out)
      have HBU := Lib.hid (begBusy (T := 35) (me := me) (s := ⟨#[]⟩) hWX (by have h9 := HR.out.blk; simpa [begN, turnCells, HME.out] using h9) (own_monoS HR.out.row (by omega)) : Busy 35 wr WA.heap.size X (begN me (births * 4096) ⟨#[]⟩ A c Q) none 0 [] (.slice none 0 0))
      clear hbl
      have HJ := Lib.hid (joining_c wr WA.heap.size X (begN me (births * 4096) ⟨#[]⟩ A c Q) none 0 [] (.slice none 0 0) (by simp [begN]; exact HP1.out) (fun W hb9 => HT.out.later (HBR.out.trans (hb9.mono HBA.out.size))) HBU.out (by have := HBI.out; show 1 ≤ births * 4096 ∧ births * 4096 ≤ 1048576; omega) (by show (0 : Int) ≤ 0 ∧ (0 : Int) ≤ 1048576; omega) (by simp))
      go_wp2_with fail
      refine HJ.out.mono ?_
      rintro r w9 ⟨rfl, l', A', c', L', hbz, hld, hLD, hbe⟩
      have HPD := Lib.hid hLD
      have HAR := Lib.hid ((hbe.block R hRz).trans HAR.out)
      have HBR := Lib.hid (HBR.out.trans (hbe.mono HBA.out.size))
      have hnl : ((begN me (births * 4096) ⟨#[]⟩ A c Q).link 0 l').d = begD me (births * 4096) ⟨#[]⟩ Q := begN_link HME.out HP1.out hld
      have HPE := Lib.hid (show L'.map PostV.d = begP me (births * 4096) Q from HPD.out.trans (by
        unfold begP
        rw [if_neg HME.out]
        have hq0 := HP1.out
        cases Q with
        | nil => simp at hq0
        | cons p Q => rfl))
      have heq : (begN me (births * 4096) ⟨#[]⟩ A c Q).link 0 l' = ⟨me, births * 4096, 0, false, ⟨#[]⟩, A, c, ((begN me (births * 4096) ⟨#[]⟩ A c Q).link 0 l').S, none, 0, [], none, 0, []⟩ := by simp [NodeV.link, begN, HME.out]
      rw [heq] at hbz hnl
      clear heq hld hLD hbe
      generalize ((begN me (births * 4096) ⟨#[]⟩ A c Q).link 0 l').S = SS at hbz hnl
      clear x0 x1 x2 x3 x4 x5 x6 x7 x8 x9 xz
      obtain ⟨x0, x1, x2, x3, x4, x5, x6, x7, x8, x9, xz⟩ := ten_cell hbz.blk
      (try dsimp only [List.length_nil] at x0 x1 x2 x3 x4 x5 x6 x7 x8 x9)
      have HBZ2 := Lib.hid hbz
      obtain ⟨r0, r1, r2, r3, r4, r5, r6, r7, r8, r9, rz⟩ := ten_cell HAR.out
      have F0 := tenF HAR.out 0
      have F1 := tenF HAR.out 1
      have F2 := tenF HAR.out 2
      have F3 := tenF HAR.out 3
      have F4 := tenF HAR.out 4
      have F5 := tenF HAR.out 5
      have F6 := tenF HAR.out 6
      have F7 := tenF HAR.out 7
      have F8 := tenF HAR.out 8
      have F9 := tenF HAR.out 9
      have hRX' : ¬ R = X := by omega
      clear hbz
      go_wp2_with fail
      have hq := begFin (w := w) (n' := ⟨me, births * 4096, 0, false, ⟨#[]⟩, A, c, SS, none, 0, [], none, 0, []⟩) (by decide) HBZ2.out HAR.out hRz (by have := HRE.out; omega) HBR.out
      clear r0 r1 r2 r3 r4 r5 r6 r7 r8 r9 rz F0 F1 F2 F3 F4 F5 F6 F7 F8 F9 x0 x1 x2 x3 x4 x5 x6 x7 x8 x9 xz
      refine post_hide (fun H => H.heap[R]? = some (.cells #[.int .i64 me, .int .i64 (births * 4096), .int .i64 0, .bool false, .string ⟨#[]⟩, .slice A SS.length c, .slice none 0 0, .slice none 0 0, .slice A' L'.length c', .slice none 0 0] 35 (0, 0)) ∧ NodeV.InS (fun b => w.heap.size ≤ b ∧ b < H.heap.size) H ⟨me, births * 4096, 0, false, ⟨#[]⟩, A, c, SS, none, 0, [], none, 0, []⟩ ∧ PostsOwn H w.heap.size A' c' L' ∧ Below w.heap.size w H) hq ?_
      clear hq
      rintro H ⟨j1, j2, j3, j4⟩
      obtain ⟨r0, r1, r2, r3, r4, r5, r6, r7, r8, r9, rz⟩ := ten_cell j1
      refine bodyPost_ret (v := .tuple #[.agg #[.int .i64 me, .int .i64 (births * 4096), .int .i64 0, .bool false, .string ⟨#[]⟩, .slice A SS.length c, .slice none 0 0, .slice none 0 0, .slice A' L'.length c', .slice none 0 0], .int .i64 0]) (by simp [results, Tryd.results11, go_sem, r0, r1, r2, r3, r4, r5, r6, r7, r8, r9]) rfl ?_
      exact ⟨⟨me, births * 4096, 0, false, ⟨#[]⟩, A, c, SS, none, 0, [], none, 0, []⟩, A', c', L', rfl, hnl, j2, HPE.out, j3, j4⟩
end Go.Proofs.YtbmdepbmejnlkaaDoor
namespace Go.Proofs.YtbmdepbmejnlkaaDoor
open Go.ChangeShapes Go.WideShapes Go.ChangeAt Go.RowKit
set_option maxRecDepth 100000
set_option maxHeartbeats 1000000 in
theorem Begun_tree (w : World) (T : Option Addr) (N Nc : Nat) (zs : List Int) (me births : Int) (s : ByteArray) (hT : Tabs w) (hsm : s.size ≤ 1048576) (hz : Sl (· < w.heap.size) w 1 T N (zs.map (Value.int .i64))) (hN : N ≤ 9223372036854775807) (er : Int) (ht : treeFault zs = er) (hne : (er == 0) = false) :
    Calls Tryd.prog 11 #[.slice T N Nc, .int .i64 me, .int .i64 births, .string s] w (RetTurnP w zeroN.d [] er) := by
  have hl : zs.length = N := by have := hz.1; simpa using this
  have H1 := Lib.hid (fun W hz => TreeFault_c W T N Nc zs hz hN)
  rw [ht] at H1
  have H2 := Lib.hid (fun W hT => TextFault_c s W hT hsm)
  have hne' : (er != 0) = true := by simp [bne, hne]
  have HT := Lib.hid hT
  have HZ := Lib.hid hz
  clear hT hz ht hl hsm
  obtain ⟨R, hR⟩ : ∃ R, R = w.heap.size := ⟨_, rfl⟩
  obtain ⟨WA, hWA⟩ : ∃ WA, WA = w.alloc (.cells #[.int .i64 0, .int .i64 0, .int .i64 0, .bool false, .string ⟨#[]⟩, .slice none 0 0, .slice none 0 0, .slice none 0 0, .slice none 0 0, .slice none 0 0] 35) := ⟨_, rfl⟩
  have HX := Lib.hid (show WA.heap[R]? = some (.cells #[.int .i64 0, .int .i64 0, .int .i64 0, .bool false, .string ⟨#[]⟩, .slice none 0 0, .slice none 0 0, .slice none 0 0, .slice none 0 0, .slice none 0 0] 35 (0, 0)) by rw [hWA, hR]; exact World.alloc_heap_new _ _)
  have HB := Lib.hid (show Below w.heap.size w WA by rw [hWA]; exact bAlloc (Below.refl _ _) _)
  have hRz : R < WA.heap.size := (Array.getElem?_eq_some_iff.1 HX.out).1
  have HW := Lib.hid hWA.symm
  have HRE := Lib.hid hR.symm
  clear hWA hR
  go_enter Tryd.func11, Tryd.ntmps11
  go_wp2_with fail
  rw [HW.out, HRE.out]
  refine (H1.out _ (Sl.later HZ.out HB.out)).mono ?_
  rintro r w1 ⟨rfl, rfl⟩
  obtain ⟨r0, r1, r2, r3, r4, r5, r6, r7, r8, r9, rz⟩ := ten_cell HX.out
  have F0 := tenF HX.out 0
  have F1 := tenF HX.out 1
  have F2 := tenF HX.out 2
  have F3 := tenF HX.out 3
  have F4 := tenF HX.out 4
  have F5 := tenF HX.out 5
  have F6 := tenF HX.out 6
  have F7 := tenF HX.out 7
  have F8 := tenF HX.out 8
  have F9 := tenF HX.out 9
  go_wp2_with fail
  refine post_hide (fun H => H.heap[R]? = some (.cells #[.int .i64 0, .int .i64 0, .int .i64 0, .bool false, .string ⟨#[]⟩, .slice none 0 0, .slice none 0 0, .slice none 0 0, .slice none 0 0, .slice none 0 0] 35 (0, 0)) ∧ Below w.heap.size w H) ⟨ten_sets HX.out _ _ _ _ _ _ _ _ _ _, ?_⟩ ?_
  · have hwR : w.heap.size ≤ R := by have := HRE.out; omega
    repeat (refine bSet ?_ (by exact hwR) _)
    exact HB.out
  clear r0 r1 r2 r3 r4 r5 r6 r7 r8 r9 rz F0 F1 F2 F3 F4 F5 F6 F7 F8 F9
  rintro H ⟨j1, j3⟩
  obtain ⟨r0, r1, r2, r3, r4, r5, r6, r7, r8, r9, rz⟩ := ten_cell j1
  refine bodyPost_ret (v := .tuple #[.agg #[.int .i64 0, .int .i64 0, .int .i64 0, .bool false, .string ⟨#[]⟩, .slice none 0 0, .slice none 0 0, .slice none 0 0, .slice none 0 0, .slice none 0 0], .int .i64 er]) (by simp [results, Tryd.results11, go_sem, r0, r1, r2, r3, r4, r5, r6, r7, r8, r9]) rfl ?_
  exact ⟨zeroN, none, 0, [], rfl, rfl, zeroN_inS _ _, rfl, RowOwn.nil _ _, j3⟩
set_option maxHeartbeats 1000000 in
theorem Begun_me (w : World) (T : Option Addr) (N Nc : Nat) (zs : List Int) (me births : Int) (s : ByteArray) (hT : Tabs w) (hsm : s.size ≤ 1048576) (hz : Sl (· < w.heap.size) w 1 T N (zs.map (Value.int .i64))) (hN : N ≤ 9223372036854775807) (ht : treeFault zs = 0) (hm : me < 0 ∨ zs.length ≤ me) :
    Calls Tryd.prog 11 #[.slice T N Nc, .int .i64 me, .int .i64 births, .string s] w (RetTurnP w zeroN.d [] 13) := by
  have hl : zs.length = N := by have := hz.1; simpa using this
  have H1 := Lib.hid (fun W hz => TreeFault_c W T N Nc zs hz hN)
  rw [ht] at H1
  have H2 := Lib.hid (fun W hT => TextFault_c s W hT hsm)
  have HI1 := Lib.hid (fun W => In_no me 0 ((N : Int) - 1) W (by omega))
  have HT := Lib.hid hT
  have HZ := Lib.hid hz
  clear hT hz ht hl hsm
  obtain ⟨R, hR⟩ : ∃ R, R = w.heap.size := ⟨_, rfl⟩
  obtain ⟨WA, hWA⟩ : ∃ WA, WA = w.alloc (.cells #[.int .i64 0, .int .i64 0, .int .i64 0, .bool false, .string ⟨#[]⟩, .slice none 0 0, .slice none 0 0, .slice none 0 0, .slice none 0 0, .slice none 0 0] 35) := ⟨_, rfl⟩
  have HX := Lib.hid (show WA.heap[R]? = some (.cells #[.int .i64 0, .int .i64 0, .int .i64 0, .bool false, .string ⟨#[]⟩, .slice none 0 0, .slice none 0 0, .slice none 0 0, .slice none 0 0, .slice none 0 0] 35 (0, 0)) by rw [hWA, hR]; exact World.alloc_heap_new _ _)
  have HB := Lib.hid (show Below w.heap.size w WA by rw [hWA]; exact bAlloc (Below.refl _ _) _)
  have hRz : R < WA.heap.size := (Array.getElem?_eq_some_iff.1 HX.out).1
  have HW := Lib.hid hWA.symm
  have HRE := Lib.hid hR.symm
  clear hWA hR
  go_enter Tryd.func11, Tryd.ntmps11
  go_wp2_with fail
  rw [HW.out, HRE.out]
  refine (H1.out _ (Sl.later HZ.out HB.out)).mono ?_
  rintro r w1 ⟨rfl, rfl⟩
  go_wp2_with fail
  refine (HI1.out _).mono ?_
  rintro r w1 ⟨rfl, rfl⟩
  obtain ⟨r0, r1, r2, r3, r4, r5, r6, r7, r8, r9, rz⟩ := ten_cell HX.out
  have F0 := tenF HX.out 0
  have F1 := tenF HX.out 1
  have F2 := tenF HX.out 2
  have F3 := tenF HX.out 3
  have F4 := tenF HX.out 4
  have F5 := tenF HX.out 5
  have F6 := tenF HX.out 6
  have F7 := tenF HX.out 7
  have F8 := tenF HX.out 8
  have F9 := tenF HX.out 9
  go_wp2_with fail
  refine post_hide (fun H => H.heap[R]? = some (.cells #[.int .i64 0, .int .i64 0, .int .i64 0, .bool false, .string ⟨#[]⟩, .slice none 0 0, .slice none 0 0, .slice none 0 0, .slice none 0 0, .slice none 0 0] 35 (0, 0)) ∧ Below w.heap.size w H) ⟨ten_sets HX.out _ _ _ _ _ _ _ _ _ _, ?_⟩ ?_
  · have hwR : w.heap.size ≤ R := by have := HRE.out; omega
    repeat (refine bSet ?_ (by exact hwR) _)
    exact HB.out
  clear r0 r1 r2 r3 r4 r5 r6 r7 r8 r9 rz F0 F1 F2 F3 F4 F5 F6 F7 F8 F9
  rintro H ⟨j1, j3⟩
  obtain ⟨r0, r1, r2, r3, r4, r5, r6, r7, r8, r9, rz⟩ := ten_cell j1
  refine bodyPost_ret (v := .tuple #[.agg #[.int .i64 0, .int .i64 0, .int .i64 0, .bool false, .string ⟨#[]⟩, .slice none 0 0, .slice none 0 0, .slice none 0 0, .slice none 0 0, .slice none 0 0], .int .i64 13]) (by simp [results, Tryd.results11, go_sem, r0, r1, r2, r3, r4, r5, r6, r7, r8, r9]) rfl ?_
  exact ⟨zeroN, none, 0, [], rfl, rfl, zeroN_inS _ _, rfl, RowOwn.nil _ _, j3⟩
set_option maxHeartbeats 1000000 in
theorem Begun_b (w : World) (T : Option Addr) (N Nc : Nat) (zs : List Int) (me births : Int) (s : ByteArray) (hT : Tabs w) (hsm : s.size ≤ 1048576) (hz : Sl (· < w.heap.size) w 1 T N (zs.map (Value.int .i64))) (hN : N ≤ 9223372036854775807) (ht : treeFault zs = 0) (hm : 0 ≤ me ∧ me < zs.length) (hb : births < 1 ∨ 250 < births) :
    Calls Tryd.prog 11 #[.slice T N Nc, .int .i64 me, .int .i64 births, .string s] w (RetTurnP w zeroN.d [] 2) := by
  have hl : zs.length = N := by have := hz.1; simpa using this
  have H1 := Lib.hid (fun W hz => TreeFault_c W T N Nc zs hz hN)
  rw [ht] at H1
  have H2 := Lib.hid (fun W hT => TextFault_c s W hT hsm)
  have HI1 := Lib.hid (fun W => In_yes me 0 ((N : Int) - 1) W (by omega) (by omega))
  have HI2 := Lib.hid (fun W => In_no births 1 250 W hb)
  have HT := Lib.hid hT
  have HZ := Lib.hid hz
  clear hT hz ht hl hsm
  obtain ⟨R, hR⟩ : ∃ R, R = w.heap.size := ⟨_, rfl⟩
  obtain ⟨WA, hWA⟩ : ∃ WA, WA = w.alloc (.cells #[.int .i64 0, .int .i64 0, .int .i64 0, .bool false, .string ⟨#[]⟩, .slice none 0 0, .slice none 0 0, .slice none 0 0, .slice none 0 0, .slice none 0 0] 35) := ⟨_, rfl⟩
  have HX := Lib.hid (show WA.heap[R]? = some (.cells #[.int .i64 0, .int .i64 0, .int .i64 0, .bool false, .string ⟨#[]⟩, .slice none 0 0, .slice none 0 0, .slice none 0 0, .slice none 0 0, .slice none 0 0] 35 (0, 0)) by rw [hWA, hR]; exact World.alloc_heap_new _ _)
  have HB := Lib.hid (show Below w.heap.size w WA by rw [hWA]; exact bAlloc (Below.refl _ _) _)
  have hRz : R < WA.heap.size := (Array.getElem?_eq_some_iff.1 HX.out).1
  have HW := Lib.hid hWA.symm
  have HRE := Lib.hid hR.symm
  clear hWA hR
  go_enter Tryd.func11, Tryd.ntmps11
  go_wp2_with fail
  rw [HW.out, HRE.out]
  refine (H1.out _ (Sl.later HZ.out HB.out)).mono ?_
  rintro r w1 ⟨rfl, rfl⟩
  go_wp2_with fail
  refine (HI1.out _).mono ?_
  rintro r w1 ⟨rfl, rfl⟩
  go_wp2_with fail
  refine (HI2.out _).mono ?_
  rintro r w1 ⟨rfl, rfl⟩
  obtain ⟨r0, r1, r2, r3, r4, r5, r6, r7, r8, r9, rz⟩ := ten_cell HX.out
  have F0 := tenF HX.out 0
  have F1 := tenF HX.out 1
  have F2 := tenF HX.out 2
  have F3 := tenF HX.out 3
  have F4 := tenF HX.out 4
  have F5 := tenF HX.out 5
  have F6 := tenF HX.out 6
  have F7 := tenF HX.out 7
  have F8 := tenF HX.out 8
  have F9 := tenF HX.out 9
  go_wp2_with fail
  refine post_hide (fun H => H.heap[R]? = some (.cells #[.int .i64 0, .int .i64 0, .int .i64 0, .bool false, .string ⟨#[]⟩, .slice none 0 0, .slice none 0 0, .slice none 0 0, .slice none 0 0, .slice none 0 0] 35 (0, 0)) ∧ Below w.heap.size w H) ⟨ten_sets HX.out _ _ _ _ _ _ _ _ _ _, ?_⟩ ?_
  · have hwR : w.heap.size ≤ R := by have := HRE.out; omega
    repeat (refine bSet ?_ (by exact hwR) _)
    exact HB.out
  clear r0 r1 r2 r3 r4 r5 r6 r7 r8 r9 rz F0 F1 F2 F3 F4 F5 F6 F7 F8 F9
  rintro H ⟨j1, j3⟩
  obtain ⟨r0, r1, r2, r3, r4, r5, r6, r7, r8, r9, rz⟩ := ten_cell j1
  refine bodyPost_ret (v := .tuple #[.agg #[.int .i64 0, .int .i64 0, .int .i64 0, .bool false, .string ⟨#[]⟩, .slice none 0 0, .slice none 0 0, .slice none 0 0, .slice none 0 0, .slice none 0 0], .int .i64 2]) (by simp [results, Tryd.results11, go_sem, r0, r1, r2, r3, r4, r5, r6, r7, r8, r9]) rfl ?_
  exact ⟨zeroN, none, 0, [], rfl, rfl, zeroN_inS _ _, rfl, RowOwn.nil _ _, j3⟩
set_option maxHeartbeats 1000000 in
theorem Begun_text (w : World) (T : Option Addr) (N Nc : Nat) (zs : List Int) (me births : Int) (s : ByteArray) (hT : Tabs w) (hsm : s.size ≤ 1048576) (hz : Sl (· < w.heap.size) w 1 T N (zs.map (Value.int .i64))) (hN : N ≤ 9223372036854775807) (ht : treeFault zs = 0) (hm : 0 ≤ me ∧ me < zs.length) (hb : 1 ≤ births ∧ births ≤ 250) (er : Int) (hx : textFault s = er) (hne : (er == 0) = false) :
    Calls Tryd.prog 11 #[.slice T N Nc, .int .i64 me, .int .i64 births, .string s] w (RetTurnP w zeroN.d [] er) := by
  have hl : zs.length = N := by have := hz.1; simpa using this
  have H1 := Lib.hid (fun W hz => TreeFault_c W T N Nc zs hz hN)
  rw [ht] at H1
  have H2 := Lib.hid (fun W hT => TextFault_c s W hT hsm)
  have HI1 := Lib.hid (fun W => In_yes me 0 ((N : Int) - 1) W (by omega) (by omega))
  have HI2 := Lib.hid (fun W => In_yes births 1 250 W hb.1 hb.2)
  rw [hx] at H2
  have hne' : (er != 0) = true := by simp [bne, hne]
  have HT := Lib.hid hT
  have HZ := Lib.hid hz
  clear hT hz ht hl hsm
  obtain ⟨R, hR⟩ : ∃ R, R = w.heap.size := ⟨_, rfl⟩
  obtain ⟨WA, hWA⟩ : ∃ WA, WA = w.alloc (.cells #[.int .i64 0, .int .i64 0, .int .i64 0, .bool false, .string ⟨#[]⟩, .slice none 0 0, .slice none 0 0, .slice none 0 0, .slice none 0 0, .slice none 0 0] 35) := ⟨_, rfl⟩
  have HX := Lib.hid (show WA.heap[R]? = some (.cells #[.int .i64 0, .int .i64 0, .int .i64 0, .bool false, .string ⟨#[]⟩, .slice none 0 0, .slice none 0 0, .slice none 0 0, .slice none 0 0, .slice none 0 0] 35 (0, 0)) by rw [hWA, hR]; exact World.alloc_heap_new _ _)
  have HB := Lib.hid (show Below w.heap.size w WA by rw [hWA]; exact bAlloc (Below.refl _ _) _)
  have hRz : R < WA.heap.size := (Array.getElem?_eq_some_iff.1 HX.out).1
  have HW := Lib.hid hWA.symm
  have HRE := Lib.hid hR.symm
  clear hWA hR
  go_enter Tryd.func11, Tryd.ntmps11
  go_wp2_with fail
  rw [HW.out, HRE.out]
  refine (H1.out _ (Sl.later HZ.out HB.out)).mono ?_
  rintro r w1 ⟨rfl, rfl⟩
  go_wp2_with fail
  refine (HI1.out _).mono ?_
  rintro r w1 ⟨rfl, rfl⟩
  go_wp2_with fail
  refine (HI2.out _).mono ?_
  rintro r w1 ⟨rfl, rfl⟩
  go_wp2_with fail
  refine (H2.out _ (HT.out.later HB.out)).mono ?_
  rintro r w2 ⟨rfl, hb2⟩
  have HB2 := Lib.hid (bThen HB.out hb2)
  have HX2 := Lib.hid ((hb2.block R hRz).trans HX.out)
  clear hb2 HB HX
  have HB := HB2
  have HX := HX2
  obtain ⟨r0, r1, r2, r3, r4, r5, r6, r7, r8, r9, rz⟩ := ten_cell HX.out
  have F0 := tenF HX.out 0
  have F1 := tenF HX.out 1
  have F2 := tenF HX.out 2
  have F3 := tenF HX.out 3
  have F4 := tenF HX.out 4
  have F5 := tenF HX.out 5
  have F6 := tenF HX.out 6
  have F7 := tenF HX.out 7
  have F8 := tenF HX.out 8
  have F9 := tenF HX.out 9
  go_wp2_with fail
  refine post_hide (fun H => H.heap[R]? = some (.cells #[.int .i64 0, .int .i64 0, .int .i64 0, .bool false, .string ⟨#[]⟩, .slice none 0 0, .slice none 0 0, .slice none 0 0, .slice none 0 0, .slice none 0 0] 35 (0, 0)) ∧ Below w.heap.size w H) ⟨ten_sets HX.out _ _ _ _ _ _ _ _ _ _, ?_⟩ ?_
  · have hwR : w.heap.size ≤ R := by have := HRE.out; omega
    repeat (refine bSet ?_ (by exact hwR) _)
    exact HB.out
  clear r0 r1 r2 r3 r4 r5 r6 r7 r8 r9 rz F0 F1 F2 F3 F4 F5 F6 F7 F8 F9
  rintro H ⟨j1, j3⟩
  obtain ⟨r0, r1, r2, r3, r4, r5, r6, r7, r8, r9, rz⟩ := ten_cell j1
  refine bodyPost_ret (v := .tuple #[.agg #[.int .i64 0, .int .i64 0, .int .i64 0, .bool false, .string ⟨#[]⟩, .slice none 0 0, .slice none 0 0, .slice none 0 0, .slice none 0 0, .slice none 0 0], .int .i64 er]) (by simp [results, Tryd.results11, go_sem, r0, r1, r2, r3, r4, r5, r6, r7, r8, r9]) rfl ?_
  exact ⟨zeroN, none, 0, [], rfl, rfl, zeroN_inS _ _, rfl, RowOwn.nil _ _, j3⟩
set_option maxHeartbeats 1000000 in
theorem Begun_form (w : World) (T : Option Addr) (N Nc : Nat) (zs : List Int) (me births : Int) (s : ByteArray) (hT : Tabs w) (hsm : s.size ≤ 1048576) (hz : Sl (· < w.heap.size) w 1 T N (zs.map (Value.int .i64))) (hN : N ≤ 9223372036854775807) (ht : treeFault zs = 0) (hm : 0 ≤ me ∧ me < zs.length) (hb : 1 ≤ births ∧ births ≤ 250) (hx : textFault s = 0) (hp : 0 < me) (hs : (!s.toList.isEmpty) = true) :
    Calls Tryd.prog 11 #[.slice T N Nc, .int .i64 me, .int .i64 births, .string s] w (RetTurnP w zeroN.d [] 4) := by
  have hl : zs.length = N := by have := hz.1; simpa using this
  have H1 := Lib.hid (fun W hz => TreeFault_c W T N Nc zs hz hN)
  rw [ht] at H1
  have H2 := Lib.hid (fun W hT => TextFault_c s W hT hsm)
  have HI1 := Lib.hid (fun W => In_yes me 0 ((N : Int) - 1) W (by omega) (by omega))
  have HI2 := Lib.hid (fun W => In_yes births 1 250 W hb.1 hb.2)
  rw [hx] at H2
  have t4 : decide (0 < me) = true := by simp; omega
  have HT := Lib.hid hT
  have HZ := Lib.hid hz
  clear hT hz ht hl hsm
  obtain ⟨R, hR⟩ : ∃ R, R = w.heap.size := ⟨_, rfl⟩
  obtain ⟨WA, hWA⟩ : ∃ WA, WA = w.alloc (.cells #[.int .i64 0, .int .i64 0, .int .i64 0, .bool false, .string ⟨#[]⟩, .slice none 0 0, .slice none 0 0, .slice none 0 0, .slice none 0 0, .slice none 0 0] 35) := ⟨_, rfl⟩
  have HX := Lib.hid (show WA.heap[R]? = some (.cells #[.int .i64 0, .int .i64 0, .int .i64 0, .bool false, .string ⟨#[]⟩, .slice none 0 0, .slice none 0 0, .slice none 0 0, .slice none 0 0, .slice none 0 0] 35 (0, 0)) by rw [hWA, hR]; exact World.alloc_heap_new _ _)
  have HB := Lib.hid (show Below w.heap.size w WA by rw [hWA]; exact bAlloc (Below.refl _ _) _)
  have hRz : R < WA.heap.size := (Array.getElem?_eq_some_iff.1 HX.out).1
  have HW := Lib.hid hWA.symm
  have HRE := Lib.hid hR.symm
  clear hWA hR
  go_enter Tryd.func11, Tryd.ntmps11
  go_wp2_with fail
  rw [HW.out, HRE.out]
  refine (H1.out _ (Sl.later HZ.out HB.out)).mono ?_
  rintro r w1 ⟨rfl, rfl⟩
  go_wp2_with fail
  refine (HI1.out _).mono ?_
  rintro r w1 ⟨rfl, rfl⟩
  go_wp2_with fail
  refine (HI2.out _).mono ?_
  rintro r w1 ⟨rfl, rfl⟩
  go_wp2_with fail
  refine (H2.out _ (HT.out.later HB.out)).mono ?_
  rintro r w2 ⟨rfl, hb2⟩
  have HB2 := Lib.hid (bThen HB.out hb2)
  have HX2 := Lib.hid ((hb2.block R hRz).trans HX.out)
  clear hb2 HB HX
  have HB := HB2
  have HX := HX2
  obtain ⟨r0, r1, r2, r3, r4, r5, r6, r7, r8, r9, rz⟩ := ten_cell HX.out
  have F0 := tenF HX.out 0
  have F1 := tenF HX.out 1
  have F2 := tenF HX.out 2
  have F3 := tenF HX.out 3
  have F4 := tenF HX.out 4
  have F5 := tenF HX.out 5
  have F6 := tenF HX.out 6
  have F7 := tenF HX.out 7
  have F8 := tenF HX.out 8
  have F9 := tenF HX.out 9
  go_wp2_with fail
  refine post_hide (fun H => H.heap[R]? = some (.cells #[.int .i64 0, .int .i64 0, .int .i64 0, .bool false, .string ⟨#[]⟩, .slice none 0 0, .slice none 0 0, .slice none 0 0, .slice none 0 0, .slice none 0 0] 35 (0, 0)) ∧ Below w.heap.size w H) ⟨ten_sets HX.out _ _ _ _ _ _ _ _ _ _, ?_⟩ ?_
  · have hwR : w.heap.size ≤ R := by have := HRE.out; omega
    repeat (refine bSet ?_ (by exact hwR) _)
    exact HB.out
  clear r0 r1 r2 r3 r4 r5 r6 r7 r8 r9 rz F0 F1 F2 F3 F4 F5 F6 F7 F8 F9
  rintro H ⟨j1, j3⟩
  obtain ⟨r0, r1, r2, r3, r4, r5, r6, r7, r8, r9, rz⟩ := ten_cell j1
  refine bodyPost_ret (v := .tuple #[.agg #[.int .i64 0, .int .i64 0, .int .i64 0, .bool false, .string ⟨#[]⟩, .slice none 0 0, .slice none 0 0, .slice none 0 0, .slice none 0 0, .slice none 0 0], .int .i64 4]) (by simp [results, Tryd.results11, go_sem, r0, r1, r2, r3, r4, r5, r6, r7, r8, r9]) rfl ?_
  exact ⟨zeroN, none, 0, [], rfl, rfl, zeroN_inS _ _, rfl, RowOwn.nil _ _, j3⟩
end Go.Proofs.YtbmdepbmejnlkaaDoor
