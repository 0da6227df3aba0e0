/-
  Contract of wherryref.TapeRecovered.
-/
import Derived.Test.YtieofljkgmkaiaaDoorRows
import Derived.Test.YtieofljkgmkaiaaDoorRecover
namespace Go.Proofs.YtieofljkgmkaiaaDoor
open Go.ChangeShapes Go.WideShapes Go.ChangeAt Go.RowKit
set_option maxRecDepth 100000
set_option maxHeartbeats 1000000 in
theorem Recovered_state (w : World) (A : Option Addr) (c : Nat) (bs : List UInt8) (sy : Int) (h : ¬ tapeOk bs sy) :
    Calls Tryd.prog 30 #[tapeV A bs.length c sy] w (RetRecs w [] [] 0 9) := by
  go_enter Tryd.func30, Tryd.ntmps30
  go_wp2_with fail
  refine (TapeMay_no _ A c bs sy h).mono ?_
  rintro e w1 ⟨rfl, hb⟩
  obtain ⟨⟨d1, os1⟩, rfl⟩ := beyond_of hb
  go_wp2
  refine bodyPost_ret (v := .tuple #[.slice none 0 0, tapeV none 0 0 0, .int .i64 9]) (by simp [results, Tryd.results30, go_sem]) rfl ?_
  exact ⟨none, 0, [], none, 0, rfl, rfl, RecsIn.nil _, Sl.nil, (by repeat (first | exact Below.refl _ _ | apply bGrow | apply bAlloc | apply Below.drew | apply bDrewN | apply bIter))⟩
set_option maxHeartbeats 1000000 in
theorem Recovered_ok (w : World) (A : Option Addr) (c : Nat) (bs : List UInt8) (sy : Int) (HS : Hid (Sl (· < w.heap.size) w 1 A bs.length (bs.map byteV))) (hc : bs.length ≤ c ∧ c ≤ 9223372036854775807) (h : tapeOk bs sy) (HT : Hid (Tabs w)) :
    Calls Tryd.prog 30 #[tapeV A bs.length c sy] w (RetRecs w (recScan bs).1 (bs.take (recScan bs).2) (cutSync (recScan bs).2 sy) 0) := by
  obtain ⟨i0, hi, hz0, hz1, hz2⟩ := info_parts infoRec
  have hlen := h.2.2
  obtain ⟨W1, hW1⟩ : ∃ W1, W1 = w.alloc (.cells #[.slice A bs.length c, .int .i64 sy] 49) := ⟨_, rfl⟩
  obtain ⟨WA, hWA⟩ : ∃ WA, WA = W1.alloc (.cells #[.slice none 0 0, .int .i64 0] 49) := ⟨_, rfl⟩
  have g1 : W1.heap.size = w.heap.size + 1 := by rw [hW1]; simp
  have g2 : WA.heap.size = W1.heap.size + 1 := by rw [hWA]; simp
  have k1 : Below w.heap.size w W1 := by rw [hW1]; exact bAlloc (Below.refl _ _) _
  have k2 : Below W1.heap.size W1 WA := by rw [hWA]; exact bAlloc (Below.refl _ _) _
  have HPA := Lib.hid (show TapeAt WA w.heap.size A bs.length c sy from (k2.block _ (by omega)).trans (by rw [hW1]; exact heap_alloc_new _ _))
  have HQA := Lib.hid (show TapeAt WA W1.heap.size none 0 0 0 by rw [hWA]; exact heap_alloc_new _ _)
  have HBA := Lib.hid (bThen k1 k2)
  have HW := Lib.hid (show (w.alloc (.cells #[.slice A bs.length c, .int .i64 sy] 49)).alloc (.cells #[.slice none 0 0, .int .i64 0] 49) = WA by rw [hWA, hW1])
  obtain ⟨Q, hQ⟩ : ∃ Q, Q = W1.heap.size := ⟨_, rfl⟩
  obtain ⟨X, hX⟩ : ∃ X, X = w.heap.size := ⟨_, rfl⟩
  have HE0 := Lib.hid hX
  have HE1 := Lib.hid (show w.heap.size + 1 = Q by omega)
  have hQw : w.heap.size < Q := by omega
  have hQz : Q < WA.heap.size := by omega
  have hXQ : X < Q := by omega
  rw [← hQ] at HQA
  rw [← hX] at HPA
  clear hQ k1 k2 g1 g2 hWA hW1
  go_enter Tryd.func30, Tryd.ntmps30
  go_wp2_with fail
  rw [HW.out, HE1.out, ← HE0.out]
  refine (TapeMay_ok _ A c bs sy h).mono ?_
  rintro e WX ⟨rfl, hb1⟩
  have hz1' := hb1.size
  have HBX := Lib.hid (bThen HBA.out hb1)
  have HXX := Lib.hid (show TapeAt WX X A bs.length c sy from (hb1.block _ (by omega)).trans HPA.out)
  have HQX := Lib.hid (show TapeAt WX Q none 0 0 0 from (hb1.block _ (by omega)).trans HQA.out)
  have HOX := Lib.hid (Sl.later HS.out HBX.out)
  have HTX := Lib.hid (HT.out.later HBX.out)
  have hXz : X < WX.heap.size := by omega
  clear hb1 hX
  go_wp2_with fail
  go_loopw [5, 6] (fun out at_ wr => ∃ (k : Nat) (L : List RecV) (Ao : Option Addr) (co : Nat), k ≤ bs.length ∧ L.length ≤ k ∧ at_ = .int .i64 k ∧ out = .slice Ao L.length co ∧ Hid (Scanned bs k (L.map RecV.key)) ∧ RecsOwn wr WX.heap.size Ao co L ∧ Below WX.heap.size WX wr) (fun _ at_ _ => bs.length - (intOf at_).toNat)
  case atStart => exact ⟨0, [], none, 0, Nat.zero_le _, Nat.le_refl _, rfl, rfl, Scanned.start bs, RowOwn.nil _ _, Below.refl _ _⟩
  case round =>
    obtain ⟨k, L, Ao, co, hk, hLk, rfl, rfl, hsc, hown, hbw⟩ := hrel
    obtain ⟨x0, x1, f0, f1, hxz⟩ := two_cell ((hbw.block _ hXz).trans HXX.out)
    by_cases h3 : k + 3 ≤ bs.length
    · have d1 : decide ((k : Int) + 3 ≤ (bs.length : Int)) = true := by simp; omega
      obtain ⟨b, o, rfl, hbs, hby⟩ := byte_at (Sl.later HOX.out hbw) (k := k) (by omega)
      have b0 := hby k (by omega)
      have b1 := hby (k + 1) (by omega)
      have b2 := hby (k + 2) (by omega)
      obtain ⟨n, hn⟩ : ∃ n, n = 65536 * (bs.getD k 0).toNat + 256 * (bs.getD (k + 1) 0).toNat + (bs.getD (k + 2) 0).toNat := ⟨_, rfl⟩
      have HN := Lib.hid (rec_len hn)
      have hy0 := (bs.getD k 0).toNat_lt
      have hy1 := (bs.getD (k + 1) 0).toNat_lt
      have hy2 := (bs.getD (k + 2) 0).toNat_lt
      have hnl : n < 16777216 := by omega
      generalize (bs.getD k 0).toNat = y0 at *
      generalize (bs.getD (k + 1) 0).toNat = y1 at *
      generalize (bs.getD (k + 2) 0).toNat = y2 at *
      have HNY := Lib.hid hn
      have HOW := Lib.hid hown
      clear hby hown hn
      go_wp2_with fail
      go_quiet (fail)
      rw [show (k : Int) + 3 + 65536 * (y0 : Int) + 256 * (y1 : Int) + (y2 : Int) = (k : Int) + 3 + (n : Int) by have := HNY.out; omega]
      refine post_hide (fun G => RecsOwn G WX.heap.size Ao co L ∧ Below WX.heap.size WX G) ⟨HOW.out.kept (Nat.le_refl _) (fun _ _ _ => rfl), bDrewN hbw _⟩ ?_
      clear HOW hbw b0 b1 b2 x0 x1 f0 f1 hxz
      rintro G ⟨hoG, hbG⟩
      obtain ⟨x0, x1, f0, f1, hxz⟩ := two_cell ((hbG.block _ hXz).trans HXX.out)
      have HOG := Lib.hid hoG
      clear hoG
      by_cases h4 : k + 3 + n ≤ bs.length
      · have d2 : decide ((bs.length : Int) < (k : Int) + 3 + (n : Int)) = false := by simp; omega
        have hll : (((bs.drop k).drop 3).take n).length = n := by simp; omega
        have HD := Lib.hid (fun (W : World) (A' : Option Addr) (c' : Nat) => RecordOf_c W A' c' (((bs.drop k).drop 3).take n))
        rw [hll] at HD
        obtain ⟨x, hx⟩ : ∃ x, readRec (((bs.drop k).drop 3).take n) = x := ⟨_, rfl⟩
        have HSL := Lib.hid (show Sl (· < G.heap.size) G 1 (some ⟨b, o + (k + 3), none⟩) n ((((bs.drop k).drop 3).take n).map byteV) from by
          have h1 := (Sl.drop (Sl.later HOX.out hbG) (show k + 3 ≤ bs.length from h3))
          have h2 := Sl.take h1 (k := n) (by simp; omega)
          simpa [Addr.add, List.drop_drop] using h2)
        have HXR := Lib.hid hx
        rw [hx] at HD
        clear hx hll
        obtain ⟨z, ps, er⟩ := x
        dsimp only at HD
        go_wp2_with fail
        all_goals (
          (try subst c)
          refine (HD.out _ _ _ (by first | exact HSL.out | (have hn0 : n = 0 := by omega); subst hn0; exact ⟨by simp, fun h => absurd h (by omega)⟩) (by omega) (HTX.out.later hbG)).mono ?_
          rintro e w2 ⟨A2, c2, rfl, ho2, hb2⟩
          have hzw := hb2.size
          have hsG := hbG.size
          obtain ⟨x0, x1, f0, f1, hxz⟩ := two_cell ((hb2.block _ hxz).trans ((hbG.block _ hXz).trans HXX.out))
          by_cases her : er = 0
          · subst her
            have HX := Lib.hid (((HOG.out.later hb2).row.alloc (.cells #[.int .i64 z, .slice A2 ps.length c2] 132)).alloc (.cells #[.int .i64 z, .slice A2 ps.length c2] 132))
            have HO2 := Lib.hid ho2
            have HB2 := Lib.hid hb2
            clear ho2 hb2
            go_wp2_with (refine stop_append rfl ?_)
            refine ⟨?_⟩
            refine wpList_append_sl _ rfl _ _ 51 rfl WX.heap.size 132 i0 (.agg #[.int .i64 0, .slice none 0 0]) 2 32 Tryd.underlying51 hi hz0 hz1 hz2 rfl (by decide) _ _ _ rfl HX.out (fun _ => True) _ _ _ _ rfl (rec_top (by rfl) (by simp)) ?c1 ?c2 ?c3 ?c4 ?_
            case c1 => intro u hu; simp at hu; rcases hu with rfl | rfl <;> rfl
            case c2 => unfold maxLen; omega
            case c3 => omega
            case c4 => simp; omega
            intro A' c' w3 hown' hgrow hat
            have hP := RowOwn.push (f := RecV.cells) (op := RecV.o) (x := ⟨z, A2, c2, ps⟩) (W2 := w2.alloc (.cells #[.int .i64 z, .slice A2 ps.length c2] 132)) HOG.out hsG (bAlloc HB2.out _) (HO2.out.moved fun b hb => ⟨⟨hb.1, by simp; omega⟩, heap_alloc_old _ _ b hb.2⟩) hgrow hown' hat
            have hF := push_frame hbG (bAlloc HB2.out _) hgrow (fun g hg => (HOG.out.row.lt g hg).1)
            have HSC := Lib.hid (show Scanned bs (k + 3 + n) ((L ++ [(⟨z, A2, c2, ps⟩ : RecV)]).map RecV.key) by rw [List.map_append]; exact Scanned.next hsc.out HN.out h4 HXR.out rfl)
            clear hown' hgrow hat
            go_wp2_with fail
            go_roundw
            case rel =>
              have h5 : (L ++ [(⟨z, A2, c2, ps⟩ : RecV)]).length ≤ k + 3 + n := by simp; omega
              have h6 : L.length + 1 = (L ++ [(⟨z, A2, c2, ps⟩ : RecV)]).length := by simp
              first
                | exact ⟨k + 3 + n, L ++ [⟨z, A2, c2, ps⟩], A', c', h4, h5, congrArg (Value.int .i64) (show (k : Int) + 3 + n = ((k + 3 + n : Nat) : Int) by omega), congrArg (fun x => Value.slice A' x c') h6, HSC, hP, hF⟩
                | exact ⟨k + 3 + n, h4, L ++ [⟨z, A2, c2, ps⟩], h5, show (k : Int) + 3 + n = ((k + 3 + n : Nat) : Int) by omega, A', c', ⟨rfl, h6, rfl⟩, HSC, hP⟩
            case measure => simp [intOf]; omega
          · have hne : (er != 0) = true := by simpa using her
            have hbE : Below WX.heap.size WX w2 := bThen hbG hb2
            have hzE := hbE.size
            have HBE := Lib.hid hbE
            have HQE := Lib.hid (show TapeAt w2 Q none 0 0 0 from (hbE.block _ (by omega)).trans HQX.out)
            have HOE := Lib.hid (show RecsOwn w2 WX.heap.size Ao co L from HOG.out.later hb2)
            have HSE := Lib.hid (show recScan bs = (L.map RecV.key, k) from Scanned.stop hsc.out (not_read HN.out HXR.out her))
            have hlk : (bs.take k).length = k := by rw [List.length_take]; omega
            have HDE := Lib.hid (show Sl (· < w2.heap.size) w2 1 (some ⟨b, o, none⟩) k ((bs.take k).map byteV) from Sl.take (Sl.later HOX.out hbE) hk)
            obtain ⟨q0, q1, e0, e1, hqz⟩ := two_cell HQE.out
            have n1 : ¬ Q = X := by omega
            have n2 : ¬ X = Q := by omega
            clear hbE
            by_cases h9 : (k : Int) < sy
            · have HC9 := Lib.hid (show cutSync k sy = (k : Int) from if_pos h9)
              go_wp2_with fail
              (with_reducible refine (joined_one _ (some ⟨b, o, none⟩) _ k _ _ (bs.take k) _ ?_ hlk ?_ (by omega)).mono ?_)
              · simp
              · exact HDE.out.later (by repeat (first | exact Below.refl _ _ | apply bGrow | apply bAlloc | apply Below.drew | apply bDrewN | apply bIter))
              rintro e w5 ⟨A9, c9, rfl, ho9, hb9⟩
              have hb5 := bThen (show Below w2.heap.size w2 _ from (by repeat (first | exact Below.refl _ _ | apply bGrow | apply bAlloc | apply Below.drew | apply bDrewN | apply bIter))) hb9
              have hz5 := hb5.size
              have HQ5 := Lib.hid (show TapeAt w5 Q none 0 0 0 from (hb5.block _ hqz).trans HQE.out)
              have HO5 := Lib.hid (show RecsOwn w5 WX.heap.size Ao co L from HOE.out.later hb5)
              have HEND := Lib.hid (RecEnd.of (d := c9) (s := k) (Ao := Ao) (co := co) (L := L) (base := WX.heap.size) (xs := (bs.take k).map byteV) hQw (by omega) HQ5.out HO5.out ((Sl.of_own _ ho9).moved fun b hb => ⟨⟨by simp at hb; omega, hb.2⟩, rfl⟩) (bThen HBX.out (bThen HBE.out hb5)))
              clear q0 q1 e0 e1 hb9 ho9
              obtain ⟨q0, q1, e0, e1, hqz'⟩ := two_cell HQ5.out
              go_wp2_with fail
              refine post_hide (fun E => RecEnd w E Q A9 k c9 (k) Ao L ((bs.take k).map byteV)) (by first | exact HEND.out | exact HEND.out.later (by repeat (first | exact Below.refl _ _ | apply bGrow | apply bAlloc | apply Below.drew | apply bDrewN | apply bIter))) ?_
              rintro E hE
              obtain ⟨z0, z1, _, _, _⟩ := two_cell hE.t
              refine bodyPost_ret (v := .tuple #[.slice Ao L.length co, tapeV A9 k c9 (k), .int .i64 0]) (by simp [results, Tryd.results30, go_sem, z0, z1]) rfl ?_
              rw [HSE.out]
              exact ⟨Ao, co, L, A9, c9, by dsimp only; rw [hlk, HC9.out], rfl, hE.r, by rw [hlk]; exact hE.x, hE.b⟩
            · have HC9 := Lib.hid (show cutSync k sy = sy from if_neg h9)
              go_wp2_with fail
              (with_reducible refine (joined_one _ (some ⟨b, o, none⟩) _ k _ _ (bs.take k) _ ?_ hlk ?_ (by omega)).mono ?_)
              · simp
              · exact HDE.out.later (by repeat (first | exact Below.refl _ _ | apply bGrow | apply bAlloc | apply Below.drew | apply bDrewN | apply bIter))
              rintro e w5 ⟨A9, c9, rfl, ho9, hb9⟩
              have hb5 := bThen (show Below w2.heap.size w2 _ from (by repeat (first | exact Below.refl _ _ | apply bGrow | apply bAlloc | apply Below.drew | apply bDrewN | apply bIter))) hb9
              have hz5 := hb5.size
              have HQ5 := Lib.hid (show TapeAt w5 Q none 0 0 0 from (hb5.block _ hqz).trans HQE.out)
              have HO5 := Lib.hid (show RecsOwn w5 WX.heap.size Ao co L from HOE.out.later hb5)
              have HEND := Lib.hid (RecEnd.of (d := c9) (s := sy) (Ao := Ao) (co := co) (L := L) (base := WX.heap.size) (xs := (bs.take k).map byteV) hQw (by omega) HQ5.out HO5.out ((Sl.of_own _ ho9).moved fun b hb => ⟨⟨by simp at hb; omega, hb.2⟩, rfl⟩) (bThen HBX.out (bThen HBE.out hb5)))
              clear q0 q1 e0 e1 hb9 ho9
              obtain ⟨q0, q1, e0, e1, hqz'⟩ := two_cell HQ5.out
              go_wp2_with fail
              refine post_hide (fun E => RecEnd w E Q A9 k c9 (sy) Ao L ((bs.take k).map byteV)) (by first | exact HEND.out | exact HEND.out.later (by repeat (first | exact Below.refl _ _ | apply bGrow | apply bAlloc | apply Below.drew | apply bDrewN | apply bIter))) ?_
              rintro E hE
              obtain ⟨z0, z1, _, _, _⟩ := two_cell hE.t
              refine bodyPost_ret (v := .tuple #[.slice Ao L.length co, tapeV A9 k c9 (sy), .int .i64 0]) (by simp [results, Tryd.results30, go_sem, z0, z1]) rfl ?_
              rw [HSE.out]
              exact ⟨Ao, co, L, A9, c9, by dsimp only; rw [hlk, HC9.out], rfl, hE.r, by rw [hlk]; exact hE.x, hE.b⟩)
      · have d2 : decide ((bs.length : Int) < (k : Int) + 3 + (n : Int)) = true := by simp; omega
        have hbE : Below WX.heap.size WX G := hbG
        have hzE := hbE.size
        have HBE := Lib.hid hbE
        have HQE := Lib.hid (show TapeAt G Q none 0 0 0 from (hbE.block _ (by omega)).trans HQX.out)
        have HOE := Lib.hid (show RecsOwn G WX.heap.size Ao co L from HOG.out)
        have HSE := Lib.hid (show recScan bs = (L.map RecV.key, k) from Scanned.stop hsc.out (not_long HN.out h4 hk))
        have hlk : (bs.take k).length = k := by rw [List.length_take]; omega
        have HDE := Lib.hid (show Sl (· < G.heap.size) G 1 (some ⟨b, o, none⟩) k ((bs.take k).map byteV) from Sl.take (Sl.later HOX.out hbE) hk)
        obtain ⟨q0, q1, e0, e1, hqz⟩ := two_cell HQE.out
        have n1 : ¬ Q = X := by omega
        have n2 : ¬ X = Q := by omega
        clear hbE
        by_cases h9 : (k : Int) < sy
        · have HC9 := Lib.hid (show cutSync k sy = (k : Int) from if_pos h9)
          go_wp2_with fail
          (with_reducible refine (joined_one _ (some ⟨b, o, none⟩) _ k _ _ (bs.take k) _ ?_ hlk ?_ (by omega)).mono ?_)
          · simp
          · exact HDE.out.later (by repeat (first | exact Below.refl _ _ | apply bGrow | apply bAlloc | apply Below.drew | apply bDrewN | apply bIter))
          rintro e w5 ⟨A9, c9, rfl, ho9, hb9⟩
          have hb5 := bThen (show Below G.heap.size G _ from (by repeat (first | exact Below.refl _ _ | apply bGrow | apply bAlloc | apply Below.drew | apply bDrewN | apply bIter))) hb9
          have hz5 := hb5.size
          have HQ5 := Lib.hid (show TapeAt w5 Q none 0 0 0 from (hb5.block _ hqz).trans HQE.out)
          have HO5 := Lib.hid (show RecsOwn w5 WX.heap.size Ao co L from HOE.out.later hb5)
          have HEND := Lib.hid (RecEnd.of (d := c9) (s := k) (Ao := Ao) (co := co) (L := L) (base := WX.heap.size) (xs := (bs.take k).map byteV) hQw (by omega) HQ5.out HO5.out ((Sl.of_own _ ho9).moved fun b hb => ⟨⟨by simp at hb; omega, hb.2⟩, rfl⟩) (bThen HBX.out (bThen HBE.out hb5)))
          clear q0 q1 e0 e1 hb9 ho9
          obtain ⟨q0, q1, e0, e1, hqz'⟩ := two_cell HQ5.out
          go_wp2_with fail
          refine post_hide (fun E => RecEnd w E Q A9 k c9 (k) Ao L ((bs.take k).map byteV)) (by first | exact HEND.out | exact HEND.out.later (by repeat (first | exact Below.refl _ _ | apply bGrow | apply bAlloc | apply Below.drew | apply bDrewN | apply bIter))) ?_
          rintro E hE
          obtain ⟨z0, z1, _, _, _⟩ := two_cell hE.t
          refine bodyPost_ret (v := .tuple #[.slice Ao L.length co, tapeV A9 k c9 (k), .int .i64 0]) (by simp [results, Tryd.results30, go_sem, z0, z1]) rfl ?_
          rw [HSE.out]
          exact ⟨Ao, co, L, A9, c9, by dsimp only; rw [hlk, HC9.out], rfl, hE.r, by rw [hlk]; exact hE.x, hE.b⟩
        · have HC9 := Lib.hid (show cutSync k sy = sy from if_neg h9)
          go_wp2_with fail
          (with_reducible refine (joined_one _ (some ⟨b, o, none⟩) _ k _ _ (bs.take k) _ ?_ hlk ?_ (by omega)).mono ?_)
          · simp
          · exact HDE.out.later (by repeat (first | exact Below.refl _ _ | apply bGrow | apply bAlloc | apply Below.drew | apply bDrewN | apply bIter))
          rintro e w5 ⟨A9, c9, rfl, ho9, hb9⟩
          have hb5 := bThen (show Below G.heap.size G _ from (by repeat (first | exact Below.refl _ _ | apply bGrow | apply bAlloc | apply Below.drew | apply bDrewN | apply bIter))) hb9
          have hz5 := hb5.size
          have HQ5 := Lib.hid (show TapeAt w5 Q none 0 0 0 from (hb5.block _ hqz).trans HQE.out)
          have HO5 := Lib.hid (show RecsOwn w5 WX.heap.size Ao co L from HOE.out.later hb5)
          have HEND := Lib.hid (RecEnd.of (d := c9) (s := sy) (Ao := Ao) (co := co) (L := L) (base := WX.heap.size) (xs := (bs.take k).map byteV) hQw (by omega) HQ5.out HO5.out ((Sl.of_own _ ho9).moved fun b hb => ⟨⟨by simp at hb; omega, hb.2⟩, rfl⟩) (bThen HBX.out (bThen HBE.out hb5)))
          clear q0 q1 e0 e1 hb9 ho9
          obtain ⟨q0, q1, e0, e1, hqz'⟩ := two_cell HQ5.out
          go_wp2_with fail
          refine post_hide (fun E => RecEnd w E Q A9 k c9 (sy) Ao L ((bs.take k).map byteV)) (by first | exact HEND.out | exact HEND.out.later (by repeat (first | exact Below.refl _ _ | apply bGrow | apply bAlloc | apply Below.drew | apply bDrewN | apply bIter))) ?_
          rintro E hE
          obtain ⟨z0, z1, _, _, _⟩ := two_cell hE.t
          refine bodyPost_ret (v := .tuple #[.slice Ao L.length co, tapeV A9 k c9 (sy), .int .i64 0]) (by simp [results, Tryd.results30, go_sem, z0, z1]) rfl ?_
          rw [HSE.out]
          exact ⟨Ao, co, L, A9, c9, by dsimp only; rw [hlk, HC9.out], rfl, hE.r, by rw [hlk]; exact hE.x, hE.b⟩
    · have d1 : decide ((k : Int) + 3 ≤ (bs.length : Int)) = false := by simp; omega
      have hbE : Below WX.heap.size WX wr := hbw
      have hzE := hbE.size
      have HBE := Lib.hid hbE
      have HQE := Lib.hid (show TapeAt wr Q none 0 0 0 from (hbE.block _ (by omega)).trans HQX.out)
      have HOE := Lib.hid (show RecsOwn wr WX.heap.size Ao co L from hown)
      have HSE := Lib.hid (show recScan bs = (L.map RecV.key, k) from Scanned.stop hsc.out (not_short h3 hk))
      have hlk : (bs.take k).length = k := by rw [List.length_take]; omega
      have HDE := Lib.hid (show Sl (· < wr.heap.size) wr 1 (A) k ((bs.take k).map byteV) from Sl.take (Sl.later HOX.out hbE) hk)
      obtain ⟨q0, q1, e0, e1, hqz⟩ := two_cell HQE.out
      have n1 : ¬ Q = X := by omega
      have n2 : ¬ X = Q := by omega
      clear hbE
      by_cases h9 : (k : Int) < sy
      · have HC9 := Lib.hid (show cutSync k sy = (k : Int) from if_pos h9)
        go_wp2_with fail
        (with_reducible refine (joined_one _ (A) _ k _ _ (bs.take k) _ ?_ hlk ?_ (by omega)).mono ?_)
        · simp
        · exact HDE.out.later (by repeat (first | exact Below.refl _ _ | apply bGrow | apply bAlloc | apply Below.drew | apply bDrewN | apply bIter))
        rintro e w5 ⟨A9, c9, rfl, ho9, hb9⟩
        have hb5 := bThen (show Below wr.heap.size wr _ from (by repeat (first | exact Below.refl _ _ | apply bGrow | apply bAlloc | apply Below.drew | apply bDrewN | apply bIter))) hb9
        have hz5 := hb5.size
        have HQ5 := Lib.hid (show TapeAt w5 Q none 0 0 0 from (hb5.block _ hqz).trans HQE.out)
        have HO5 := Lib.hid (show RecsOwn w5 WX.heap.size Ao co L from HOE.out.later hb5)
        have HEND := Lib.hid (RecEnd.of (d := c9) (s := k) (Ao := Ao) (co := co) (L := L) (base := WX.heap.size) (xs := (bs.take k).map byteV) hQw (by omega) HQ5.out HO5.out ((Sl.of_own _ ho9).moved fun b hb => ⟨⟨by simp at hb; omega, hb.2⟩, rfl⟩) (bThen HBX.out (bThen HBE.out hb5)))
        clear q0 q1 e0 e1 hb9 ho9
        obtain ⟨q0, q1, e0, e1, hqz'⟩ := two_cell HQ5.out
        go_wp2_with fail
        refine post_hide (fun E => RecEnd w E Q A9 k c9 (k) Ao L ((bs.take k).map byteV)) (by first | exact HEND.out | exact HEND.out.later (by repeat (first | exact Below.refl _ _ | apply bGrow | apply bAlloc | apply Below.drew | apply bDrewN | apply bIter))) ?_
        rintro E hE
        obtain ⟨z0, z1, _, _, _⟩ := two_cell hE.t
        refine bodyPost_ret (v := .tuple #[.slice Ao L.length co, tapeV A9 k c9 (k), .int .i64 0]) (by simp [results, Tryd.results30, go_sem, z0, z1]) rfl ?_
        rw [HSE.out]
        exact ⟨Ao, co, L, A9, c9, by dsimp only; rw [hlk, HC9.out], rfl, hE.r, by rw [hlk]; exact hE.x, hE.b⟩
      · have HC9 := Lib.hid (show cutSync k sy = sy from if_neg h9)
        go_wp2_with fail
        (with_reducible refine (joined_one _ (A) _ k _ _ (bs.take k) _ ?_ hlk ?_ (by omega)).mono ?_)
        · simp
        · exact HDE.out.later (by repeat (first | exact Below.refl _ _ | apply bGrow | apply bAlloc | apply Below.drew | apply bDrewN | apply bIter))
        rintro e w5 ⟨A9, c9, rfl, ho9, hb9⟩
        have hb5 := bThen (show Below wr.heap.size wr _ from (by repeat (first | exact Below.refl _ _ | apply bGrow | apply bAlloc | apply Below.drew | apply bDrewN | apply bIter))) hb9
        have hz5 := hb5.size
        have HQ5 := Lib.hid (show TapeAt w5 Q none 0 0 0 from (hb5.block _ hqz).trans HQE.out)
        have HO5 := Lib.hid (show RecsOwn w5 WX.heap.size Ao co L from HOE.out.later hb5)
        have HEND := Lib.hid (RecEnd.of (d := c9) (s := sy) (Ao := Ao) (co := co) (L := L) (base := WX.heap.size) (xs := (bs.take k).map byteV) hQw (by omega) HQ5.out HO5.out ((Sl.of_own _ ho9).moved fun b hb => ⟨⟨by simp at hb; omega, hb.2⟩, rfl⟩) (bThen HBX.out (bThen HBE.out hb5)))
        clear q0 q1 e0 e1 hb9 ho9
        obtain ⟨q0, q1, e0, e1, hqz'⟩ := two_cell HQ5.out
        go_wp2_with fail
        refine post_hide (fun E => RecEnd w E Q A9 k c9 (sy) Ao L ((bs.take k).map byteV)) (by first | exact HEND.out | exact HEND.out.later (by repeat (first | exact Below.refl _ _ | apply bGrow | apply bAlloc | apply Below.drew | apply bDrewN | apply bIter))) ?_
        rintro E hE
        obtain ⟨z0, z1, _, _, _⟩ := two_cell hE.t
        refine bodyPost_ret (v := .tuple #[.slice Ao L.length co, tapeV A9 k c9 (sy), .int .i64 0]) (by simp [results, Tryd.results30, go_sem, z0, z1]) rfl ?_
        rw [HSE.out]
        exact ⟨Ao, co, L, A9, c9, by dsimp only; rw [hlk, HC9.out], rfl, hE.r, by rw [hlk]; exact hE.x, hE.b⟩
end Go.Proofs.YtieofljkgmkaiaaDoor
