/-
  Contract of tape.Recover.
-/
import Derived.Test.YtieofljkgmkaiaaDoorRows
import Derived.Test.YtieofljkgmkaiaaDoorRecV
import Derived.Test.YtieofljkgmkaiaaDoorSameRecs
import Derived.Test.YtieofljkgmkaiaaDoorScan
import Derived.Test.YtieofljkgmkaiaaDoorTapeC
import Derived.Test.YtieofljkgmkaiaaDoorStop
import Derived.BigRegion
namespace Go.Proofs.YtieofljkgmkaiaaDoor
open Go.ChangeShapes Go.WideShapes Go.ChangeAt Go.RowKit
set_option maxRecDepth 100000

/-- The block of a tape's own two cells. -/
abbrev TapeAt (w : World) (P : Nat) (A : Option Addr) (n c : Nat) (sy : Int) : Prop := w.heap[P]? = some (.cells #[.slice A n c, .int .i64 sy] 49 (0, 0))
/-- A call that hands back these records, this tape and this error. -/
def RetRecs (w : World) (R : List (Int × List PartD)) (bs : List UInt8) (sy er : Int) (e : Ending) (w' : World) : Prop :=
  ∃ A c L B d, e = .returned (.tuple #[.slice A L.length c, tapeV B bs.length d sy, .int .i64 er]) ∧ L.map RecV.key = R ∧ RecsIn w' A L ∧ Sl (· < w'.heap.size) w' 1 B bs.length (bs.map byteV) ∧ Below w.heap.size w w'
theorem or_hi (n m i : Nat) (hm : m < 2 ^ i) (h1 : n * 2 ^ i < 2 ^ 62) (h2 : m < 2 ^ 62) : bits .or .i64 ((n * 2 ^ i : Nat) : Int) (m : Int) = ((n * 2 ^ i + m : Nat) : Int) := by
  have h := (bits_nat .i64 63 (by decide) i64_small' (n * 2 ^ i) m (by omega) (by omega)).2
  rw [h, ← Nat.shiftLeft_eq, ← Nat.shiftLeft_add_eq_or_of_lt hm]
theorem len_bits (a b c : Nat) (ha : a < 256) (hb : b < 256) (hc : c < 256) : bits .or .i64 (bits .or .i64 (wrap64 (wrap64 (a : Int) * 65536)) (wrap64 (wrap64 (b : Int) * 256))) (wrap64 (c : Int)) = ((65536 * a + 256 * b + c : Nat) : Int) := by
  have e1 : wrap64 (wrap64 (a : Int) * 65536) = ((a * 2 ^ 16 : Nat) : Int) := by unfold wrap64; omega
  have e2 : wrap64 (wrap64 (b : Int) * 256) = ((b * 256 : Nat) : Int) := by unfold wrap64; omega
  have e3 : wrap64 (c : Int) = (c : Int) := by unfold wrap64; omega
  rw [e1, e2, e3, or_hi a (b * 256) 16 (by omega) (by omega) (by omega), show a * 2 ^ 16 + b * 256 = (a * 256 + b) * 2 ^ 8 by omega, or_hi (a * 256 + b) c 8 (by omega) (by omega) (by omega)]
  congr 1
  omega
theorem rec_len {bs : List UInt8} {k : Nat} {n : Nat} (h : n = 65536 * (bs.getD k 0).toNat + 256 * (bs.getD (k + 1) 0).toNat + (bs.getD (k + 2) 0).toNat) : recLen (bs.drop k) = n := by
  subst h
  unfold recLen
  simp [List.getD_eq_getElem?_getD]
theorem rec_top {W : World} {cs : List Value} {t : TypeId} {n : Nat} {A : Option Addr} (hl : cs.length = n * 2) (hA : A = some ⟨W.heap.size, 0, none⟩) : Sl (fun _ => True) (W.alloc (.cells cs.toArray t)) 2 A n cs := by
  subst hA
  exact Sl.new W cs t 2 n hl trivial
theorem byte_at {w : World} {A : Option Addr} {bs : List UInt8} {S : Nat → Prop} (h : Sl S w 1 A bs.length (bs.map byteV)) {k : Nat} (hk : k < bs.length) : ∃ b o, A = some ⟨b, o, none⟩ ∧ S b ∧ ∀ j, j < bs.length → w.cell? ⟨b, o + j, none⟩ = some (.int .u8 ((bs.getD j 0).toNat : Int)) := by
  obtain ⟨b, o, e, hb, hc⟩ := h.2 (by omega)
  refine ⟨b, o, e, hb, fun j hj => hc j _ ?_⟩
  rw [List.getElem?_map, List.getElem?_eq_getElem hj]
  simp [byteV, List.getD_eq_getElem?_getD, List.getElem?_eq_getElem hj]
/-- What is known of the world where Recover returns. -/
structure RecEnd (w E : World) (Q : Nat) (A : Option Addr) (k d : Nat) (s : Int) (Ao : Option Addr) (L : List RecV) (xs : List Value) : Prop where
  t : TapeAt E Q A k d s
  r : RecsIn E Ao L
  x : Sl (· < E.heap.size) E 1 A k xs
  b : Below w.heap.size w E
theorem RecEnd.later {w E E' : World} {Q : Nat} {A : Option Addr} {k d : Nat} {s : Int} {Ao : Option Addr} {L : List RecV} {xs : List Value} (h : RecEnd w E Q A k d s Ao L xs) (hb : Below E.heap.size E E') : RecEnd w E' Q A k d s Ao L xs :=
  ⟨(hb.block _ (two_cell h.t).2.2.2.2).trans h.t, h.r.later hb, h.x.later hb, bThen h.b hb⟩
theorem RecEnd.of {w W : World} {Q base : Nat} {A : Option Addr} {k d co : Nat} {s : Int} {Ao : Option Addr} {L : List RecV} {xs : List Value} (hQw : w.heap.size < Q) (hQb : Q < base) (hQ : TapeAt W Q none 0 0 0) (hO : RecsOwn W base Ao co L) (hD : Sl (fun b => Q < b ∧ b < W.heap.size) W 1 A k xs) (hB : Below w.heap.size w W) :
    RecEnd w ((W.setCell ⟨Q, 0, none⟩ (.slice A k d)).setCell ⟨Q, 1, none⟩ (.int .i64 s)) Q A k d s Ao L xs :=
  ⟨two_set1 (two_set0 hQ), RecsOwn.in_ (hO.kept (w' := (W.setCell ⟨Q, 0, none⟩ (.slice A k d)).setCell ⟨Q, 1, none⟩ (.int .i64 s)) (by simp [World.setCell]) (fun b hb _ => (Below.heap_setCell _ _ _ _ (by show b ≠ Q; omega)).trans (Below.heap_setCell _ _ _ _ (by show b ≠ Q; omega)))),
    hD.moved fun b hb => ⟨by simp [World.setCell]; omega, (Below.heap_setCell _ _ _ _ (by show b ≠ Q; omega)).trans (Below.heap_setCell _ _ _ _ (by show b ≠ Q; omega))⟩,
    bSet (bSet hB (p := ⟨Q, 0, none⟩) (Nat.le_of_lt hQw) _) (p := ⟨Q, 1, none⟩) (Nat.le_of_lt hQw) _⟩
set_option maxHeartbeats 1000000 in
theorem Recover_ok (w : World) (A : Option Addr) (c : Nat) (bs : List UInt8) (sy : Int) (HS : Hid (Sl (· < w.heap.size) w 1 A bs.length (bs.map byteV))) (h : tapeOk bs sy) (HT : Hid (Tabs w)) :
    Calls Tryd.prog 29 #[tapeV A bs.length c sy] w (RetRecs w (recScan bs).1 (bs.take (recScan bs).2) (cutSync (recScan bs).2 sy) 0) := by
  obtain ⟨i0, hi, hz0, hz1, hz2⟩ := info_parts infoRec
  have hlen := h.2.2
  obtain ⟨W1, hW1⟩ : ∃ W1, W1 = w.alloc (.cells #[.slice A bs.length c, .int .i64 sy] 49) := ⟨_, rfl⟩
  obtain ⟨WA, hWA⟩ : ∃ WA, WA = W1.alloc (.cells #[.slice none 0 0, .int .i64 0] 49) := ⟨_, rfl⟩
  have g1 : W1.heap.size = w.heap.size + 1 := by rw [hW1]; simp
  have g2 : WA.heap.size = W1.heap.size + 1 := by rw [hWA]; simp
  have k1 : Below w.heap.size w W1 := by rw [hW1]; exact bAlloc (Below.refl _ _) _
  have k2 : Below W1.heap.size W1 WA := by rw [hWA]; exact bAlloc (Below.refl _ _) _
  have HQA := Lib.hid (show TapeAt WA W1.heap.size none 0 0 0 by rw [hWA]; show (W1.heap.push _)[W1.heap.size]? = _; simp)
  have HBA := Lib.hid (bThen k1 k2)
  have HW := Lib.hid (show (w.alloc (.cells #[.slice A bs.length c, .int .i64 sy] 49)).alloc (.cells #[.slice none 0 0, .int .i64 0] 49) = WA by rw [hWA, hW1])
  obtain ⟨Q, hQ⟩ : ∃ Q, Q = W1.heap.size := ⟨_, rfl⟩
  have HE1 := Lib.hid (show w.heap.size + 1 = Q by omega)
  have hQw : w.heap.size < Q := by omega
  have hQz : Q < WA.heap.size := by omega
  rw [← hQ] at HQA
  clear hQ k1 k2 g1 g2 hWA hW1
  go_enter Tryd.func29, Tryd.ntmps29
  go_wp2_with fail
  rw [HW.out, HE1.out]
  refine (open_ok WA A c bs sy (Sl.later HS.out HBA.out) h).mono ?_
  rintro e w1 ⟨A1, c1, rfl, ho1, hb1⟩
  have hz1' := hb1.size
  have hcap := own_cap ho1
  obtain ⟨X, hX⟩ : ∃ X, X = w1.heap.size := ⟨_, rfl⟩
  obtain ⟨WX, hWX⟩ : ∃ WX, WX = w1.alloc (.cells #[.slice A1 bs.length c1, .int .i64 sy] 49) := ⟨_, rfl⟩
  have hbX : Below w1.heap.size w1 WX := by rw [hWX]; exact bAlloc (Below.refl _ _) _
  have HXX := Lib.hid (show TapeAt WX X A1 bs.length c1 sy by rw [hWX, hX]; show (w1.heap.push _)[w1.heap.size]? = _; simp)
  have HBX := Lib.hid (bThen (bThen HBA.out hb1) hbX)
  have HQX := Lib.hid (show TapeAt WX Q none 0 0 0 from (hbX.block _ (by omega)).trans ((hb1.block _ (by omega)).trans HQA.out))
  have HOX := Lib.hid (Sl.later (own_sl ho1) hbX)
  have HTX := Lib.hid (HT.out.later HBX.out)
  have HOQ := Lib.hid (show Sl (fun b => Q < b ∧ b < w1.heap.size) WX 1 A1 bs.length (bs.map byteV) from (Sl.of_own _ ho1).moved fun b hb => ⟨⟨by omega, hb.2⟩, hbX.block b hb.2⟩)
  have hz1X := hbX.size
  have hXz : X < WX.heap.size := (two_cell HXX.out).2.2.2.2
  have hQX : Q < X := by omega
  have HWX := Lib.hid hWX
  have HXE := Lib.hid hX
  clear hWX hbX hb1 ho1 hX hz1'
  go_wp2_with fail
  rw [← HWX.out, ← HXE.out]
  go_loopw [7, 8] (fun out at_ wr => ∃ (k : Nat) (L : List RecV) (Ao : Option Addr) (co : Nat), k ≤ bs.length ∧ L.length ≤ k ∧ at_ = .int .i64 k ∧ out = .slice Ao L.length co ∧ Hid (Scanned bs k (L.map RecV.key)) ∧ RecsOwn wr WX.heap.size Ao co L ∧ Below WX.heap.size WX wr) (fun _ at_ _ => bs.length - (intOf at_).toNat)
  case atStart => exact ⟨0, [], none, 0, Nat.zero_le _, Nat.le_refl _, rfl, rfl, Scanned.start bs, RowOwn.nil _ _, Below.refl _ _⟩
  case round =>
    obtain ⟨k, L, Ao, co, hk, hLk, rfl, rfl, hsc, hown, hbw⟩ := hrel
    obtain ⟨x0, x1, f0, f1, hxz⟩ := two_cell ((hbw.block _ hXz).trans HXX.out)
    by_cases h3 : k + 3 ≤ bs.length
    · have d1 : decide ((k : Int) + 3 ≤ (bs.length : Int)) = true := by simp; omega
      obtain ⟨b, o, rfl, hbs, hby⟩ := byte_at (Sl.later HOX.out hbw) (k := k) (by omega)
      have b0 := hby k (by omega)
      have b1 := hby (k + 1) (by omega)
      have b2 := hby (k + 2) (by omega)
      have hv := len_bits _ _ _ (bs.getD k 0).toNat_lt (bs.getD (k + 1) 0).toNat_lt (bs.getD (k + 2) 0).toNat_lt
      obtain ⟨n, hn⟩ : ∃ n, n = 65536 * (bs.getD k 0).toNat + 256 * (bs.getD (k + 1) 0).toNat + (bs.getD (k + 2) 0).toNat := ⟨_, rfl⟩
      have HN := Lib.hid (rec_len hn)
      have hnl : n < 16777216 := by have := (bs.getD k 0).toNat_lt; have := (bs.getD (k + 1) 0).toNat_lt; have := (bs.getD (k + 2) 0).toNat_lt; omega
      rw [← hn] at hv
      clear hn
      generalize (bs.getD k 0).toNat = y0 at *
      generalize (bs.getD (k + 1) 0).toNat = y1 at *
      generalize (bs.getD (k + 2) 0).toNat = y2 at *
      have HV := Lib.hid hv
      have HOW := Lib.hid hown
      clear hby hown hv
      go_wp2_with fail
      go_quiet (fail)
      rw [HV.out]
      refine post_hide (fun G => RecsOwn G WX.heap.size Ao co L ∧ Below WX.heap.size WX G) ⟨HOW.out.kept (Nat.le_refl _) (fun _ _ _ => rfl), bDrewN hbw _⟩ ?_
      clear HOW hbw b0 b1 b2 x0 x1 f0 f1 hxz
      rintro G ⟨hoG, hbG⟩
      obtain ⟨x0, x1, f0, f1, hxz⟩ := two_cell ((hbG.block _ hXz).trans HXX.out)
      have HOG := Lib.hid hoG
      clear hoG
      by_cases h4 : k + 3 + n ≤ bs.length
      · have d2 : decide ((bs.length : Int) < (k : Int) + 3 + (n : Int)) = false := by simp; omega
        have hll : (((bs.drop k).drop 3).take n).length = n := by simp; omega
        have HD := Lib.hid (fun (W : World) (A' : Option Addr) (c' : Nat) => DecodeRecord_c W A' c' (((bs.drop k).drop 3).take n))
        rw [hll] at HD
        obtain ⟨x, hx⟩ : ∃ x, readRec (((bs.drop k).drop 3).take n) = x := ⟨_, rfl⟩
        have HSL := Lib.hid (show Sl (· < G.heap.size) G 1 (some ⟨b, o + (k + 3), none⟩) n ((((bs.drop k).drop 3).take n).map byteV) from by
          have h1 := (Sl.drop (Sl.later HOX.out hbG) (show k + 3 ≤ bs.length from h3))
          have h2 := Sl.take h1 (k := n) (by simp; omega)
          simpa [Addr.add, List.drop_drop] using h2)
        have HXR := Lib.hid hx
        rw [hx] at HD
        clear hx hll
        obtain ⟨z, ps, er⟩ := x
        dsimp only at HD
        go_wp2_with fail
        all_goals (
          (try subst c1)
          refine (HD.out _ _ _ (by first | exact HSL.out | (have hn0 : n = 0 := by omega); subst hn0; exact ⟨by simp, fun h => absurd h (by omega)⟩) (HTX.out.later hbG)).mono ?_
          rintro e w2 ⟨A2, c2, rfl, ho2, hb2⟩
          have hzw := hb2.size
          have hsG := hbG.size
          obtain ⟨x0, x1, f0, f1, hxz⟩ := two_cell ((hb2.block _ hxz).trans ((hbG.block _ hXz).trans HXX.out))
          by_cases her : er = 0
          · subst her
            have HX := Lib.hid (((HOG.out.later hb2).row.alloc (.cells #[.int .i64 z, .slice A2 ps.length c2] 132)).alloc (.cells #[.int .i64 z, .slice A2 ps.length c2] 132))
            have HO2 := Lib.hid ho2
            have HB2 := Lib.hid hb2
            clear ho2 hb2
            go_wp2_with (refine stop_append rfl ?_)
            refine ⟨?_⟩
            refine wpList_append_sl _ rfl _ _ 51 rfl WX.heap.size 132 i0 (.agg #[.int .i64 0, .slice none 0 0]) 2 32 Tryd.underlying51 hi hz0 hz1 hz2 rfl (by decide) _ _ _ rfl HX.out (fun _ => True) _ _ _ _ rfl (rec_top (by rfl) (by simp)) ?c1 ?c2 ?c3 ?c4 ?_
            case c1 => intro u hu; simp at hu; rcases hu with rfl | rfl <;> rfl
            case c2 => unfold maxLen; omega
            case c3 => omega
            case c4 => simp; omega
            intro A' c' w3 hown' hgrow hat
            have hP := RowOwn.push (f := RecV.cells) (op := RecV.o) (x := ⟨z, A2, c2, ps⟩) (W2 := w2.alloc (.cells #[.int .i64 z, .slice A2 ps.length c2] 132)) HOG.out hsG (bAlloc HB2.out _) (HO2.out.moved fun b hb => ⟨⟨hb.1, by simp; omega⟩, heap_alloc_old _ _ b hb.2⟩) hgrow hown' hat
            have hF := push_frame hbG (bAlloc HB2.out _) hgrow (fun g hg => (HOG.out.row.lt g hg).1)
            have HSC := Lib.hid (show Scanned bs (k + 3 + n) ((L ++ [(⟨z, A2, c2, ps⟩ : RecV)]).map RecV.key) by rw [List.map_append]; exact Scanned.next hsc.out HN.out h4 HXR.out rfl)
            clear hown' hgrow hat
            go_wp2_with fail
            go_roundw
            case rel =>
              have h5 : (L ++ [(⟨z, A2, c2, ps⟩ : RecV)]).length ≤ k + 3 + n := by simp; omega
              have h6 : L.length + 1 = (L ++ [(⟨z, A2, c2, ps⟩ : RecV)]).length := by simp
              first
                | exact ⟨k + 3 + n, L ++ [⟨z, A2, c2, ps⟩], A', c', h4, h5, congrArg (Value.int .i64) (show (k : Int) + (3 + n) = ((k + 3 + n : Nat) : Int) by omega), congrArg (fun x => Value.slice A' x c') h6, HSC, hP, hF⟩
                | exact ⟨k + 3 + n, h4, L ++ [⟨z, A2, c2, ps⟩], h5, show (k : Int) + (3 + n) = ((k + 3 + n : Nat) : Int) by omega, A', c', ⟨rfl, h6, rfl⟩, HSC, hP⟩
            case measure => simp [intOf]; omega
          · have hne : (er != 0) = true := by simpa using her
            have hbE : Below WX.heap.size WX w2 := bThen hbG hb2
            have hzE := hbE.size
            have HQE := Lib.hid (show TapeAt w2 Q none 0 0 0 from (hbE.block _ (by omega)).trans HQX.out)
            have HEND := Lib.hid (RecEnd.of (d := k) (s := min sy k) (Ao := Ao) (co := co) (L := L) (base := WX.heap.size) (xs := (bs.take k).map byteV) hQw (by omega) HQE.out (HOG.out.later hb2) (Sl.take (HOQ.out.moved fun b hb => ⟨⟨hb.1, by omega⟩, hbE.block b (by omega)⟩) hk) (bThen HBX.out hbE))
            have HSE := Lib.hid (show recScan bs = (L.map RecV.key, k) from Scanned.stop hsc.out (not_read HN.out HXR.out her))
            obtain ⟨q0, q1, e0, e1, hqz⟩ := two_cell HQE.out
            have n1 : ¬ Q = X := by omega
            have n2 : ¬ X = Q := by omega
            clear hbE
            go_wp2_with fail
            go_region
            go_wp2
            refine post_hide (fun E => RecEnd w E Q (some ⟨b, o, none⟩) k k (min sy k) Ao L ((bs.take k).map byteV)) (by first | exact HEND.out | exact HEND.out.later (by repeat (first | exact Below.refl _ _ | apply bGrow | apply bAlloc | apply Below.drew | apply bDrewN | apply bIter))) ?_
            rintro E hE
            obtain ⟨z0, z1, _, _, _⟩ := two_cell hE.t
            refine bodyPost_ret (v := .tuple #[.slice Ao L.length co, tapeV (some ⟨b, o, none⟩) k k (min sy k), .int .i64 0]) (by simp [results, Tryd.results29, go_sem, z0, z1]) rfl ?_
            rw [HSE.out]
            have hlk : (bs.take k).length = k := by rw [List.length_take]; omega
            exact ⟨Ao, co, L, some ⟨b, o, none⟩, k, by dsimp only; rw [hlk, cutSync_min], rfl, hE.r, by rw [hlk]; exact hE.x, hE.b⟩)
      · have d2 : decide ((bs.length : Int) < (k : Int) + 3 + (n : Int)) = true := by simp; omega
        have hbE : Below WX.heap.size WX G := hbG
        have hzE := hbE.size
        have HQE := Lib.hid (show TapeAt G Q none 0 0 0 from (hbE.block _ (by omega)).trans HQX.out)
        have HEND := Lib.hid (RecEnd.of (d := k) (s := min sy k) (Ao := Ao) (co := co) (L := L) (base := WX.heap.size) (xs := (bs.take k).map byteV) hQw (by omega) HQE.out HOG.out (Sl.take (HOQ.out.moved fun b hb => ⟨⟨hb.1, by omega⟩, hbE.block b (by omega)⟩) hk) (bThen HBX.out hbE))
        have HSE := Lib.hid (show recScan bs = (L.map RecV.key, k) from Scanned.stop hsc.out (not_long HN.out h4 hk))
        obtain ⟨q0, q1, e0, e1, hqz⟩ := two_cell HQE.out
        have n1 : ¬ Q = X := by omega
        have n2 : ¬ X = Q := by omega
        clear hbE
        go_wp2_with fail
        go_region
        go_wp2
        refine post_hide (fun E => RecEnd w E Q (some ⟨b, o, none⟩) k k (min sy k) Ao L ((bs.take k).map byteV)) (by first | exact HEND.out | exact HEND.out.later (by repeat (first | exact Below.refl _ _ | apply bGrow | apply bAlloc | apply Below.drew | apply bDrewN | apply bIter))) ?_
        rintro E hE
        obtain ⟨z0, z1, _, _, _⟩ := two_cell hE.t
        refine bodyPost_ret (v := .tuple #[.slice Ao L.length co, tapeV (some ⟨b, o, none⟩) k k (min sy k), .int .i64 0]) (by simp [results, Tryd.results29, go_sem, z0, z1]) rfl ?_
        rw [HSE.out]
        have hlk : (bs.take k).length = k := by rw [List.length_take]; omega
        exact ⟨Ao, co, L, some ⟨b, o, none⟩, k, by dsimp only; rw [hlk, cutSync_min], rfl, hE.r, by rw [hlk]; exact hE.x, hE.b⟩
    · have d1 : decide ((k : Int) + 3 ≤ (bs.length : Int)) = false := by simp; omega
      have hbE : Below WX.heap.size WX wr := hbw
      have hzE := hbE.size
      have HQE := Lib.hid (show TapeAt wr Q none 0 0 0 from (hbE.block _ (by omega)).trans HQX.out)
      have HEND := Lib.hid (RecEnd.of (d := k) (s := min sy k) (Ao := Ao) (co := co) (L := L) (base := WX.heap.size) (xs := (bs.take k).map byteV) hQw (by omega) HQE.out hown (Sl.take (HOQ.out.moved fun b hb => ⟨⟨hb.1, by omega⟩, hbE.block b (by omega)⟩) hk) (bThen HBX.out hbE))
      have HSE := Lib.hid (show recScan bs = (L.map RecV.key, k) from Scanned.stop hsc.out (not_short h3 hk))
      obtain ⟨q0, q1, e0, e1, hqz⟩ := two_cell HQE.out
      have n1 : ¬ Q = X := by omega
      have n2 : ¬ X = Q := by omega
      clear hbE
      go_wp2_with fail
      go_region
      go_wp2
      refine post_hide (fun E => RecEnd w E Q (A1) k k (min sy k) Ao L ((bs.take k).map byteV)) (by first | exact HEND.out | exact HEND.out.later (by repeat (first | exact Below.refl _ _ | apply bGrow | apply bAlloc | apply Below.drew | apply bDrewN | apply bIter))) ?_
      rintro E hE
      obtain ⟨z0, z1, _, _, _⟩ := two_cell hE.t
      refine bodyPost_ret (v := .tuple #[.slice Ao L.length co, tapeV (A1) k k (min sy k), .int .i64 0]) (by simp [results, Tryd.results29, go_sem, z0, z1]) rfl ?_
      rw [HSE.out]
      have hlk : (bs.take k).length = k := by rw [List.length_take]; omega
      exact ⟨Ao, co, L, A1, k, by dsimp only; rw [hlk, cutSync_min], rfl, hE.r, by rw [hlk]; exact hE.x, hE.b⟩
theorem RecsIn.nil (w : World) : RecsIn w none [] := ⟨Sl.nil, by simp⟩
theorem Recover_state (w : World) (A : Option Addr) (c : Nat) (bs : List UInt8) (sy : Int) (h : ¬ tapeOk bs sy) (hm : bs.length ≤ 140737488351232) :
    Calls Tryd.prog 29 #[tapeV A bs.length c sy] w (RetRecs w [] [] 0 9) := by
  go_enter Tryd.func29, Tryd.ntmps29
  go_wp2_with fail
  refine (open_no _ A c bs sy h hm).mono ?_
  rintro e w1 ⟨rfl, hb⟩
  obtain ⟨⟨d1, os1⟩, rfl⟩ := beyond_of hb
  go_wp2
  refine bodyPost_ret (v := .tuple #[.slice none 0 0, tapeV none 0 0 0, .int .i64 9]) (by simp [results, Tryd.results29, go_sem]) rfl ?_
  exact ⟨none, 0, [], none, 0, rfl, rfl, RecsIn.nil _, Sl.nil, (by repeat (first | exact Below.refl _ _ | apply bGrow | apply bAlloc | apply Below.drew | apply bDrewN | apply bIter))⟩
end Go.Proofs.YtieofljkgmkaiaaDoor
