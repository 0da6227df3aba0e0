/-
  Contracts of the reference's sevens, textBytes, opBytes.
-/
import Derived.Test.YtiooimnlkcpnnaaDoorRows
import Derived.Test.YtiooimnlkcpnnaaDoorTapeC
import Derived.Test.YtiooimnlkcpnnaaDoorWireP
import Derived.Test.YtiooimnlkcpnnaaDoorBuf
namespace Go.Proofs.YtiooimnlkcpnnaaDoor
open Go.ChangeShapes Go.WideShapes Go.ChangeAt Go.RowKit
set_option maxRecDepth 100000
/-- One slice of bytes in a list of them. -/
structure Bsl where
  A : Option Addr
  c : Nat
  bs : List UInt8
abbrev Bsl.val (x : Bsl) : Value := .slice x.A x.bs.length x.c
theorem bss_list {W : World} {t : TypeId} (L : List Bsl) (h : ∀ x ∈ L, Sl (· < W.heap.size) W 1 x.A x.bs.length (x.bs.map byteV)) :
    Bss (W.alloc (.cells (L.map Bsl.val).toArray t)) (some ⟨W.heap.size, 0, none⟩) (L.map Bsl.bs) := by
  refine ⟨L.map Bsl.val, ?_, ?_⟩
  · rw [List.length_map]
    exact Sl.new W (L.map Bsl.val) t 1 L.length (by simp) (by simp)
  · intro i hi
    rw [List.length_map] at hi
    have e : (L.map Bsl.bs).getD i [] = L[i].bs := by simp [List.getD_eq_getElem?_getD, List.getElem?_eq_getElem hi]
    rw [e]
    exact ⟨L[i].A, L[i].c, by simp [List.getElem?_eq_getElem hi], Sl.later (h _ (List.getElem_mem hi)) (bAlloc (Below.refl _ _) _)⟩
theorem joined_list (W : World) (A : Option Addr) (n c : Nat) (L : List Bsl) (t : TypeId) (vs : Array Value) (bs : List UInt8) (hA : A = some ⟨W.heap.size, 0, none⟩) (hn : n = L.length) (hv : vs = (L.map Bsl.val).toArray) (hbs : (L.map Bsl.bs).flatten = bs)
    (hs : ∀ x ∈ L, Sl (· < W.heap.size) W 1 x.A x.bs.length (x.bs.map byteV)) (hm : n ≤ 1000000) (hf : bs.length ≤ 140737488351232) :
    Calls Tryd.prog 90 #[.slice A n c] (W.alloc (.cells vs t)) (RetBytes (W.alloc (.cells vs t)) bs) := by
  subst hA hn hv hbs
  have h := joined_c (W.alloc (.cells (L.map Bsl.val).toArray t)) (some ⟨W.heap.size, 0, none⟩) c (L.map Bsl.bs) (bss_list L hs) (by rw [List.length_map]; omega) hf
  rwa [List.length_map] at h
theorem joined_two (W : World) (A A1 A2 : Option Addr) (c c1 c2 n1 n2 : Nat) (b1 b2 : List UInt8) (t : TypeId) (hA : A = some ⟨W.heap.size, 0, none⟩) (e1 : n1 = b1.length) (e2 : n2 = b2.length)
    (h1 : Sl (· < W.heap.size) W 1 A1 n1 (b1.map byteV)) (h2 : Sl (· < W.heap.size) W 1 A2 n2 (b2.map byteV)) (hf : b1.length + b2.length ≤ 140737488351232) :
    Calls Tryd.prog 90 #[.slice A 2 c] (W.alloc (.cells #[.slice A1 n1 c1, .slice A2 n2 c2] t)) (RetBytes (W.alloc (.cells #[.slice A1 n1 c1, .slice A2 n2 c2] t)) (b1 ++ b2)) := by
  subst e1 e2
  exact joined_list W A 2 c [⟨A1, c1, b1⟩, ⟨A2, c2, b2⟩] t _ _ hA rfl rfl (by simp) (by
    intro x hx
    simp only [List.mem_cons, List.not_mem_nil, or_false] at hx
    rcases hx with rfl | rfl
    · exact h1
    · exact h2) (by decide) (by simpa using hf)
theorem joined_three (W : World) (A A1 A2 A3 : Option Addr) (c c1 c2 c3 n1 n2 n3 : Nat) (b1 b2 b3 : List UInt8) (t : TypeId) (hA : A = some ⟨W.heap.size, 0, none⟩) (e1 : n1 = b1.length) (e2 : n2 = b2.length) (e3 : n3 = b3.length)
    (h1 : Sl (· < W.heap.size) W 1 A1 n1 (b1.map byteV)) (h2 : Sl (· < W.heap.size) W 1 A2 n2 (b2.map byteV)) (h3 : Sl (· < W.heap.size) W 1 A3 n3 (b3.map byteV)) (hf : b1.length + b2.length + b3.length ≤ 140737488351232) :
    Calls Tryd.prog 90 #[.slice A 3 c] (W.alloc (.cells #[.slice A1 n1 c1, .slice A2 n2 c2, .slice A3 n3 c3] t)) (RetBytes (W.alloc (.cells #[.slice A1 n1 c1, .slice A2 n2 c2, .slice A3 n3 c3] t)) (b1 ++ b2 ++ b3)) := by
  subst e1 e2 e3
  exact joined_list W A 3 c [⟨A1, c1, b1⟩, ⟨A2, c2, b2⟩, ⟨A3, c3, b3⟩] t _ _ hA rfl rfl (by simp) (by
    intro x hx
    simp only [List.mem_cons, List.not_mem_nil, or_false] at hx
    rcases hx with rfl | rfl | rfl
    · exact h1
    · exact h2
    · exact h3) (by decide) (by simp only [List.length_append]; omega)
/-- What is handed back in memory of its own behind some other memory. -/
theorem RetBytes.back {w w1 w2 : World} {A : Option Addr} {c : Nat} {bs : List UInt8} (hb : Below w.heap.size w w1) (hown : w2.ownsRow w1.heap.size 5 1 (.slice A bs.length c) bs.length (bs.map byteV)) (h2 : Below w1.heap.size w1 w2) :
    RetBytes w bs (.returned (.slice A bs.length c)) w2 := ⟨A, c, rfl, own_lower hown hb.size, bThen hb h2⟩
theorem sevens_less (z : Int) (w : World) (h0 : 0 ≤ z) (h1 : z < 128) : Calls Tryd.prog 91 #[.int .i64 z] w (RetBytes w (sevensL z.toNat)) := by
  go_enter Tryd.func91, Tryd.ntmps91
  go_wp2_with fail
  go_ret
  have e : byteV (UInt8.ofNat z.toNat) = .int .u8 z := by
    show Value.int .u8 _ = _
    rw [byte_small (by omega), Int.toNat_of_nonneg h0]
  rw [sevens_small (by omega)]
  refine ⟨_, _, rfl, ?_, bAlloc (Below.refl _ _) _⟩
  rw [List.map_cons, List.map_nil, e]
  exact World.ownsRow_lit w #[.int .u8 z] 1 (Nat.le_refl _) (by unfold maxLen; omega) rfl
theorem sevens_more (z : Int) (w : World) (h0 : 128 ≤ z) (h1 : z ≤ 9223372036854775807) (ih : ∀ w', Calls Tryd.prog 91 #[.int .i64 (z / 128)] w' (RetBytes w' (sevensL (z / 128).toNat))) : Calls Tryd.prog 91 #[.int .i64 z] w (RetBytes w (sevensL z.toNat)) := by
  have IH := Lib.hid ih
  have HE := Lib.hid (show sevensL z.toNat = [UInt8.ofNat (128 + z.toNat % 128)] ++ sevensL (z / 128).toNat by
    rw [sevens_big (by omega), show z.toNat / 128 = (z / 128).toNat by omega]
    rfl)
  have HB := Lib.hid (show byteV (UInt8.ofNat (128 + z.toNat % 128)) = .int .u8 (128 + z % 128) by
    show Value.int .u8 _ = _
    rw [byte_small (by omega)]
    congr 1
    omega)
  have hlen := sevens_ten (n := (z / 128).toNat) (by omega)
  generalize sevensL (z / 128).toNat = bs at *
  clear ih
  go_enter Tryd.func91, Tryd.ntmps91
  go_wp2_with fail
  refine (IH.out _).mono ?_
  rintro e w1 ⟨A1, c1, rfl, hown, hb⟩
  have HO := Lib.hid (own_sl hown)
  have HB1 := Lib.hid (bThen (bAlloc (Below.refl w.heap.size w) _) hb)
  have HS := Lib.hid (Sl.later (Sl.new (S := (· < (w.alloc (.cells #[Value.int IntKind.u8 (128 + z % 128)] 5)).heap.size)) w [Value.int IntKind.u8 (128 + z % 128)] 5 1 1 rfl (by simp)) hb)
  clear hown hb
  go_wp2_with fail
  refine (joined_two w1 _ _ _ _ _ _ _ _ [UInt8.ofNat (128 + z.toNat % 128)] bs _ rfl rfl rfl (by rw [List.map_cons, List.map_nil, HB.out]; exact HS.out) HO.out (by simp; omega)).mono ?_
  rintro e w2 ⟨A2, c2, rfl, hown2, hb2⟩
  go_wp2_with fail
  go_ret
  rw [HE.out]
  exact RetBytes.back (bAlloc HB1.out _) hown2 hb2
theorem sevens_c : ∀ (n : Nat) (z : Int) (w : World), z.toNat ≤ n → 0 ≤ z → z ≤ 9223372036854775807 → Calls Tryd.prog 91 #[.int .i64 z] w (RetBytes w (sevensL z.toNat))
  | 0, z, w, hn, h0, _ => sevens_less z w h0 (by omega)
  | n + 1, z, w, hn, h0, h1 => by
    by_cases h : z < 128
    · exact sevens_less z w h0 h
    · exact sevens_more z w (by omega) h1 fun w' => sevens_c n (z / 128) w' (by omega) (by omega) (by omega)
theorem sevens_z (z : Int) (w : World) (h0 : 0 ≤ z) (h1 : z ≤ 9223372036854775807) : Calls Tryd.prog 91 #[.int .i64 z] w (RetBytes w (sevensL z.toNat)) := sevens_c _ z w (Nat.le_refl _) h0 h1
theorem convBytes {w : World} (s : ByteArray) : (convert 9 59 (.string s)).run Tryd.prog w = .ok (.slice (some ⟨w.heap.size, 0, none⟩) s.size (grownCap w s.size 0 5))
    (w.drew.alloc (.cells (bytesRow s (grownCap w s.size 0 5)) 5 ((bytesRow s (grownCap w s.size 0 5)).size, (bytesRow s (grownCap w s.size 0 5)).size + 1))) :=
  run_bytes_of_string w 9 59 5 s Tryd.underlying9 Tryd.underlying59 Tryd.underlying5
theorem bytesRow_sl (w : World) (s : ByteArray) (c : Nat) (t : TypeId) (fr : Nat × Nat) : Sl (· < (w.alloc (.cells (bytesRow s c) t fr)).heap.size) (w.alloc (.cells (bytesRow s c) t fr)) 1 (some ⟨w.heap.size, 0, none⟩) s.data.toList.length (s.data.toList.map byteV) := by
  refine ⟨by simp, fun hn => ⟨w.heap.size, 0, rfl, by simp, fun j u hu => ?_⟩⟩
  rw [World.cell?_alloc_mark, Nat.zero_add]
  have hj : j < s.data.size := by
    have := (List.getElem?_eq_some_iff.1 hu).1
    simpa using this
  rw [bytesRow_at s c j hj]
  rw [List.getElem?_map, List.getElem?_eq_getElem (by simpa using hj)] at hu
  simpa using hu
theorem textBytes_c (s : ByteArray) (w : World) (hs : s.size ≤ 1048576) : Calls Tryd.prog 93 #[.string s] w (RetBytes w (textL s)) := by
  have H := Lib.hid (fun W => sevens_z s.size W (by omega) (by omega))
  have hcv := fun (w : World) => convBytes (w := w) s
  have hlen := sevens_ten (n := s.size) (by omega)
  rw [show ((s.size : Nat) : Int).toNat = s.size by omega] at H
  have HE := Lib.hid (show textL s = sevensL s.size ++ s.data.toList from rfl)
  generalize sevensL s.size = bs at *
  go_enter Tryd.func93, Tryd.ntmps93
  go_wp2_with fail
  refine (H.out _).mono ?_
  rintro e w1 ⟨A1, c1, rfl, hown, hb⟩
  have HO := Lib.hid (own_sl hown)
  have HB1 := Lib.hid hb
  clear hown hb
  have HS := Lib.hid (bytesRow_sl w1 s (grownCap w1 s.size 0 5) 5 ((bytesRow s (grownCap w1 s.size 0 5)).size, (bytesRow s (grownCap w1 s.size 0 5)).size + 1))
  have hd : ∀ (X : World) (o : Obj), (X.alloc o).drew = X.drew.alloc o := fun _ _ => rfl
  have HD := Lib.hid hd
  clear hd
  go_wp2_with fail
  rw [HD.out]
  refine (joined_two (w1.alloc (.cells (bytesRow s (grownCap w1 s.size 0 5)) 5 ((bytesRow s (grownCap w1 s.size 0 5)).size, (bytesRow s (grownCap w1 s.size 0 5)).size + 1))).drew (some ⟨w1.heap.size + 1, 0, none⟩) A1 (some ⟨w1.heap.size, 0, none⟩) 2 c1 (grownCap w1 s.size 0 5) bs.length s.size bs s.data.toList _ ?_ rfl rfl ?_ ?_ ?_).mono ?_
  · simp
  · exact Sl.later HO.out (bAlloc (Below.refl _ _) _).drew
  · exact HS.out
  · rw [ba_len']
    omega
  rintro e w2 ⟨A2, c2, rfl, hown2, hb2⟩
  go_wp2_with fail
  go_ret
  rw [HE.out]
  exact ⟨A2, c2, by rw [List.length_append, ba_len']; rfl, own_lower hown2 (by have := HB1.out.size; simp; omega), bThen (bAlloc (bThen HB1.out (bAlloc (Below.refl _ _) _)).drew _) hb2⟩
/-- A call that hands back a slice that reads as these bytes. -/
def RetSl (w : World) (bs : List UInt8) (e : Ending) (w' : World) : Prop :=
  ∃ A c, e = .returned (.slice A bs.length c) ∧ Sl (· < w'.heap.size) w' 1 A bs.length (bs.map byteV) ∧ Below w.heap.size w w'
set_option maxHeartbeats 1000000 in
theorem opBytes_c (w : World) (A : Option Addr) (c : Nat) (ps : List PartD) (hs : OpIn (· < w.heap.size) w A ps) (hm : ps.length ≤ 8001) (hp : ∀ p ∈ ps, p.Writ) :
    Calls Tryd.prog 92 #[.slice A ps.length c] w (RetSl w (opL ps)) := by
  have H0 := Lib.hid (fun W => sevens_z ps.length W (by omega) (by omega))
  rw [show ((ps.length : Nat) : Int).toNat = ps.length by omega] at H0
  have HP := Lib.hid hp
  have HL := Lib.hid (fun k => opUpto_bound (ps := ps) k hm hp)
  clear hp
  go_enter Tryd.func92, Tryd.ntmps92
  go_wp2_with fail
  refine (H0.out _).mono ?_
  rintro e w1 ⟨A1, c1, rfl, hown1, hb1⟩
  have HO1 := Lib.hid (own_sl hown1)
  clear hown1
  go_wp2_with fail
  go_loopw [3, 4] (fun out i wr => ∃ (k : Nat) (Ao : Option Addr) (co : Nat), k ≤ ps.length ∧ i = .int .i64 k ∧ out = .slice Ao (opUpto ps k).length co ∧ Sl (· < wr.heap.size) wr 1 Ao (opUpto ps k).length ((opUpto ps k).map byteV) ∧ Below w.heap.size w wr) (fun _ i _ => ps.length - (intOf i).toNat)
  case atStart => exact ⟨0, A1, c1, Nat.zero_le _, rfl, by simp [opUpto], by simpa [opUpto] using HO1.out, hb1⟩
  case round =>
    obtain ⟨k, Ao, co, hk, rfl, rfl, hso, hbw⟩ := hrel
    have hsz := hbw.size
    by_cases hlt : k < ps.length
    · obtain ⟨b, o, rfl, hbs', g0, g1, g2⟩ := OpIn.at_ (ps := ps) (Sl.later hs hbw) hlt
      have hle := HL.out k
      have HU := Lib.hid (opUpto_succ ps k hlt)
      obtain ⟨hkd, hnn, htx⟩ := HP.out _ (List.getElem_mem hlt)
      have HSo := Lib.hid hso
      generalize ps[k] = p at *
      generalize opUpto ps k = up at *
      obtain ⟨kd, pn, tx⟩ := p
      dsimp only at *
      clear hso
      by_cases hk2 : kd = 2
      · subst hk2
        have HE := Lib.hid (show partL ⟨2, pn, tx⟩ = sevensL (2 : Int).toNat ++ textL tx from rfl)
        have HT := Lib.hid (fun W => textBytes_c tx W htx)
        have HZ := Lib.hid (fun W => sevens_z 2 W (by omega) (by omega))
        have ht := textL_length htx
        have hz := sevens_ten (n := (2 : Int).toNat) (by decide)
        generalize sevensL (2 : Int).toNat = sa at *
        generalize textL tx = sb at *
        go_wp2_with fail
        go_region_held3 (fun w' => w'.cell? ⟨b, o + k * 3 + 2, none⟩ = some (.string tx))
          (go_keep)
          ((first
            | (go_at_call 91; refine (HZ.out _).mono ?_; rintro e wa ⟨Aa, ca, rfl, hoa, hba⟩; obtain ⟨⟨da, osa⟩, rfl⟩ := beyond_of hba)
            | (go_at_call 93; refine (HT.out _).mono ?_; rintro e wb ⟨Ab, cb, rfl, hob, hbb⟩; obtain ⟨⟨db, osb⟩, rfl⟩ := beyond_of hbb)
            | (go_at_call 90; refine (joined_three _ _ _ _ _ _ _ _ _ _ _ _ up sa sb _ ?_ rfl rfl rfl ?_ ?_ ?_ ?_).mono ?_; simp; exact Sl.later HSo.out (bThen (below_regrown _ _ _) (below_regrown _ _ _)); (first | exact own_sl hoa | exact Sl.later (own_sl hoa) (below_regrown _ _ _)); (first | exact own_sl hob | exact Sl.later (own_sl hob) (below_regrown _ _ _)); omega; (rintro e w4 ⟨A4, c4, rfl, ho4, hb4⟩; obtain ⟨⟨d4, os4⟩, rfl⟩ := beyond_of hb4))))
        all_goals
          go_wp2_with fail
          go_roundw
          case rel => exact ⟨k + 1, A4, c4, by omega, by go_num, by rw [HU.out, HE.out]; simp; try omega, by rw [HU.out, HE.out]; simpa [List.append_assoc, Nat.add_assoc] using own_sl ho4, (by repeat (first | exact hbw | exact Below.refl _ _ | apply bGrow | apply bAlloc | apply Below.drew | apply bDrewN | apply bIter))⟩
          case measure => simp [intOf]; omega
      · have e2 : (kd == 2) = false := by simpa using hk2
        have hn2 := hnn hk2
        have HE := Lib.hid (show partL ⟨kd, pn, tx⟩ = sevensL kd.toNat ++ sevensL pn.toNat by unfold partL; rw [if_neg hk2])
        have HZ := Lib.hid (fun W => sevens_z kd W hkd.1 hkd.2)
        have HT := Lib.hid (fun W => sevens_z pn W hn2.1 hn2.2)
        have ht := sevens_ten (n := pn.toNat) (by omega)
        have hz := sevens_ten (n := kd.toNat) (by omega)
        generalize sevensL kd.toNat = sa at *
        generalize sevensL pn.toNat = sb at *
        clear hk2 hnn
        go_wp2_with fail
        go_region_held3 (fun w' => w'.cell? ⟨b, o + k * 3, none⟩ = some (.int .i64 kd) ∧ w'.cell? ⟨b, o + k * 3 + 1, none⟩ = some (.int .i64 pn))
          (go_keep)
          ((first
            | (go_at_call 91; (with_reducible refine (HZ.out _).mono ?_); rintro e wa ⟨Aa, ca, rfl, hoa, hba⟩; obtain ⟨⟨da, osa⟩, rfl⟩ := beyond_of hba)
            | (go_at_call 91; (with_reducible refine (HT.out _).mono ?_); rintro e wb ⟨Ab, cb, rfl, hob, hbb⟩; obtain ⟨⟨db, osb⟩, rfl⟩ := beyond_of hbb)
            | (go_at_call 90; refine (joined_three _ _ _ _ _ _ _ _ _ _ _ _ up sa sb _ ?_ rfl rfl rfl ?_ ?_ ?_ ?_).mono ?_; simp; exact Sl.later HSo.out (bThen (below_regrown _ _ _) (below_regrown _ _ _)); (first | exact own_sl hoa | exact Sl.later (own_sl hoa) (below_regrown _ _ _)); (first | exact own_sl hob | exact Sl.later (own_sl hob) (below_regrown _ _ _)); omega; (rintro e w4 ⟨A4, c4, rfl, ho4, hb4⟩; obtain ⟨⟨d4, os4⟩, rfl⟩ := beyond_of hb4))))
        all_goals
          go_wp2_with fail
          go_roundw
          case rel => exact ⟨k + 1, A4, c4, by omega, by go_num, by rw [HU.out, HE.out]; simp; try omega, by rw [HU.out, HE.out]; simpa [List.append_assoc, Nat.add_assoc] using own_sl ho4, (by repeat (first | exact hbw | exact Below.refl _ _ | apply bGrow | apply bAlloc | apply Below.drew | apply bDrewN | apply bIter))⟩
          case measure => simp [intOf]; omega
    · obtain rfl : k = ps.length := by omega
      go_wp2_with fail
      go_ret
      rw [← opUpto_all]
      exact ⟨Ao, co, rfl, hso, hbw⟩
end Go.Proofs.YtiooimnlkcpnnaaDoor
