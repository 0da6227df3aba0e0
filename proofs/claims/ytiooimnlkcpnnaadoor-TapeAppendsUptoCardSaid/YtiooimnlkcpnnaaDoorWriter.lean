/-
  Contracts of the writer's methods put, text, op.
-/
import Derived.Test.YtiooimnlkcpnnaaDoorRows
import Derived.Test.YtiooimnlkcpnnaaDoorTapeA
import Derived.Test.YtiooimnlkcpnnaaDoorWireP
import Derived.Test.YtiooimnlkcpnnaaDoorBuf
import Derived.Lib.AppendStr
import Derived.Laws.Bits128
import Derived.Laws.BitsLemmas
namespace Go.Proofs.YtiooimnlkcpnnaaDoor
open Go.ChangeShapes Go.WideShapes Go.ChangeAt Go.RowKit
set_option maxRecDepth 100000
/-- The writer in block B has written these bytes. -/
abbrev Wr (w : World) (base B : Nat) (bs : List UInt8) : Prop := Buf 129 5 1 w base B bs.length (bs.map byteV)
theorem wr_put {w : World} {base B n : Nat} {A : Option Addr} {c : Nat} {v : Value} {xs : List Value} {bs : List UInt8} (hlo : base ≤ B) (hobj : w.heap[B]? = some (.cells #[v] 129 (0, 0)))
    (hrow : w.ownsRow base 5 1 (.slice A n c) n xs) (hn : bs.length = n) (hx : bs.map byteV = xs) : Wr (w.setCell ⟨B, 0, none⟩ (.slice A n c)) base B bs := by
  subst hn hx
  exact Buf.put (by decide) hlo hobj hrow
def WrTo (base B : Nat) (bs : List UInt8) (w : World) (e : Ending) (w' : World) : Prop := e = .returned (.tuple #[]) ∧ Wr w' base B bs ∧ Kept B w w'
theorem or128N : ∀ y : Nat, y < 128 → y ||| 128 = y + 128 := by decide
theorem i64_small (n : Int) (h₀ : 0 ≤ n) (h₁ : n < 2 ^ 63) : IntKind.i64.wrap n = n := by rw [IntKind.wrap_i64]; omega
theorem i64_or128 (y : Int) (h0 : 0 ≤ y) (h1 : y < 128) : bits .or .i64 y 128 = y + 128 := by
  obtain ⟨n, rfl⟩ : ∃ n : Nat, y = n := ⟨y.toNat, by omega⟩
  have h := (bits_nat .i64 63 (by decide) i64_small n 128 (by omega) (by decide)).2
  rw [or128N n (by omega)] at h
  simpa using h
theorem put_byte (m : Int) : bits .or .i64 (bits .and .i64 m 127) 128 % 256 = 128 + m % 128 := by
  rw [i64_and127, i64_or128 _ (by omega) (by omega)]
  omega
set_option maxHeartbeats 1000000 in
theorem put_c (w : World) (base B : Nat) (bs : List UInt8) (z : Int) (hw : Wr w base B bs) (h0 : 0 ≤ z) (h1 : z ≤ 9223372036854775807) (hl : bs.length ≤ 1099511627776) (hbs : base ≤ w.heap.size) :
    Calls Tryd.prog 87 #[.pointer (some ⟨B, 0, none⟩), .int .i64 z] w (WrTo base B (bs ++ sevensL z.toNat) w) := by
  obtain ⟨i0, hi, hz0, hz1, hz2⟩ := info_parts infoByte
  have hmax := sevens_ten (n := z.toNat) (by omega)
  have HW := Lib.hid hw
  clear hw
  go_enter Tryd.func87, Tryd.ntmps87
  go_wp2_with fail
  go_loopw [1] (fun n wr => ∃ (m : Int) (pre : List UInt8), n = .int .i64 m ∧ (0 ≤ m ∧ m ≤ z) ∧ Hid (pre ++ sevensL m.toNat = bs ++ sevensL z.toNat) ∧ Wr wr base B pre ∧ Kept B w wr)
    (fun n _ => (intOf n).toNat)
  case atStart => exact ⟨z, bs, rfl, ⟨h0, by omega⟩, rfl, HW.out, Kept.refl _ _⟩
  case round =>
    obtain ⟨m, pre, rfl, ⟨hm0, hm1⟩, hp, hwr, hbw⟩ := hrel
    obtain ⟨hlo, A, c, hobj, hown⟩ := hwr
    obtain ⟨hc, hf, hlt⟩ := box_cell hobj
    have hpl : pre.length + (sevensL m.toNat).length = bs.length + (sevensL z.toNat).length := by
      have := congrArg List.length hp.out
      simpa using this
    have hsz := hbw.size
    by_cases hm : 128 ≤ m
    · have HP := Lib.hid (show (pre ++ [UInt8.ofNat (128 + m.toNat % 128)]) ++ sevensL (m / 128).toNat = bs ++ sevensL z.toNat by
        rw [← hp.out, sevens_big (show ¬ m.toNat < 128 by omega), show m.toNat / 128 = (m / 128).toNat by omega]
        simp)
      have HB := Lib.hid (show byteV (UInt8.ofNat (128 + m.toNat % 128)) = .int .u8 (128 + m % 128) by
        show Value.int .u8 _ = _
        rw [byte_small (by omega)]
        congr 1
        omega)
      have HO := Lib.hid hobj
      have hpb := put_byte m
      have HS := Lib.hid (Sl.new (S := fun _ => True) wr [.int .u8 (128 + m % 128)] 5 1 1 rfl trivial)
      have HX := Lib.hid (World.ownsRow.alloc hown (.cells #[.int .u8 (128 + m % 128)] 5))
      clear hp hobj
      go_wp2_with (at_builtin; refine wpList_append_sl _ rfl _ _ 59 rfl base 5 i0 (.int .u8 0) 1 1 Tryd.underlying59 hi hz0 hz1 hz2 rfl (by decide) _ _ _ rfl HX.out (fun _ => True) _ _ _ _ rfl HS.out ?c1 ?c2 ?c3 ?c4 ?_)
      case c1 => intro u hu; simp at hu; subst hu; rfl
      case c2 => unfold maxLen; omega
      case c3 => omega
      case c4 => simp; omega
      intro A' c' w1 hown' hgrow hat
      have HO2 := Lib.hid (Buf.grown (by decide) ((heap_alloc_old wr (.cells #[.int .u8 (128 + m % 128)] 5) B hlt).trans HO.out) HX.out hgrow)
      obtain ⟨x1, x2, x3⟩ := box_cell HO2.out
      clear hpb
      go_wp2_with fail
      go_roundw
      case rel => exact ⟨m / 128, pre ++ [UInt8.ofNat (128 + m.toNat % 128)], rfl, ⟨by omega, by omega⟩, HP, wr_put hlo HO2.out hown' (by simp) (by rw [List.map_append, List.map_cons, List.map_nil, HB.out]), hbw.trans (kept_put HO.out (bAlloc (Below.refl _ _) _) hgrow (own_apart hown HO.out (by decide)) hat (by simp))⟩
      case measure => simp [intOf]; omega
    · have HE := Lib.hid (show bs ++ sevensL z.toNat = pre ++ [UInt8.ofNat m.toNat] by
        rw [← hp.out, sevens_small (show m.toNat < 128 by omega)])
      have HB := Lib.hid (show byteV (UInt8.ofNat m.toNat) = .int .u8 m by
        show Value.int .u8 _ = _
        rw [byte_small (by omega), Int.toNat_of_nonneg hm0])
      have HO := Lib.hid hobj
      have HS := Lib.hid (Sl.new (S := fun _ => True) wr [.int .u8 m] 5 1 1 rfl trivial)
      have HX := Lib.hid (World.ownsRow.alloc hown (.cells #[.int .u8 m] 5))
      have hd : m < 128 := by omega
      clear hp hobj hm
      go_wp2_with (at_builtin; refine wpList_append_sl _ rfl _ _ 59 rfl base 5 i0 (.int .u8 0) 1 1 Tryd.underlying59 hi hz0 hz1 hz2 rfl (by decide) _ _ _ rfl HX.out (fun _ => True) _ _ _ _ rfl HS.out ?d1 ?d2 ?d3 ?d4 ?_)
      case d1 => intro u hu; simp at hu; subst hu; rfl
      case d2 => unfold maxLen; omega
      case d3 => omega
      case d4 => simp; omega
      intro A' c' w1 hown' hgrow hat
      have HO2 := Lib.hid (Buf.grown (by decide) ((heap_alloc_old wr (.cells #[.int .u8 m] 5) B hlt).trans HO.out) HX.out hgrow)
      obtain ⟨x1, x2, x3⟩ := box_cell HO2.out
      go_wp2_with fail
      refine bodyPost_end (results_none rfl _ _ _) rfl ⟨rfl, ?_, hbw.trans (kept_put HO.out (bAlloc (Below.refl _ _) _) hgrow (own_apart hown HO.out (by decide)) hat (by simp))⟩
      rw [HE.out]
      exact wr_put hlo HO2.out hown' (by simp) (by rw [List.map_append, List.map_cons, List.map_nil, HB.out])
theorem strCells_eq (s : ByteArray) : Lib.strCells s = s.data.toList.map byteV := by
  simp [Lib.strCells]
theorem wtext_c (w : World) (base B : Nat) (bs : List UInt8) (s : ByteArray) (hw : Wr w base B bs) (hs : s.size ≤ 1048576) (hl : bs.length ≤ 1099511000000) (hbs : base ≤ w.heap.size) :
    Calls Tryd.prog 143 #[.pointer (some ⟨B, 0, none⟩), .string s] w (WrTo base B (bs ++ textL s) w) := by
  obtain ⟨i0, hi, hz0, hz1, hz2⟩ := info_parts infoByte
  have hmax := sevens_ten (n := s.size) (by omega)
  have HP := Lib.hid (put_c w base B bs s.size hw (by omega) (by omega) (by omega) hbs)
  have HE := Lib.hid (show (bs ++ textL s).map byteV = (bs ++ sevensL s.size).map byteV ++ Lib.strCells s by
    rw [strCells_eq, textL]
    simp)
  have HL := Lib.hid (show (bs ++ textL s).length = (bs ++ sevensL s.size).length + s.size by
    rw [textL]
    rw [List.length_append, List.length_append, List.length_append, ba_len']
    omega)
  have HX := Lib.hid (show (bs ++ sevensL s.size).length = bs.length + (sevensL s.size).length by simp)
  rw [show ((s.size : Nat) : Int).toNat = s.size by omega] at HP
  generalize sevensL s.size = sv at *
  generalize bs ++ sv = pre at *
  clear hw
  go_enter Tryd.func143, Tryd.ntmps143
  go_wp2_with fail
  refine HP.out.mono ?_
  rintro e w1 ⟨rfl, ⟨hlo, A, c, hobj, hown⟩, hbw⟩
  obtain ⟨hc, hf, hlt⟩ := box_cell hobj
  have HO := Lib.hid hobj
  have hsz := hbw.size
  have hpl : pre.length ≤ bs.length + sv.length := Nat.le_of_eq HX.out
  clear hobj
  go_wp2_with (at_builtin; refine wpList_append_str _ rfl _ _ 59 9 rfl base 5 i0 Tryd.underlying59 Tryd.underlying9 hi hz0 hz1 hz2 _ _ _ rfl hown s rfl ?c1 ?c2 ?c3 ?_)
  case c1 => unfold maxLen; omega
  case c2 => omega
  case c3 => omega
  intro A' c' w2 hown' hgrow hat
  have HO2 := Lib.hid (Buf.grown (by decide) HO.out hown hgrow)
  obtain ⟨x1, x2, x3⟩ := box_cell HO2.out
  go_wp2_with fail
  refine bodyPost_end (results_none rfl _ _ _) rfl ⟨rfl, ?_, hbw.trans (kept_put HO.out (Below.refl _ _) hgrow (own_apart hown HO.out (by decide)) hat (Nat.le_refl _))⟩
  exact wr_put hlo HO2.out hown' HL.out HE.out
set_option maxHeartbeats 1000000 in
theorem wop_c (w : World) (base B : Nat) (bs : List UInt8) (A : Option Addr) (c : Nat) (ps : List PartD) (hw : Wr w base B bs) (hs : OpIn (· < base) w A ps) (hm : ps.length ≤ 8001) (hp : ∀ p ∈ ps, p.Writ) (hl : bs.length ≤ 1000000000) (hbs : base ≤ w.heap.size) :
    Calls Tryd.prog 142 #[.pointer (some ⟨B, 0, none⟩), .slice A ps.length c] w (WrTo base B (bs ++ opL ps) w) := by
  have hmax := sevens_ten (n := ps.length) (by omega)
  have H0 := Lib.hid (put_c w base B bs ps.length hw (by omega) (by omega) (by omega) hbs)
  rw [show ((ps.length : Nat) : Int).toNat = ps.length by omega] at H0
  have HP := Lib.hid hp
  have HL := Lib.hid (fun k => opUpto_bound (ps := ps) k hm hp)
  have HR := Lib.hid (And.intro hw.lt hw.row)
  clear hw hp
  go_enter Tryd.func142, Tryd.ntmps142
  go_wp2_with fail
  refine H0.out.mono ?_
  rintro e w1 ⟨rfl, hw1, hb1⟩
  have HW1 := Lib.hid hw1
  clear hw1
  go_wp2_with fail
  go_loopw [12] (fun i wr => ∃ k : Nat, k ≤ ps.length ∧ i = .int .i64 k ∧ Wr wr base B (bs ++ opUpto ps k) ∧ Kept B w wr) (fun i _ => ps.length - (intOf i).toNat)
  case atStart => exact ⟨0, Nat.zero_le _, rfl, by simpa [opUpto] using HW1.out, hb1⟩
  case round =>
    obtain ⟨k, hk, rfl, hw, hbw⟩ := hrel
    have hsz := hbw.size
    have HW := Lib.hid hw
    have HRw := Lib.hid (And.intro hw.lt hw.row)
    clear hw
    by_cases hlt : k < ps.length
    · obtain ⟨b, o, rfl, hbs', g0, g1, g2⟩ := OpIn.at_ (ps := ps) (Sl.below hs (hbw.below HR.out.1.1 (fun x hx => (HR.out.2 x hx).1) hbs) (Nat.le_refl _)) hlt
      have hle := HL.out k
      have HU := Lib.hid (opUpto_succ ps k hlt)
      obtain ⟨hkd, hnn, htx⟩ := HP.out _ (List.getElem_mem hlt)
      generalize ps[k] = p at *
      generalize opUpto ps k = up at *
      obtain ⟨kd, pn, tx⟩ := p
      dsimp only at *
      have hmk := sevens_ten (n := kd.toNat) (by omega)
      have hne1 : wr.heap.size ≠ B := by have := HRw.out.1.2; omega
      have hne2 : rowOf wr B ≠ some wr.heap.size := fun e => by have := (HRw.out.2 _ e).2; omega
      obtain ⟨WA, hWA⟩ : ∃ WA, WA = wr.alloc (.cells #[.int .i64 kd, .int .i64 pn, .string tx] 110) := ⟨_, rfl⟩
      have hba : Below wr.heap.size wr WA := by rw [hWA]; exact bAlloc (Below.refl _ _) _
      have hWA1 : WA.heap.size = wr.heap.size + 1 := by rw [hWA]; simp
      have hWc : ∀ j, WA.cell? ⟨wr.heap.size, j, none⟩ = (#[Value.int .i64 kd, .int .i64 pn, .string tx])[j]? := by intro j; rw [hWA, World.cell?_alloc_new]
      have hrow : rowOf WA B = rowOf wr B := by unfold rowOf; rw [hba.block B HRw.out.1.2]
      have HWa := Lib.hid (Buf.later HW.out hba)
      have H1 := Lib.hid (put_c WA base B (bs ++ up) kd HWa.out hkd.1 hkd.2 (by rw [List.length_append]; omega) (by omega))
      have hc0 := fun (w2 : World) (h : Kept B WA w2) (j : Nat) => (h.cell (k := wr.heap.size) (j := j) (by omega) hne1 (by rw [hrow]; exact hne2)).trans (hWc j)
      have HC := Lib.hid hc0
      have HKW := Lib.hid (Kept.of_below hba HRw.out.1.2)
      clear hc0 hWc hrow hba
      by_cases hk2 : kd = 2
      · subst hk2
        have HE := Lib.hid (show partL ⟨2, pn, tx⟩ = sevensL (2 : Int).toNat ++ textL tx from rfl)
        have H2 := Lib.hid (fun w2 (h : Wr w2 base B (bs ++ up ++ sevensL (2 : Int).toNat)) (hz : base ≤ w2.heap.size) => wtext_c w2 base B _ tx h htx (by rw [List.length_append, List.length_append]; omega) hz)
        go_wp2_with fail
        rw [← hWA]
        refine H1.out.mono ?_
        rintro e w2 ⟨rfl, hw2, hb2⟩
        have x0 := HC.out w2 hb2 0
        have x2 := HC.out w2 hb2 2
        have hz2 := hb2.size
        simp at x0 x2
        have HW2 := Lib.hid hw2
        have HB2 := Lib.hid hb2
        clear hw2 hb2
        go_wp2_with fail
        refine (H2.out w2 HW2.out (by omega)).mono ?_
        rintro e w3 ⟨rfl, hw3, hb3⟩
        go_wp2_with fail
        go_roundw
        case rel => exact ⟨k + 1, by omega, by go_num, by rw [HU.out, HE.out]; simpa [List.append_assoc] using hw3, (hbw.trans (HKW.out.trans HB2.out)).trans hb3⟩
        case measure => simp [intOf]; omega
      · have e2 : (kd == 2) = false := by simpa using hk2
        have HE := Lib.hid (show partL ⟨kd, pn, tx⟩ = sevensL kd.toNat ++ sevensL pn.toNat by unfold partL; rw [if_neg hk2])
        have hn2 := hnn hk2
        have H2 := Lib.hid (fun w2 (h : Wr w2 base B (bs ++ up ++ sevensL kd.toNat)) (hz : base ≤ w2.heap.size) => put_c w2 base B _ pn h hn2.1 hn2.2 (by rw [List.length_append, List.length_append]; omega) hz)
        clear hk2
        go_wp2_with fail
        rw [← hWA]
        refine H1.out.mono ?_
        rintro e w2 ⟨rfl, hw2, hb2⟩
        have x0 := HC.out w2 hb2 0
        have x1 := HC.out w2 hb2 1
        have hz2 := hb2.size
        simp at x0 x1
        have HW2 := Lib.hid hw2
        have HB2 := Lib.hid hb2
        clear hw2 hb2
        go_wp2_with fail
        refine (H2.out w2 HW2.out (by omega)).mono ?_
        rintro e w3 ⟨rfl, hw3, hb3⟩
        go_wp2_with fail
        go_roundw
        case rel => exact ⟨k + 1, by omega, by go_num, by rw [HU.out, HE.out]; simpa [List.append_assoc] using hw3, (hbw.trans (HKW.out.trans HB2.out)).trans hb3⟩
        case measure => simp [intOf]; omega
    · obtain rfl : k = ps.length := by omega
      go_wp2_with fail
      refine bodyPost_end (results_none rfl _ _ _) rfl ⟨rfl, ?_, hbw⟩
      have := HW.out
      rwa [opUpto_all] at this
end Go.Proofs.YtiooimnlkcpnnaaDoor
