/-
  Contracts of text.Apply and its reference Applied.
-/
import Derived.Test.YtgcapkkgminidaaDoorRows
import Derived.Test.YtgcapkkgminidaaDoorCheck
import Derived.Test.YtgcapkkgminidaaDoorSteps
import Derived.Test.YtgcapkkgminidaaDoorOpCopy
import Derived.Test.YtgcapkkgminidaaDoorApplyP
import Derived.Test.YtgcapkkgminidaaDoorSBuild
import Derived.Laws.Cover4
namespace Go.Proofs.YtgcapkkgminidaaDoor
open Go.ChangeShapes Go.WideShapes Go.ChangeAt Go.RowKit
set_option maxRecDepth 100000
theorem convPiece {W : World} {g : Nat} {rs : List Int} (h : RunesAt W g rs) (a n c : Nat) (hn : a + n ≤ rs.length) : (convert 82 9 (.slice (some ⟨g, a, none⟩) n c)).run Tryd.prog W = .ok (.string (runesBytes ((rs.drop a).take n))) W := by
  have hl : n = ((rs.drop a).take n).length := by simp; omega
  have key := run_convert_runes (P := Tryd.prog) W 82 9 21 ⟨g, a, none⟩ n c ((rs.drop a).take n) (Nat.le_of_eq hl) Tryd.underlying82 Tryd.underlying21 Tryd.underlying9 (fun j hj => by
    have hj2 : a + j < rs.length := by rw [← hl] at hj; omega
    have hj3 : j < n := by rw [← hl] at hj; exact hj
    have := h.cells (a + j) _ (runes_getD rs (a + j) hj2)
    rw [Nat.zero_add] at this
    rw [Go.WideShapes.add_plain, this]
    congr 2
    rw [List.getD_eq_getElem?_getD, List.getD_eq_getElem?_getD, List.getElem?_take, if_pos hj3, List.getElem?_drop])
  rw [key, List.take_of_length_le (Nat.le_of_eq hl.symm)]
/-- What Apply's loop has still to write. -/
def appBytes (r : List Int) (ps : List PartD) (a : Nat) : List UInt8 := (runesBytes (appRunes r ps a)).data.toList
theorem appBytes_keep {r : List Int} {n : Nat} {s : ByteArray} {ps : List PartD} {a : Nat} : appBytes r (⟨1, (n : Int), s⟩ :: ps) a = (runesBytes ((r.drop a).take n)).data.toList ++ appBytes r ps (a + n) := by
  unfold appBytes
  rw [show appRunes r (⟨1, (n : Int), s⟩ :: ps) a = (r.drop a).take n ++ appRunes r ps (a + n) from rfl, runesBytes_append, ByteArray.data_append, Array.toList_append]
theorem appBytes_ins {r : List Int} {n : Int} {s : ByteArray} {ps : List PartD} {a : Nat} (hv : Lib.validD s.data.toList = true) : appBytes r (⟨2, n, s⟩ :: ps) a = s.data.toList ++ appBytes r ps a := by
  unfold appBytes
  rw [show appRunes r (⟨2, n, s⟩ :: ps) a = runesOf s ++ appRunes r ps a from rfl, runesBytes_append, ByteArray.data_append, Array.toList_append, text_back s hv]
theorem appBytes_del {r : List Int} {n : Nat} {s : ByteArray} {ps : List PartD} {a : Nat} : appBytes r (⟨3, (n : Int), s⟩ :: ps) a = appBytes r ps (a + n) := rfl
theorem appRunes_length (r : List Int) : ∀ (ps : List PartD) (a : Nat), (appRunes r ps a).length ≤ toN ps
  | [], _ => by simp [appRunes]
  | p :: ps, a => by
    unfold appRunes toN
    by_cases h2 : p.kind = 2
    · rw [if_pos h2, if_pos h2, List.length_append, runesOf_length]
      have := appRunes_length r ps a
      omega
    · rw [if_neg h2, if_neg h2]
      by_cases h1 : p.kind = 1
      · rw [if_pos h1, if_pos h1, List.length_append, List.length_take]
        have := appRunes_length r ps (a + p.n.toNat)
        omega
      · rw [if_neg h1, if_neg h1]
        have := appRunes_length r ps (a + p.n.toNat)
        omega
theorem RunesAt.below {w w' : World} {g B : Nat} {rs : List Int} (h : RunesAt w g rs) (hb : Below B w w') (hg : g < B) : RunesAt w' g rs :=
  ⟨Nat.lt_of_lt_of_le h.lt hb.size, fun j u hu => (hb.cell (p := ⟨g, 0 + j, none⟩) hg).trans (h.cells j u hu)⟩
theorem fromN_oth {k n : Int} {s : ByteArray} {ps : List PartD} (h : k ≠ 2) : fromN (⟨k, n, s⟩ :: ps) = n.toNat + fromN ps := by
  rw [show fromN (⟨k, n, s⟩ :: ps) = (if k = 2 then 0 else n.toNat) + fromN ps from rfl, if_neg h]
set_option maxHeartbeats 2000000 in
theorem Apply_go (w : World) (s : ByteArray) (A : Option Addr) (c : Nat) (ps : List PartD) (hT : Tabs w) (hs : OpIn (· < w.heap.size) w A ps) (hm : ps.length ≤ 1048576) (ht : ∀ p ∈ ps, p.text.size ≤ 1048576) (hst : s.size ≤ 1048576)
    (ht0 : textFault s = 0) (hf0 : opFault ps = 0) (hln : (lens ps).1 = (Lib.runeCount s : Int)) :
    Calls Tryd.prog 40 #[.string s, .slice A ps.length c] w fun e w' => e = .returned (.tuple #[.string (runesBytes (appRunes (runesOf s) ps 0)), .int .i64 0]) ∧ Below w.heap.size w w' := by
  obtain ⟨h8, hok, _, _⟩ := opFault_zero hf0
  obtain ⟨e1, e2, n1, n2⟩ := op_from hf0
  have hrl := runesOf_length s
  have hfr : fromN ps = (runesOf s).length := by omega
  have hC1 := CheckText_c s
  have hC2 := fun W hT hs => Check_c W A c ps hT hs hm ht
  have hC3 := fun W hs => Lengths_c W A c ps hs hm ht
  rw [ht0] at hC1
  rw [hf0] at hC2
  rw [e1, e2] at hC3
  have HC1 := Lib.hid hC1
  have HC2 := Lib.hid hC2
  have HC3 := Lib.hid hC3
  have HOK := Lib.hid hok
  have HTX := Lib.hid ht
  have hcv := fun wx => convRunes (w := wx) hst
  have HRA := Lib.hid (fun (w : World) n => RunesAt.new w s n 21)
  have HTOT := Lib.hid (show appBytes (runesOf s) (ps.drop 0) 0 = (runesBytes (appRunes (runesOf s) ps 0)).data.toList by simp [appBytes])
  have HF0 := Lib.hid (show 0 + fromN (ps.drop 0) = (runesOf s).length by simpa using hfr)
  have hT2 : (runesBytes (appRunes (runesOf s) ps 0)).size ≤ 16000 := by have a1 := runesBytes_size_le (appRunes (runesOf s) ps 0); have a2 := appRunes_length (runesOf s) ps 0; omega
  generalize hTT : runesBytes (appRunes (runesOf s) ps 0) = T at *
  generalize runesOf s = r at *
  rw [← hrl] at hcv hln
  have hdec : ((fromN ps : Int) != (r.length : Int)) = false := by simp; omega
  have hr4 : r.length ≤ 4000 := by omega
  clear ht0 hf0 hln hC1 hC2 hC3 hok ht e1 e2 hfr hTT hrl
  go_enter Tryd.func40, Tryd.ntmps40
  go_wp2_with fail
  refine (HC1.out _ hT hst).mono ?_
  rintro e w1 ⟨rfl, hb1⟩
  have HT1 := Lib.hid (hT.later hb1)
  have HS1 := Lib.hid (Sl.later hs hb1)
  go_wp2_with fail
  refine (HC2.out _ HT1.out HS1.out).mono ?_
  rintro e w2 ⟨rfl, hb2⟩
  have HB2 := Lib.hid (bThen hb1 hb2)
  have HS2 := Lib.hid (Sl.later HS1.out hb2)
  clear hb1 hb2 hT HT1 HS1
  have hgc := grownCap_ge w2 r.length 0 21
  go_wp2_with fail
  have hgB := HB2.out.size
  have HRA2 := Lib.hid ((HRA.out w2 (grownCap w2 r.length 0 21 - r.length)).drew)
  have HB2' := Lib.hid (bThen HB2.out (bAlloc (Below.refl w2.heap.size w2) (.cells (Conv.runesFrom s s.size 0 #[] ++ Array.replicate (grownCap w2 r.length 0 21 - r.length) (.int .i32 0)) 21)).drew)
  have HS3 := Lib.hid (Sl.later HS2.out ((bAlloc (Below.refl w2.heap.size w2) (.cells (Conv.runesFrom s s.size 0 #[] ++ Array.replicate (grownCap w2 r.length 0 21 - r.length) (.int .i32 0)) 21)).drew))
  generalize grownCap w2 r.length 0 21 = cp at *
  refine (HC3.out _ HS3.out).mono ?_
  rintro e w3 ⟨rfl, hb3⟩
  have HB3 := Lib.hid (bThen HB2'.out hb3)
  have HRA3 := Lib.hid (HRA2.out.below hb3 (by simp [World.drew]))
  have hg3 := HRA3.out.lt
  have hsz3 := HB3.out.size
  clear hb3 hcv
  generalize hG : w2.heap.size = g at *
  clear hG
  go_wp2_with fail
  go_loopw [12, 38] (fun at_ i wr => ∃ (k a : Nat) (out : List UInt8), k ≤ ps.length ∧ i = .int .i64 k ∧ at_ = .int .i64 a ∧ a + fromN (ps.drop k) ≤ r.length ∧ Hid (out ++ appBytes r (ps.drop k) a = T.data.toList) ∧ Hid (okParts (ps.drop k)) ∧ Sb wr w3.heap.size w3.heap.size out ∧ RunesAt wr g r ∧ Below w3.heap.size w3 wr)
    (fun _ i _ => ps.length - (intOf i).toNat)
  case atStart => exact ⟨0, 0, [], Nat.zero_le _, rfl, rfl, Nat.le_of_eq HF0.out, HTOT, HOK, Sb.fresh w3 _ (Nat.le_refl _), HRA3.out.alloc _, bAlloc (Below.refl _ _) _⟩
  case round =>
    obtain ⟨k, a, out, hk, rfl, rfl, hfr, hout, hokk, hsb, hra, hbw⟩ := hrel
    have hsz := hbw.size
    by_cases hlt : k < ps.length
    · obtain ⟨b, o, rfl, hbs', g0, g1, g2⟩ := OpIn.at_ (ps := ps) (Sl.later hs (bThen HB3.out hbw)) hlt
      have htx := HTX.out _ (List.getElem_mem hlt)
      have HD := Lib.hid (List.drop_eq_getElem_cons hlt)
      have HOU := Lib.hid (show out ++ appBytes r (ps[k] :: ps.drop (k + 1)) a = T.data.toList by rw [← HD.out]; exact hout.out)
      have HOKK := Lib.hid (show okParts (ps[k] :: ps.drop (k + 1)) by rw [← HD.out]; exact hokk.out)
      rw [HD.out] at hfr
      have HSB := Lib.hid hsb
      have HRw := Lib.hid (And.intro hsb.lt hsb.row)
      clear hout hokk hsb
      generalize ps[k] = p at *
      have hpf := HOKK.out.1
      obtain ⟨kd, pn, tx⟩ := p
      dsimp only at *
      have hne1 : wr.heap.size ≠ w3.heap.size := by have := HRw.out.1.2; omega
      have hne2 : rowOf wr w3.heap.size ≠ some wr.heap.size := fun e => by have := (HRw.out.2 _ e).2; omega
      obtain ⟨WA, hWA⟩ : ∃ WA, WA = wr.alloc (.cells #[.int .i64 kd, .int .i64 pn, .string tx] 79) := ⟨_, rfl⟩
      have hba : Below wr.heap.size wr WA := by rw [hWA]; exact bAlloc (Below.refl _ _) _
      have hWA1 : WA.heap.size = wr.heap.size + 1 := by rw [hWA]; simp
      have hWc : ∀ j, WA.cell? ⟨wr.heap.size, j, none⟩ = (#[Value.int .i64 kd, .int .i64 pn, .string tx])[j]? := by intro j; rw [hWA, World.cell?_alloc_new]
      have hrow : rowOf WA w3.heap.size = rowOf wr w3.heap.size := by unfold rowOf; rw [hba.block _ HRw.out.1.2]
      have HSA := Lib.hid (HSB.out.later hba)
      have HRAA := Lib.hid (hra.below hba hra.lt)
      have hc0 := fun (w2 : World) (h : Kept w3.heap.size WA w2) (j : Nat) => (h.cell (k := wr.heap.size) (j := j) (by omega) hne1 (by rw [hrow]; exact hne2)).trans (hWc j)
      have HC := Lib.hid hc0
      have HKB := Lib.hid (fun (w4 : World) (h : Kept w3.heap.size WA w4) => (hba.mono hsz).trans (h.below (Nat.le_refl _) (fun x hx => (HRw.out.2 x (by rw [← hrow]; exact hx)).1) (by omega)))
      have hol : out.length ≤ 16000 := by have := congrArg List.length HOU.out; have hbl : T.data.toList.length = T.size := rfl; rw [List.length_append] at this; omega
      clear hc0 hWc hrow
      by_cases hk1 : kd = 1
      · subst hk1
        obtain ⟨_, hp1, hp2, _⟩ := kind_other hpf (by simp)
        dsimp only at hp1 hp2
        obtain ⟨n, rfl⟩ : ∃ n : Nat, pn = n := ⟨pn.toNat, by omega⟩
        rw [fromN_oth (by decide), Int.toNat_natCast] at hfr
        have hpc := convPiece (W := wr.alloc (.cells #[.int .i64 1, .int .i64 n, .string tx] 79)) (by rw [← hWA]; exact HRAA.out) a n (cp - a) (by omega)
        have HE := Lib.hid (appBytes_keep (r := r) (n := n) (s := tx) (ps := ps.drop (k + 1)) (a := a))
        have hps : (runesBytes ((r.drop a).take n)).size ≤ 16000 := by have a1 := runesBytes_size_le ((r.drop a).take n); rw [List.length_take] at a1; omega
        generalize runesBytes ((r.drop a).take n) = piece at *
        have hn1 : (1 : Int) ≤ n := by omega
        clear hp1
        go_wp2_with fail
        rw [← hWA]
        refine (WriteString_c WA _ _ out piece HSA.out (by omega) (by omega)).mono ?_
        rintro e w4 ⟨rfl, hsb4, hk4⟩
        have x1 := HC.out w4 hk4 1
        simp at x1
        have HB4 := Lib.hid (HKB.out w4 hk4)
        clear hk4
        go_wp2_with fail
        go_roundw
        case rel => exact ⟨k + 1, a + n, out ++ piece.data.toList, by omega, by go_num, by go_num, by omega, by rw [List.append_assoc, ← HE.out]; exact HOU, HOKK.out.2.2, hsb4, hra.below HB4.out hg3, hbw.trans HB4.out⟩
        case measure => simp [intOf]; omega
      have e1 : (kd == 1) = false := by simpa using hk1
      by_cases hk2 : kd = 2
      · subst hk2
        have hv := (textFault_runes (kind_two hpf rfl).2.1).2
        dsimp only at hv
        have HE := Lib.hid (appBytes_ins (r := r) (n := pn) (s := tx) (ps := ps.drop (k + 1)) (a := a) hv)
        have hfr' : a + fromN (ps.drop (k + 1)) ≤ r.length := by
          have : fromN (⟨2, pn, tx⟩ :: ps.drop (k + 1)) = 0 + fromN (ps.drop (k + 1)) := rfl
          omega
        clear hv
        go_wp2_with fail
        rw [← hWA]
        refine (WriteString_c WA _ _ out tx HSA.out (by omega) (by omega)).mono ?_
        rintro e w4 ⟨rfl, hsb4, hk4⟩
        have HB4 := Lib.hid (HKB.out w4 hk4)
        clear hk4
        go_wp2_with fail
        go_roundw
        case rel => exact ⟨k + 1, a, out ++ tx.data.toList, by omega, by go_num, rfl, hfr', by rw [List.append_assoc, ← HE.out]; exact HOU, HOKK.out.2.2, hsb4, hra.below HB4.out hg3, hbw.trans HB4.out⟩
        case measure => simp [intOf]; omega
      · have e2 : (kd == 2) = false := by simpa using hk2
        obtain ⟨hk13, hp1, hp2, _⟩ := kind_other hpf hk2
        dsimp only at hk13 hp1 hp2
        obtain rfl : kd = 3 := by omega
        obtain ⟨n, rfl⟩ : ∃ n : Nat, pn = n := ⟨pn.toNat, by omega⟩
        rw [fromN_oth (by decide), Int.toNat_natCast] at hfr
        clear hk13 hk1 hk2 hp1
        go_wp2_with fail
        go_roundw
        case rel => exact ⟨k + 1, a + n, out, by omega, by go_num, by go_num, by omega, HOU, HOKK.out.2.2, by rw [← hWA]; exact HSA.out, by rw [← hWA]; exact HRAA.out, bThen hbw (bAlloc (Below.refl _ _) _)⟩
        case measure => simp [intOf]; omega
    · obtain rfl : k = ps.length := by omega
      have HOUT := Lib.hid (show out = T.data.toList by have := hout.out; rw [List.drop_length] at this; simpa [appBytes, appRunes, runesBytes] using this)
      have HX := Lib.hid (show T = ⟨out.toArray⟩ by rw [HOUT.out])
      have hlt3 := hsb.lt.2
      go_wp2_with fail
      refine (Tryd.Builder_String_any w3.heap.size w3.heap.size out wr hsb (by omega)).mono ?_
      rintro e w4 ⟨rfl, hb4⟩
      go_wp2_with fail
      go_ret2
      exact ⟨by rw [HX.out]; rfl, bThen HB3.out (hbw.trans hb4)⟩
end Go.Proofs.YtgcapkkgminidaaDoor
