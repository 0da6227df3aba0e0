/- A part of the proof of NodeUndoes. -/
import Derived.Test.YtacacoklddogmaaGreatDoorKEA
import Derived.Test.YtacacoklddogmaaGreatDoorKDA
import Derived.Test.YtacacoklddogmaaGreatDoorKBD
import Derived.Test.YtacacoklddogmaaGreatDoorShelf
import Derived.Lib.Builder
import Derived.Laws.Externs
import Derived.Laws.Cover4
namespace Go.Proofs.YtacacoklddogmaaGreatDoor
set_option maxHeartbeats 4000000
open Go.ChangeShapes Go.WideShapes Go.ChangeAt Go.RowKit
set_option maxRecDepth 100000
theorem sizeBuilder : (Tryz.prog.info? 144).map (·.size) = some 2 := by kernel_rfl
theorem liesBuilder : liesAt Tryz.prog Tryz.prog.depth 144 (2 / Tryz.prog.cellsOf 144) 0 144 1 = true := by kernel_rfl
theorem mn_ (w : World) (b : Nat) (h0 : w.cell? ⟨b, 0, none⟩ = some (.pointer (some ⟨b, 0, none⟩))) :
 Calls Tryz.prog 125 #[.pointer (some ⟨b, 0, none⟩)] w fun e w' => e = .returned (.tuple #[]) ∧ w = w' := by
 obtain ⟨j, hj, _⟩ := Option.map_eq_some_iff.1 sizeBuilder
 go_enter Tryz.func125, Tryz.ntmps125
 go_wp2_with fail
 rw [Lib.run_neq_ptr_same w _ Tryz.underlying141 hj]
 go_wp2_with fail
 exact bodyPost_end (results_none rfl _ _ _) rfl ⟨rfl, rfl⟩
theorem oi_ (w : World) (b : Nat) (h0 : w.cell? ⟨b, 0, none⟩ = some (.pointer none)) (hsh : w.shape? b = some (144, 2)) (hfz : w.frozen? ⟨b, 0, none⟩ = false) :
 Calls Tryz.prog 125 #[.pointer (some ⟨b, 0, none⟩)] w fun e w' => e = .returned (.tuple #[]) ∧ w' = w.setCell ⟨b, 0, none⟩ (.pointer (some ⟨b, 0, none⟩)) := by
 obtain ⟨j, hj, hjs⟩ := Option.map_eq_some_iff.1 sizeBuilder
 go_enter Tryz.func125, Tryz.ntmps125
 go_wp2_with fail
 rw [Lib.run_to_unsafe w ⟨b, 0, none⟩ Tryz.underlying141 Tryz.underlying193 hj (by rw [hjs]; decide) hsh (Nat.zero_lt_succ 1)]
 simp only [Result.andThen]
 rw [Oper.upon_value]
 go_wp2_with fail
 rw [run_callFunc_extern Tryz.func136 (by kernel_rfl) (by kernel_rfl) (by kernel_rfl) (e := Extern.AbiNoEscape.same) (by kernel_rfl)]
 rw [Lib.run_noEscape]
 simp only [Result.andThen]
 rw [Oper.upon_value]
 go_wp2_with fail
 rw [Lib.run_from_unsafe w ⟨b, 0, none⟩ Tryz.underlying193 Tryz.underlying141 hj hsh liesBuilder]
 simp only [Result.andThen]
 rw [Oper.upon_value]
 go_wp2_with fail
 exact bodyPost_end (results_none rfl _ _ _) rfl ⟨rfl, rfl⟩
abbrev Sb (w : World) (base b : Nat) (bs : List UInt8) : Prop := Lib.IsBuilder 144 5 base b (bs.map byteV) w
theorem Sb.lt {w : World} {base b : Nat} {bs : List UInt8} (h : Sb w base b bs) : base ≤ b ∧ b < w.heap.size := by
 rcases h with h | h <;> exact ⟨h.1, h.lt⟩
theorem Sb.row {w : World} {base b : Nat} {bs : List UInt8} (h : Sb w base b bs) : ∀ x, rowOf w b = some x → base ≤ x ∧ x < w.heap.size := by
 have key : ∀ {p : Option Addr}, Lib.BuilderAt 144 5 base b (.pointer p) (bs.map byteV) w → ∀ x, rowOf w b = some x → base ≤ x ∧ x < w.heap.size := by
  rintro p ⟨_, v, hb, hown, _⟩ x hx
  rw [dw_ hb] at hx
  exact hown.lt x hx
 rcases h with h | h
 · exact key h
 · exact key h
theorem BuilderAt.kept {w w' : World} {base b : Nat} {p : Value} {xs : List Value} (h : Lib.BuilderAt 144 5 base b p xs w) (hb : Below w.heap.size w w') : Lib.BuilderAt 144 5 base b p xs w' := by
 have hlt := h.lt
 obtain ⟨h1, v, h2, h3, h4⟩ := h
 exact ⟨h1, v, (hb.block b hlt).trans h2, h3.kept (row := none) ⟨hb.os, hb.tape, hb.output, hb.size, fun k hk _ => hb.block k hk⟩ (by cases v.ownBlock <;> simp), h4⟩
theorem Sb.later {w w' : World} {base b : Nat} {bs : List UInt8} (h : Sb w base b bs) (hb : Below w.heap.size w w') : Sb w' base b bs := by
 rcases h with h | h
 · exact .inl (BuilderAt.kept h hb)
 · exact .inr (BuilderAt.kept h hb)
theorem Sb.fresh (w : World) (base : Nat) (h : base ≤ w.heap.size) : Sb (w.alloc (.cells #[.pointer none, .slice none 0 0] 144)) base w.heap.size [] :=
 .inl ⟨h, .slice none 0 0, by show (w.heap.push _)[w.heap.size]? = _; simp, World.ownsRow_nil _ _ _ _, by simp [Value.ownBlock]⟩
theorem rt_ (w : World) (base b : Nat) (bs : List UInt8) (h : Sb w base b bs) :
 Calls Tryz.prog 125 #[.pointer (some ⟨b, 0, none⟩)] w fun e w' => e = .returned (.tuple #[]) ∧ Lib.BuilderAt 144 5 base b (.pointer (some ⟨b, 0, none⟩)) (bs.map byteV) w' ∧ Kept b w w' := by
 rcases h with h | h
 · refine (oi_ w b h.cell0 h.shape h.frozen0).mono ?_
   rintro e w' ⟨rfl, rfl⟩
   obtain ⟨_, v, hb, _⟩ := id h
   exact ⟨rfl, h.used _, vx_ hb⟩
 · refine (mn_ w b h.cell0).mono ?_
   rintro e w' ⟨rfl, rfl⟩
   exact ⟨rfl, h, Kept.refl _ _⟩
theorem hf_ (w : World) (base b : Nat) (bs : List UInt8) (s : ByteArray) (h : Sb w base b bs) (hl : bs.length + s.size ≤ 140737488355328) (hbs : base ≤ w.heap.size) :
 Calls Tryz.prog 97 #[.pointer (some ⟨b, 0, none⟩), .string s] w fun e w' => e = .returned (.tuple #[.int .i64 s.size, .nilIface]) ∧ Sb w' base b (bs ++ s.data.toList) ∧ Kept b w w' := by
 obtain ⟨i0, hi, hz0, hz1, hz2⟩ := info_parts infoByte
 have HC := h_ (rt_ w base b bs h)
 have HE := h_ (show (bs ++ s.data.toList).map byteV = bs.map byteV ++ Lib.strCells s by simp [Lib.strCells])
 clear h
 go_enter Tryz.func97, Tryz.ntmps97
 go_wp2_with fail
 refine HC.out.mono ?_
 rintro e w1 ⟨rfl, hB, hk1⟩
 obtain ⟨hlo, v, hobj, hown, hap⟩ := id hB
 rw [List.length_map] at hown
 obtain ⟨A, c, rfl, _, _⟩ := fs_ w1 hown
 have c1 : w1.cell? ⟨b, 1, none⟩ = some (.slice A bs.length c) := by rw [Lib.cell_of_heap hobj]; rfl
 have HO := h_ hobj
 have hz := hk1.size
 clear hobj
 go_wp2_with (at_builtin; refine is_ _ rfl _ _ 142 9 rfl base 5 i0 Tryz.underlying142 Tryz.underlying9 hi hz0 hz1 hz2 _ _ _ rfl hown s rfl ?c1 ?c2 ?c3 ?_)
 case c1 => unfold maxLen; omega
 case c2 => omega
 case c3 => omega
 intro A' c' w2 hown' hgrow hat
 have HO2 := h_ ((hgrow.block b (Array.getElem?_eq_some_iff.1 HO.out).1 (fun e => hap e.symm)).trans HO.out)
 have x1 : w2.frozen? ⟨b, 1, none⟩ = false := Lib.frozen_of_heap HO2.out 1
 have x2 : w2.cell? ⟨b, 1, none⟩ = some (.slice A bs.length c) := by rw [Lib.cell_of_heap HO2.out]; rfl
 go_wp2_with fail
 go_ret2
 refine ⟨rfl, .inr ?_, hk1.trans (vw_ HO.out (Below.refl _ _) hgrow hap hat (Nat.le_refl _))⟩
 have hl2 : (bs.map byteV ++ Lib.strCells s).length = bs.length + s.size := by rw [List.length_append, List.length_map, Lib.strCells_length]
 have := Lib.BuilderAt.put (bs' := bs.map byteV ++ Lib.strCells s) hlo HO2.out (by rw [hl2]; exact hown') (by decide)
 rw [HE.out]
 exact this
theorem convPiece {W : World} {g : Nat} {rs : List Int} (h : RunesAt W g rs) (a n c : Nat) (hn : a + n ≤ rs.length) : (convert 135 9 (.slice (some ⟨g, a, none⟩) n c)).run Tryz.prog W = .ok (.string (runesBytes ((rs.drop a).take n))) W := by
 have hl : n = ((rs.drop a).take n).length := by simp; omega
 have key := run_convert_runes (P := Tryz.prog) W 135 9 21 ⟨g, a, none⟩ n c ((rs.drop a).take n) (Nat.le_of_eq hl) Tryz.underlying135 Tryz.underlying21 Tryz.underlying9 (fun j hj => by
  have hj2 : a + j < rs.length := by rw [← hl] at hj; omega
  have hj3 : j < n := by rw [← hl] at hj; exact hj
  have := h.cells (a + j) _ (ej_ rs (a + j) hj2)
  rw [Nat.zero_add] at this
  rw [Go.WideShapes.add_plain, this]
  congr 2
  rw [List.getD_eq_getElem?_getD, List.getD_eq_getElem?_getD, List.getElem?_take, if_pos hj3, List.getElem?_drop])
 rw [key, List.take_of_length_le (Nat.le_of_eq hl.symm)]
def appBytes (r : List Int) (ps : List PartD) (a : Nat) : List UInt8 := (runesBytes (appRunes r ps a)).data.toList
theorem og_ {r : List Int} {n : Nat} {s : ByteArray} {ps : List PartD} {a : Nat} : appBytes r (⟨1, (n : Int), s⟩ :: ps) a = (runesBytes ((r.drop a).take n)).data.toList ++ appBytes r ps (a + n) := by
 unfold appBytes
 rw [show appRunes r (⟨1, (n : Int), s⟩ :: ps) a = (r.drop a).take n ++ appRunes r ps (a + n) from rfl, di_, ByteArray.data_append, Array.toList_append]
theorem pw_ {r : List Int} {n : Int} {s : ByteArray} {ps : List PartD} {a : Nat} (hv : Lib.validD s.data.toList = true) : appBytes r (⟨2, n, s⟩ :: ps) a = s.data.toList ++ appBytes r ps a := by
 unfold appBytes
 rw [show appRunes r (⟨2, n, s⟩ :: ps) a = runesOf s ++ appRunes r ps a from rfl, di_, ByteArray.data_append, Array.toList_append, xh_ s hv]
theorem db_ (r : List Int) : ∀ (ps : List PartD) (a : Nat), (appRunes r ps a).length ≤ toN ps
 | [], _ => by simp [appRunes]
 | p :: ps, a => by
  unfold appRunes toN
  by_cases h2 : p.kind = 2
  · rw [if_pos h2, if_pos h2, List.length_append, ba_]
    have := db_ r ps a
    omega
  · rw [if_neg h2, if_neg h2]
    by_cases h1 : p.kind = 1
    · rw [if_pos h1, if_pos h1, List.length_append, List.length_take]
      have := db_ r ps (a + p.n.toNat)
      omega
    · rw [if_neg h1, if_neg h1]
      have := db_ r ps (a + p.n.toNat)
      omega
theorem RunesAt.below {w w' : World} {g B : Nat} {rs : List Int} (h : RunesAt w g rs) (hb : Below B w w') (hg : g < B) : RunesAt w' g rs :=
 ⟨Nat.lt_of_lt_of_le h.lt hb.size, fun j u hu => (hb.cell (p := ⟨g, 0 + j, none⟩) hg).trans (h.cells j u hu)⟩
theorem fw_ {k n : Int} {s : ByteArray} {ps : List PartD} (h : k ≠ 2) : fromN (⟨k, n, s⟩ :: ps) = n.toNat + fromN ps := by
 rw [show fromN (⟨k, n, s⟩ :: ps) = (if k = 2 then 0 else n.toNat) + fromN ps from rfl, if_neg h]
theorem xk_ (w : World) (s : ByteArray) (A : Option Addr) (c : Nat) (ps : List PartD) (hT : Tabs w) (hs : OpIn (· < w.heap.size) w A ps) (hm : ps.length ≤ 1048576) (ht : ∀ p ∈ ps, p.text.size ≤ 1048576) (hst : s.size ≤ 1048576)
 (ht0 : textFault s = 0) (hf0 : opFault ps = 0) (hln : (lens ps).1 = (Lib.runeCount s : Int)) :
 Calls Tryz.prog 51 #[.string s, .slice A ps.length c] w (R_ w (.tuple #[.string (runesBytes (appRunes (runesOf s) ps 0)), .int .i64 0])) := by
 obtain ⟨h8, hok, _, _⟩ := bx_ hf0
 obtain ⟨e1, e2, n1, n2⟩ := ff_ hf0
 have hrl := ba_ s
 have hfr : fromN ps = (runesOf s).length := by omega
 have hC1 := bd_ s
 have hC2 := fun W hT hs => bj_ W A c ps hT hs hm ht
 have hC3 := fun W hs => bt_ W A c ps hs hm ht
 rw [ht0] at hC1
 rw [hf0] at hC2
 rw [e1, e2] at hC3
 have HC1 := h_ hC1
 have HC2 := h_ hC2
 have HC3 := h_ hC3
 have HOK := h_ hok
 have HTX := h_ ht
 have hcv := fun wx => convRunes (w := wx) hst
 have HRA := h_ (fun (w : World) n => RunesAt.new w s n 21)
 have HTOT := h_ (show appBytes (runesOf s) (ps.drop 0) 0 = (runesBytes (appRunes (runesOf s) ps 0)).data.toList by simp [appBytes])
 have HF0 := h_ (show 0 + fromN (ps.drop 0) = (runesOf s).length by simpa using hfr)
 have hT2 : (runesBytes (appRunes (runesOf s) ps 0)).size ≤ 16000 := by have a1 := runesBytes_size_le (appRunes (runesOf s) ps 0); have a2 := db_ (runesOf s) ps 0; omega
 generalize hTT : runesBytes (appRunes (runesOf s) ps 0) = T at *
 generalize runesOf s = r at *
 rw [← hrl] at hcv hln
 have hdec : ((fromN ps : Int) != (r.length : Int)) = false := by simp; omega
 have hr4 : r.length ≤ 4000 := by omega
 clear ht0 hf0 hln hC1 hC2 hC3 hok ht e1 e2 hfr hTT hrl
 go_enter Tryz.func51, Tryz.ntmps51
 go_wp2_with fail
 refine (HC1.out _ hT hst).mono ?_
 rintro e w1 ⟨rfl, hb1⟩
 have HT1 := h_ (hT.later hb1)
 have HS1 := h_ (Sl.later hs hb1)
 go_wp2_with fail
 refine (HC2.out _ HT1.out HS1.out).mono ?_
 rintro e w2 ⟨rfl, hb2⟩
 have HB2 := h_ (bThen hb1 hb2)
 have HS2 := h_ (Sl.later HS1.out hb2)
 clear hb1 hb2 hT HT1 HS1
 have hgc := grownCap_ge w2 r.length 0 21
 go_wp2_with fail
 have hgB := HB2.out.size
 have HRA2 := h_ ((HRA.out w2 (grownCap w2 r.length 0 21 - r.length)).drew)
 have HB2' := h_ (bThen HB2.out (bAlloc (Below.refl w2.heap.size w2) (.cells (Conv.runesFrom s s.size 0 #[] ++ Array.replicate (grownCap w2 r.length 0 21 - r.length) (.int .i32 0)) 21)).drew)
 have HS3 := h_ (Sl.later HS2.out ((bAlloc (Below.refl w2.heap.size w2) (.cells (Conv.runesFrom s s.size 0 #[] ++ Array.replicate (grownCap w2 r.length 0 21 - r.length) (.int .i32 0)) 21)).drew))
 generalize grownCap w2 r.length 0 21 = cp at *
 refine (HC3.out _ HS3.out).mono ?_
 rintro e w3 ⟨rfl, hb3⟩
 have HB3 := h_ (bThen HB2'.out hb3)
 have HRA3 := h_ (HRA2.out.below hb3 (by simp [World.drew]))
 have hg3 := HRA3.out.lt
 have hsz3 := HB3.out.size
 clear hb3 hcv
 generalize hG : w2.heap.size = g at *
 clear hG
 go_wp2_with fail
 go_loopw [12, 38] (fun at_ i wr => ∃ (k a : Nat) (out : List UInt8), k ≤ ps.length ∧ i = .int .i64 k ∧ at_ = .int .i64 a ∧ a + fromN (ps.drop k) ≤ r.length ∧ Hid (out ++ appBytes r (ps.drop k) a = T.data.toList) ∧ Hid (okParts (ps.drop k)) ∧ Sb wr w3.heap.size w3.heap.size out ∧ RunesAt wr g r ∧ Below w3.heap.size w3 wr)
  (fun _ i _ => ps.length - (intOf i).toNat)
 case atStart => exact ⟨0, 0, [], Nat.zero_le _, rfl, rfl, Nat.le_of_eq HF0.out, HTOT, HOK, Sb.fresh w3 _ (Nat.le_refl _), HRA3.out.alloc _, bA_⟩
 case round =>
  obtain ⟨k, a, out, hk, rfl, rfl, hfr, hout, hokk, hsb, hra, hbw⟩ := hrel
  have hsz := hbw.size
  by_cases hlt : k < ps.length
  · obtain ⟨b, o, rfl, hbs', g0, g1, g2⟩ := OpIn.at_ (ps := ps) (Sl.later hs (bThen HB3.out hbw)) hlt
    have htx := HTX.out _ (List.getElem_mem hlt)
    have HD := h_ (List.drop_eq_getElem_cons hlt)
    have HOU := h_ (show out ++ appBytes r (ps[k] :: ps.drop (k + 1)) a = T.data.toList by rw [← HD.out]; exact hout.out)
    have HOKK := h_ (show okParts (ps[k] :: ps.drop (k + 1)) by rw [← HD.out]; exact hokk.out)
    rw [HD.out] at hfr
    have HSB := h_ hsb
    have HRw := h_ (And.intro hsb.lt hsb.row)
    clear hout hokk hsb
    generalize ps[k] = p at *
    have hpf := HOKK.out.1
    obtain ⟨kd, pn, tx⟩ := p
    dsimp only at *
    have hne1 : wr.heap.size ≠ w3.heap.size := by have := HRw.out.1.2; omega
    have hne2 : rowOf wr w3.heap.size ≠ some wr.heap.size := fun e => by have := (HRw.out.2 _ e).2; omega
    obtain ⟨WA, hWA⟩ : ∃ WA, WA = wr.alloc (.cells #[.int .i64 kd, .int .i64 pn, .string tx] 73) := ⟨_, rfl⟩
    have hba : Below wr.heap.size wr WA := by rw [hWA]; exact bA_
    have hWA1 : WA.heap.size = wr.heap.size + 1 := by rw [hWA]; simp
    have hWc : ∀ j, WA.cell? ⟨wr.heap.size, j, none⟩ = (#[Value.int .i64 kd, .int .i64 pn, .string tx])[j]? := by intro j; rw [hWA, World.cell?_alloc_new]
    have hrow : rowOf WA w3.heap.size = rowOf wr w3.heap.size := by unfold rowOf; rw [hba.block _ HRw.out.1.2]
    have HSA := h_ (HSB.out.later hba)
    have HRAA := h_ (hra.below hba hra.lt)
    have hc0 := fun (w2 : World) (h : Kept w3.heap.size WA w2) (j : Nat) => (h.cell (k := wr.heap.size) (j := j) (by omega) hne1 (by rw [hrow]; exact hne2)).trans (hWc j)
    have HC := h_ hc0
    have HKB := h_ (fun (w4 : World) (h : Kept w3.heap.size WA w4) => (hba.mono hsz).trans (h.below (Nat.le_refl _) (fun x hx => (HRw.out.2 x (by rw [← hrow]; exact hx)).1) (by omega)))
    have hol : out.length ≤ 16000 := by have := congrArg List.length HOU.out; have hbl : T.data.toList.length = T.size := rfl; rw [List.length_append] at this; omega
    clear hc0 hWc hrow
    by_cases hk1 : kd = 1
    · subst hk1
      obtain ⟨_, hp1, hp2, _⟩ := bw_ hpf (by simp)
      dsimp only at hp1 hp2
      obtain ⟨n, rfl⟩ : ∃ n : Nat, pn = n := ⟨pn.toNat, by omega⟩
      rw [fw_ (by decide), Int.toNat_natCast] at hfr
      have hpc := convPiece (W := wr.alloc (.cells #[.int .i64 1, .int .i64 n, .string tx] 73)) (by rw [← hWA]; exact HRAA.out) a n (cp - a) (by omega)
      have HE := h_ (og_ (r := r) (n := n) (s := tx) (ps := ps.drop (k + 1)) (a := a))
      have hps : (runesBytes ((r.drop a).take n)).size ≤ 16000 := by have a1 := runesBytes_size_le ((r.drop a).take n); rw [List.length_take] at a1; omega
      generalize runesBytes ((r.drop a).take n) = piece at *
      have hn1 : (1 : Int) ≤ n := by omega
      clear hp1
      go_wp2_with fail
      rw [← hWA]
      refine (hf_ WA _ _ out piece HSA.out (by omega) (by omega)).mono ?_
      rintro e w4 ⟨rfl, hsb4, hk4⟩
      have x1 := HC.out w4 hk4 1
      simp at x1
      have HB4 := h_ (HKB.out w4 hk4)
      clear hk4
      go_wp2_with fail
      go_roundw
      case rel => exact ⟨k + 1, a + n, out ++ piece.data.toList, by omega, by go_num, by go_num, by omega, by rw [List.append_assoc, ← HE.out]; exact HOU, HOKK.out.2.2, hsb4, hra.below HB4.out hg3, hbw.trans HB4.out⟩
      case measure => simp [intOf]; omega
    have e1 : (kd == 1) = false := by simpa using hk1
    by_cases hk2 : kd = 2
    · subst hk2
      have hv := (cl_ (fl_ hpf rfl).2.1).2
      dsimp only at hv
      have HE := h_ (pw_ (r := r) (n := pn) (s := tx) (ps := ps.drop (k + 1)) (a := a) hv)
      have hfr' : a + fromN (ps.drop (k + 1)) ≤ r.length := by
       have : fromN (⟨2, pn, tx⟩ :: ps.drop (k + 1)) = 0 + fromN (ps.drop (k + 1)) := rfl
       omega
      clear hv
      go_wp2_with fail
      rw [← hWA]
      refine (hf_ WA _ _ out tx HSA.out (by omega) (by omega)).mono ?_
      rintro e w4 ⟨rfl, hsb4, hk4⟩
      have HB4 := h_ (HKB.out w4 hk4)
      clear hk4
      go_wp2_with fail
      go_roundw
      case rel => exact ⟨k + 1, a, out ++ tx.data.toList, by omega, by go_num, rfl, hfr', by rw [List.append_assoc, ← HE.out]; exact HOU, HOKK.out.2.2, hsb4, hra.below HB4.out hg3, hbw.trans HB4.out⟩
      case measure => simp [intOf]; omega
    · have e2 : (kd == 2) = false := by simpa using hk2
      obtain ⟨hk13, hp1, hp2, _⟩ := bw_ hpf hk2
      dsimp only at hk13 hp1 hp2
      obtain rfl : kd = 3 := by omega
      obtain ⟨n, rfl⟩ : ∃ n : Nat, pn = n := ⟨pn.toNat, by omega⟩
      rw [fw_ (by decide), Int.toNat_natCast] at hfr
      clear hk13 hk1 hk2 hp1
      go_wp2_with fail
      go_roundw
      case rel => exact ⟨k + 1, a + n, out, by omega, by go_num, by go_num, by omega, HOU, HOKK.out.2.2, by rw [← hWA]; exact HSA.out, by rw [← hWA]; exact HRAA.out, bThen hbw bA_⟩
      case measure => simp [intOf]; omega
  · obtain rfl : k = ps.length := by omega
    have HOUT := h_ (show out = T.data.toList by have := hout.out; rw [List.drop_length] at this; simpa [appBytes, appRunes, runesBytes] using this)
    have HX := h_ (show T = ⟨out.toArray⟩ by rw [HOUT.out])
    have hlt3 := hsb.lt.2
    go_wp2_with fail
    refine (Tryz.Builder_String_any w3.heap.size w3.heap.size out wr hsb (by omega)).mono ?_
    rintro e w4 ⟨rfl, hb4⟩
    go_wp2_with fail
    go_ret2
    exact ⟨by rw [HX.out]; rfl, bThen HB3.out (hbw.trans hb4)⟩
def RetApply (w : World) (s : ByteArray) (ps : List PartD) (e : Ending) (w' : World) : Prop :=
 e = .returned (.tuple #[.string (applyText s ps), .int .i64 (applyErr s ps)]) ∧ Below w.heap.size w w'
theorem hg_ {s : ByteArray} {ps : List PartD} (h : textFault s ≠ 0) : applyErr s ps = textFault s ∧ applyText s ps = ⟨#[]⟩ := by
 have e : applyErr s ps = textFault s := if_pos h
 exact ⟨e, by unfold applyText; rw [e, if_neg h]⟩
theorem iv_ {s : ByteArray} {ps : List PartD} (h : textFault s = 0) (h2 : opFault ps ≠ 0) : applyErr s ps = opFault ps ∧ applyText s ps = ⟨#[]⟩ := by
 have e : applyErr s ps = opFault ps := by unfold applyErr; rw [if_neg (by simpa using h), if_pos h2]
 exact ⟨e, by unfold applyText; rw [e, if_neg h2]⟩
theorem hn_ {s : ByteArray} {ps : List PartD} (h : textFault s = 0) (h2 : opFault ps = 0) (h3 : (lens ps).1 ≠ (Lib.runeCount s : Int)) : applyErr s ps = 10 ∧ applyText s ps = ⟨#[]⟩ := by
 have e : applyErr s ps = 10 := by unfold applyErr; rw [if_neg (by simpa using h), if_neg (by simpa using h2), if_pos h3]
 exact ⟨e, by unfold applyText; rw [e, if_neg (by decide)]⟩
theorem eo_ {s : ByteArray} {ps : List PartD} (h : textFault s = 0) (h2 : opFault ps = 0) (h3 : (lens ps).1 = (Lib.runeCount s : Int)) : applyErr s ps = 0 ∧ applyText s ps = runesBytes (appRunes (runesOf s) ps 0) := by
 have e : applyErr s ps = 0 := by unfold applyErr; rw [if_neg (by simpa using h), if_neg (by simpa using h2), if_neg (by simpa using h3)]
 exact ⟨e, by unfold applyText; rw [if_pos e]⟩
theorem me_ (w : World) (s : ByteArray) (A : Option Addr) (c : Nat) (ps : List PartD) (hT : Tabs w) (hs : OpIn (· < w.heap.size) w A ps) (hm : ps.length ≤ 1048576) (ht : ∀ p ∈ ps, p.text.size ≤ 1048576) (hst : s.size ≤ 1048576) :
 Calls Tryz.prog 51 #[.string s, .slice A ps.length c] w (RetApply w s ps) := by
 have hC1 := bd_ s
 have hC2 := fun W hT hs => bj_ W A c ps hT hs hm ht
 by_cases h1 : textFault s = 0
 · by_cases h2 : opFault ps = 0
   · by_cases h3 : (lens ps).1 = (Lib.runeCount s : Int)
     · obtain ⟨e1, e2⟩ := eo_ h1 h2 h3
       unfold RetApply
       rw [e1, e2]
       exact xk_ w s A c ps hT hs hm ht hst h1 h2 h3
     · obtain ⟨e1, e2⟩ := hn_ h1 h2 h3
       unfold RetApply
       rw [e1, e2]
       have hC3 := fun W hs => bt_ W A c ps hs hm ht
       rw [h1] at hC1
       rw [h2] at hC2
       have hcv := fun wx => convRunes (w := wx) hst
       have hd : ((lens ps).1 != (Lib.runeCount s : Int)) = true := by simpa using h3
       generalize lens ps = L at *
       obtain ⟨L1, L2⟩ := L
       dsimp only at *
       have HC1 := h_ hC1
       have HC2 := h_ hC2
       have HC3 := h_ hC3
       clear hC1 hC2 hC3 h1 h2 h3 ht e1 e2
       go_enter Tryz.func51, Tryz.ntmps51
       go_wp2_with fail
       refine (HC1.out _ hT hst).mono ?_
       rintro e w1 ⟨rfl, hb1⟩
       have HT1 := h_ (hT.later hb1)
       have HS1 := h_ (Sl.later hs hb1)
       go_wp2_with fail
       refine (HC2.out _ HT1.out HS1.out).mono ?_
       rintro e w2 ⟨rfl, hb2⟩
       have HB2 := h_ (bThen hb1 hb2)
       have HS2 := h_ (Sl.later HS1.out hb2)
       clear hb1 hb2
       go_wp2_with fail
       refine (HC3.out _ (Sl.later HS2.out bA_.drew)).mono ?_
       rintro e w3 ⟨rfl, hb3⟩
       have HB3 := h_ (bThen (bThen HB2.out bA_.drew) hb3)
       clear hb3 hcv
       go_wp2_with fail
       go_ret2
       exact ⟨rfl, HB3.out⟩
   · obtain ⟨e1, e2⟩ := iv_ h1 h2
     unfold RetApply
     rw [e1, e2]
     rw [h1] at hC1
     have hd : (opFault ps != 0) = true := by simpa using h2
     generalize opFault ps = x at *
     have HC1 := h_ hC1
     have HC2 := h_ hC2
     clear hC1 hC2 h1 h2 ht e1 e2
     go_enter Tryz.func51, Tryz.ntmps51
     go_wp2_with fail
     refine (HC1.out _ hT hst).mono ?_
     rintro e w1 ⟨rfl, hb1⟩
     have HT1 := h_ (hT.later hb1)
     have HS1 := h_ (Sl.later hs hb1)
     go_wp2_with fail
     refine (HC2.out _ HT1.out HS1.out).mono ?_
     rintro e w2 ⟨rfl, hb2⟩
     go_wp2_with fail
     go_ret2
     exact ⟨rfl, bThen hb1 hb2⟩
 · obtain ⟨e1, e2⟩ := hg_ (ps := ps) h1
   unfold RetApply
   rw [e1, e2]
   have hd : (textFault s != 0) = true := by simpa using h1
   generalize textFault s = x at *
   have HC1 := h_ hC1
   clear hC1 hC2 h1 ht e1 e2
   go_enter Tryz.func51, Tryz.ntmps51
   go_wp2_with fail
   refine (HC1.out _ hT hst).mono ?_
   rintro e w1 ⟨rfl, hb1⟩
   go_wp2_with fail
   go_ret2
   exact ⟨rfl, hb1⟩
theorem infoRune : (Tryz.prog.info? 21).map (fun i => (i.zero, i.size, i.bytes)) = some (some (.int .i32 0), 1, 4) := by kernel_rfl
theorem convSl {W : World} {S : Nat → Prop} {A : Option Addr} {n c : Nat} {rs : List Int} (h : Sl S W 1 A n (rs.map (Value.int .i32))) : (convert 135 9 (.slice A n c)).run Tryz.prog W = .ok (.string (runesBytes rs)) W := by
 have hl : rs.length = n := by have := h.1; simpa using this
 rcases A with _ | ad
 · have hn : n = 0 := by
    rcases Nat.eq_zero_or_pos n with q | q
    · exact q
    · obtain ⟨_, _, e, _⟩ := h.2 q
      cases e
   have : rs = [] := List.eq_nil_of_length_eq_zero (by omega)
   subst this
   exact run_convert_runes_nil W 135 9 21 n c Tryz.underlying135 Tryz.underlying21 Tryz.underlying9
 · have key := run_convert_runes (P := Tryz.prog) W 135 9 21 ad n c rs (by omega) Tryz.underlying135 Tryz.underlying21 Tryz.underlying9 (fun j hj => by
    obtain ⟨b, o, e, _, hc⟩ := h.2 (by omega)
    injection e with e
    subst e
    rw [Go.WideShapes.add_plain]
    exact hc j _ (ej_ rs j hj))
   rw [key, List.take_of_length_le (by omega)]
theorem hb_ (s : ByteArray) (hs : s.size ≤ 1048576) (W : World) : ∃ W' c, (convert 9 135 (.string s)).run Tryz.prog W = .ok (.slice (some ⟨W.heap.size, 0, none⟩) (runesOf s).length c) W' ∧ Below W.heap.size W W' ∧ RunesAt W' W.heap.size (runesOf s) ∧ (runesOf s).length ≤ c := by
 have h := convRunes (w := W) hs
 rw [← ba_] at h
 exact ⟨_, _, h, bAlloc (Below.refl _ _).drew _, RunesAt.new W.drew s _ _, grownCap_ge _ _ _ _⟩
theorem fg_ {w : World} {base : Nat} {e : TypeId} {size n c : Nat} {A : Option Addr} {xs : List Value} (h : w.ownsRow base e size (.slice A n c) n xs) : Sl (· < w.heap.size) w size A n xs :=
 (Sl.of_own w h).keep (fun _ hb => hb.2) (fun _ _ => rfl)
def fromS : List (Int × Int) → Nat
 | [] => 0
 | x :: l => (if x.1 = 2 then 0 else 1) + fromS l
theorem qg_ (a b : List (Int × Int)) : fromS (a ++ b) = fromS a + fromS b := by
 induction a with
 | nil => simp [fromS]
 | cons x a ih =>
  rw [List.cons_append, show fromS (x :: (a ++ b)) = (if x.1 = 2 then 0 else 1) + fromS (a ++ b) from rfl, show fromS (x :: a) = (if x.1 = 2 then 0 else 1) + fromS a from rfl, ih]
  omega
theorem vl_ (rs : List Int) : fromS (rs.map (fun r => ((2 : Int), r))) = 0 := by
 induction rs with
 | nil => rfl
 | cons r rs ih =>
  rw [List.map_cons, show fromS ((2, r) :: rs.map (fun r => ((2 : Int), r))) = 0 + fromS (rs.map (fun r => ((2 : Int), r))) from rfl, ih]
theorem vm_ (k : Int) (h : k ≠ 2) (n : Nat) : fromS (List.replicate n (k, 0)) = n := by
 induction n with
 | zero => rfl
 | succ n ih =>
  rw [List.replicate_succ, show fromS ((k, 0) :: List.replicate n (k, 0)) = (if k = 2 then 0 else 1) + fromS (List.replicate n (k, 0)) from rfl, ih, if_neg h]
  omega
theorem gj_ : ∀ (ps : List PartD), fromS (stepsOf ps) = fromN ps
 | [] => rfl
 | p :: ps => by
  rw [cj_, qg_, gj_ ps, show fromN (p :: ps) = (if p.kind = 2 then 0 else p.n.toNat) + fromN ps from rfl]
  congr 1
  unfold partSteps
  by_cases h2 : p.kind = 2
  · rw [if_pos h2, if_pos h2, vl_]
  · rw [if_neg h2, if_neg h2, vm_ _ h2]
theorem jb_ {r : Int} {l : List (Int × Int)} : fromS ((2, r) :: l) = 0 + fromS l := rfl
theorem jc_ {k r : Int} {l : List (Int × Int)} (h : k ≠ 2) : fromS ((k, r) :: l) = 1 + fromS l := by
 rw [show fromS ((k, r) :: l) = (if k = 2 then 0 else 1) + fromS l from rfl, if_neg h]
theorem xs_ {r : List Int} {x : Int} {l : List (Int × Int)} {a : Nat} : appSteps r ((2, x) :: l) a = x :: appSteps r l a := rfl
theorem uz_ {r : List Int} {x : Int} {l : List (Int × Int)} {a : Nat} : appSteps r ((1, x) :: l) a = r.getD a 0 :: appSteps r l (a + 1) := rfl
theorem xr_ {r : List Int} {k x : Int} {l : List (Int × Int)} {a : Nat} (h1 : k ≠ 1) (h2 : k ≠ 2) : appSteps r ((k, x) :: l) a = appSteps r l (a + 1) := by
 rw [dq_, if_neg h2, if_neg h1]
theorem su_ (w : World) (s : ByteArray) (A : Option Addr) (c : Nat) (ps : List PartD) (hT : Tabs w) (hs : OpIn (· < w.heap.size) w A ps) (hm : ps.length ≤ 1048576) (ht : ∀ p ∈ ps, p.text.size ≤ 1048576) (hst : s.size ≤ 1048576)
 (ht0 : textFault s = 0) (hf0 : opFault ps = 0) (hln : (lens ps).1 = (Lib.runeCount s : Int)) :
 Calls Tryz.prog 64 #[.string s, .slice A ps.length c] w (R_ w (.tuple #[.string (runesBytes (appSteps (runesOf s) (stepsOf ps) 0)), .int .i64 0])) := by
 obtain ⟨i0, hi, hz0, hz1, hz2⟩ := info_parts infoRune
 obtain ⟨h8, hok, _, _⟩ := bx_ hf0
 obtain ⟨e1, e2, n1, n2⟩ := ff_ hf0
 have hrl := ba_ s
 have hfr : 0 + fromS ((stepsOf ps).drop 0) = (runesOf s).length := by rw [List.drop_zero, gj_]; omega
 have hsl := cq_ hok
 have hC1 := be_ s
 have hC2 := fun W hT hs => bc_ W A c ps hT hs hm ht
 have hC3 := fun W hs => bi_ W A c ps hs hm ht
 have HC4 := h_ (fun W hs => mw_ W A c ps hs hm ht (by omega))
 rw [ht0] at hC1
 rw [hf0] at hC2
 rw [e1, e2] at hC3
 have HC1 := h_ hC1
 have HC2 := h_ hC2
 have HC3 := h_ hC3
 have HRA := h_ (hb_ s hst)
 have HTOT := h_ (show [] ++ appSteps (runesOf s) ((stepsOf ps).drop 0) 0 = appSteps (runesOf s) (stepsOf ps) 0 by simp)
 have HF0 := h_ hfr
 generalize hTT : appSteps (runesOf s) (stepsOf ps) 0 = T at *
 generalize runesOf s = r at *
 generalize stepsOf ps = l at *
 rw [← hrl] at hln
 have hdec : ((fromN ps : Int) != (r.length : Int)) = false := by simp; omega
 have hr4 : r.length ≤ 4000 := by omega
 have hl8 : l.length ≤ 8000 := by omega
 clear ht0 hf0 hln hC1 hC2 hC3 hok ht e1 e2 hfr hTT hrl hsl
 go_enter Tryz.func64, Tryz.ntmps64
 go_wp2_with fail
 refine (HC1.out _ hT hst).mono ?_
 rintro e w1 ⟨rfl, hb1⟩
 have HT1 := h_ (hT.later hb1)
 have HS1 := h_ (Sl.later hs hb1)
 go_wp2_with fail
 refine (HC2.out _ HT1.out HS1.out).mono ?_
 rintro e w2 ⟨rfl, hb2⟩
 have HB2 := h_ (bThen hb1 hb2)
 have HS2 := h_ (Sl.later HS1.out hb2)
 clear hb1 hb2 hT HT1 HS1
 go_wp2_with fail
 refine (HC3.out _ HS2.out).mono ?_
 rintro e w3 ⟨rfl, hb3⟩
 have HB3 := h_ (bThen HB2.out hb3)
 have HS3 := h_ (Sl.later HS2.out hb3)
 clear hb3
 obtain ⟨W4, c4, hcv1, hb4, _, _⟩ := HRA.out w3
 obtain ⟨W5, c5, hcv2, hb5, hra5, hc5⟩ := HRA.out W4
 have HB5 := h_ (bThen (bThen HB3.out hb4) hb5)
 have HS5 := h_ (Sl.later (Sl.later HS3.out hb4) hb5)
 have HRA5 := h_ hra5
 clear hra5 hb4 hb5
 go_wp2_with fail
 refine (HC4.out _ HS5.out).mono ?_
 rintro e w6 ⟨A6, c6, rfl, hown6, hb6⟩
 have HB6 := h_ (bThen HB5.out hb6)
 have HRA6 := HRA5.out.below hb6 HRA5.out.lt
 have HST := fg_ hown6
 have hg6 := HRA6.lt
 have hz6 := HB6.out.size
 clear hb6 hown6 hcv1 hcv2 HRA5 HRA HS5
 generalize hG : W4.heap.size = g at *
 clear hG
 go_wp2_with fail
 go_loopw [11, 12, 13] (fun o_ at_ i wr => ∃ (k a : Nat) (out : List Int) (Ao : Option Addr) (co : Nat), k ≤ l.length ∧ i = .int .i64 k ∧ at_ = .int .i64 a ∧ o_ = .slice Ao out.length co ∧ out.length ≤ k ∧ a + fromS (l.drop k) = r.length ∧ Hid (out ++ appSteps r (l.drop k) a = T) ∧ wr.ownsRow w6.heap.size 21 1 (.slice Ao out.length co) out.length (out.map (Value.int .i32)) ∧ Below w6.heap.size w6 wr)
  (fun _ _ i _ => l.length - (intOf i).toNat)
 case atStart => exact ⟨0, 0, [], none, 0, Nat.zero_le _, rfl, rfl, rfl, Nat.le_refl _, HF0.out, HTOT, World.ownsRow_nil _ _ _ _, Below.refl _ _⟩
 case round =>
  obtain ⟨k, a, out, Ao, co, hk, rfl, rfl, rfl, hol, hfr, hout, hown, hbw⟩ := hrel
  have hsz := hbw.size
  by_cases hlt : k < l.length
  · obtain ⟨b, o, rfl, hbs', g0, g1⟩ := StepsIn.at_ (Sl.later HST hbw) hlt
    have HD := h_ (List.drop_eq_getElem_cons hlt)
    have HOU := h_ (show out ++ appSteps r (l[k] :: l.drop (k + 1)) a = T by rw [← HD.out]; exact hout.out)
    rw [HD.out] at hfr
    clear hout
    have HFR := h_ hfr
    clear hfr
    generalize l[k] = x at *
    obtain ⟨kd, rr⟩ := x
    dsimp only at *
    by_cases hk2 : kd = 2
    · subst hk2
      have hf2 : a + fromS (l.drop (k + 1)) = r.length := by have := HFR.out; rw [jb_] at this; omega
      have HF2 := h_ hf2
      have HE := h_ (show (out ++ [rr]) ++ appSteps r (l.drop (k + 1)) a = T by rw [← HOU.out, xs_]; simp)
      have HX := h_ (hown.alloc (.cells #[.int .i32 rr] 21))
      have HS := h_ (Sl.new (S := fun _ => True) wr [.int .i32 rr] 21 1 1 rfl trivial)
      clear hf2
      go_wp2_with (at_builtin; refine j_ _ rfl _ _ 135 rfl w6.heap.size 21 i0 (.int .i32 0) 1 4 Tryz.underlying135 hi hz0 hz1 hz2 rfl (by decide) _ _ _ rfl HX.out _ _ _ _ _ rfl HS.out ?c1 ?c2 ?c3 ?c4 ?_)
      case c1 => simp [Value.oneCell']
      case c2 => unfold maxLen; omega
      case c3 => omega
      case c4 => simp; omega
      intro A' c' w7 hown' hgrow hat
      go_wp2_with fail
      go_roundw
      case rel => exact ⟨k + 1, a, out ++ [rr], A', c', by omega, by go_num, rfl, by simp, by simp; omega, HF2.out, HE, by simpa using hown', (bAlloc hbw _).grown hgrow (by simp; omega) (fun g hg => (hown.lt g hg).1)⟩
      case measure => simp [intOf]; omega
    · have e2 : (kd == 2) = false := by simpa using hk2
      have hf2 : a + 1 + fromS (l.drop (k + 1)) = r.length := by have := HFR.out; rw [jc_ hk2] at this; omega
      have ha : a < r.length := by omega
      have HF2 := h_ hf2
      clear hf2
      by_cases hk1 : kd = 1
      · subst hk1
        have hcell := (hbw.cell (p := ⟨g, 0 + a, none⟩) hg6).trans (HRA6.cells a _ (ej_ r a ha))
        rw [Nat.zero_add] at hcell
        have HE := h_ (show (out ++ [r.getD a 0]) ++ appSteps r (l.drop (k + 1)) (a + 1) = T by rw [← HOU.out, uz_]; simp)
        generalize r.getD a 0 = rv at *
        have HX := h_ (hown.alloc (.cells #[.int .i32 rv] 21))
        have HS := h_ (Sl.new (S := fun _ => True) wr [.int .i32 rv] 21 1 1 rfl trivial)
        clear hk2
        go_wp2_with (at_builtin; refine j_ _ rfl _ _ 135 rfl w6.heap.size 21 i0 (.int .i32 0) 1 4 Tryz.underlying135 hi hz0 hz1 hz2 rfl (by decide) _ _ _ rfl HX.out _ _ _ _ _ rfl HS.out ?d1 ?d2 ?d3 ?d4 ?_)
        case d1 => simp [Value.oneCell']
        case d2 => unfold maxLen; omega
        case d3 => omega
        case d4 => simp; omega
        intro A' c' w7 hown' hgrow hat
        go_wp2_with fail
        go_roundw
        case rel => exact ⟨k + 1, a + 1, out ++ [rv], A', c', by omega, by go_num, by go_num, by simp, by simp; omega, HF2.out, HE, by simpa using hown', (bAlloc hbw _).grown hgrow (by simp; omega) (fun g hg => (hown.lt g hg).1)⟩
        case measure => simp [intOf]; omega
      · have e1 : (kd == 1) = false := by simpa using hk1
        have HE := h_ (show out ++ appSteps r (l.drop (k + 1)) (a + 1) = T by rw [← HOU.out, xr_ hk1 hk2])
        clear hk1 hk2
        go_wp2_with fail
        go_roundw
        case rel => exact ⟨k + 1, a + 1, out, Ao, co, by omega, by go_num, by go_num, rfl, by omega, HF2.out, HE, hown, hbw⟩
        case measure => simp [intOf]; omega
  · obtain rfl : k = l.length := by omega
    have HX := h_ (show T = out by have := hout.out; rw [List.drop_length] at this; simpa [appSteps] using this.symm)
    have hcv := convSl (c := co) (fg_ hown)
    go_wp2_with fail
    go_ret2
    exact ⟨by rw [HX.out]; rfl, bThen HB6.out hbw⟩
theorem hl_ (w : World) (s : ByteArray) (A : Option Addr) (c : Nat) (ps : List PartD) (hT : Tabs w) (hs : OpIn (· < w.heap.size) w A ps) (hm : ps.length ≤ 1048576) (ht : ∀ p ∈ ps, p.text.size ≤ 1048576) (hst : s.size ≤ 1048576) :
 Calls Tryz.prog 64 #[.string s, .slice A ps.length c] w (RetApply w s ps) := by
 have hC1 := be_ s
 have hC2 := fun W hT hs => bc_ W A c ps hT hs hm ht
 have HC3 := h_ (fun W hs => bi_ W A c ps hs hm ht)
 by_cases h1 : textFault s = 0
 · by_cases h2 : opFault ps = 0
   · by_cases h3 : (lens ps).1 = (Lib.runeCount s : Int)
     · obtain ⟨e1, e2⟩ := eo_ h1 h2 h3
       unfold RetApply
       rw [e1, e2, ← if_ (runesOf s) ps 0 (bx_ h2).2.1 (by have := (ff_ h2).1; have := ba_ s; omega)]
       exact su_ w s A c ps hT hs hm ht hst h1 h2 h3
     · obtain ⟨e1, e2⟩ := hn_ h1 h2 h3
       unfold RetApply
       rw [e1, e2]
       rw [h1] at hC1
       rw [h2] at hC2
       have HRA := h_ (hb_ s hst)
       have hrl := ba_ s
       rw [← hrl] at h3
       have hd : ((lens ps).1 != ((runesOf s).length : Int)) = true := by simpa using h3
       generalize runesOf s = r at *
       generalize lens ps = L at *
       obtain ⟨L1, L2⟩ := L
       dsimp only at *
       have HC1 := h_ hC1
       have HC2 := h_ hC2
       clear hC1 hC2 h1 h2 h3 ht e1 e2 hrl
       go_enter Tryz.func64, Tryz.ntmps64
       go_wp2_with fail
       refine (HC1.out _ hT hst).mono ?_
       rintro e w1 ⟨rfl, hb1⟩
       have HT1 := h_ (hT.later hb1)
       have HS1 := h_ (Sl.later hs hb1)
       go_wp2_with fail
       refine (HC2.out _ HT1.out HS1.out).mono ?_
       rintro e w2 ⟨rfl, hb2⟩
       have HB2 := h_ (bThen hb1 hb2)
       have HS2 := h_ (Sl.later HS1.out hb2)
       clear hb1 hb2
       go_wp2_with fail
       refine (HC3.out _ HS2.out).mono ?_
       rintro e w3 ⟨rfl, hb3⟩
       have HB3 := h_ (bThen HB2.out hb3)
       clear hb3
       obtain ⟨W4, c4, hcv1, hb4, _, _⟩ := HRA.out w3
       go_wp2_with fail
       go_ret2
       exact ⟨rfl, bThen HB3.out hb4⟩
   · obtain ⟨e1, e2⟩ := iv_ h1 h2
     unfold RetApply
     rw [e1, e2]
     rw [h1] at hC1
     have hd : (opFault ps != 0) = true := by simpa using h2
     have hd2 : (opFault ps == 0) = false := by simpa using h2
     generalize opFault ps = x at *
     generalize lens ps = L at *
     obtain ⟨L1, L2⟩ := L
     dsimp only at *
     have HC1 := h_ hC1
     have HC2 := h_ hC2
     clear hC1 hC2 h1 h2 ht e1 e2
     go_enter Tryz.func64, Tryz.ntmps64
     go_wp2_with fail
     refine (HC1.out _ hT hst).mono ?_
     rintro e w1 ⟨rfl, hb1⟩
     have HT1 := h_ (hT.later hb1)
     have HS1 := h_ (Sl.later hs hb1)
     go_wp2_with fail
     refine (HC2.out _ HT1.out HS1.out).mono ?_
     rintro e w2 ⟨rfl, hb2⟩
     have HB2 := h_ (bThen hb1 hb2)
     have HS2 := h_ (Sl.later HS1.out hb2)
     go_wp2_with fail
     refine (HC3.out _ HS2.out).mono ?_
     rintro e w3 ⟨rfl, hb3⟩
     go_wp2_with fail
     go_ret2
     exact ⟨rfl, bThen HB2.out hb3⟩
 · obtain ⟨e1, e2⟩ := hg_ (ps := ps) h1
   unfold RetApply
   rw [e1, e2]
   have hd : (textFault s != 0) = true := by simpa using h1
   have hd2 : (textFault s == 0) = false := by simpa using h1
   generalize textFault s = x at *
   generalize lens ps = L at *
   obtain ⟨L1, L2⟩ := L
   dsimp only at *
   have HC1 := h_ hC1
   clear hC1 hC2 h1 ht e1 e2
   go_enter Tryz.func64, Tryz.ntmps64
   go_wp2_with fail
   refine (HC1.out _ hT hst).mono ?_
   rintro e w1 ⟨rfl, hb1⟩
   have HS1 := h_ (Sl.later hs hb1)
   go_wp2_with fail
   refine (HC3.out _ HS1.out).mono ?_
   rintro e w3 ⟨rfl, hb3⟩
   go_wp2_with fail
   go_ret2
   exact ⟨rfl, bThen hb1 hb3⟩
end Go.Proofs.YtacacoklddogmaaGreatDoor
