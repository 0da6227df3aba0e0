/-
  Contracts of the eye's methods stop and num.
-/
import Derived.Test.YtieofljkgmkaiaaDoorRows
import Derived.Test.YtieofljkgmkaiaaDoorTapeC
import Derived.Test.YtieofljkgmkaiaaDoorOnly
import Derived.Test.YtieofljkgmkaiaaDoorReadP
import Derived.Laws.Bits128
namespace Go.Proofs.YtieofljkgmkaiaaDoor
open Go.ChangeShapes Go.WideShapes Go.ChangeAt Go.RowKit
set_option maxRecDepth 100000
/-- The eye in block B looks at these bytes, has those left, and this fault; the bytes lie below it. -/
def Ey (w : World) (B : Nat) (bs l : List UInt8) (f : Int) : Prop :=
  ∃ A c a, w.heap[B]? = some (.cells #[.slice A bs.length c, .int .i64 (a : Nat), .int .i64 f] 146 (0, 0)) ∧ a ≤ bs.length ∧ bs.drop a = l ∧ bs.length ≤ 50000 ∧ (bs.length ≤ c ∧ c ≤ 9223372036854775807) ∧ Sl (· < B) w 1 A bs.length (bs.map byteV)
theorem Ey.lt {w : World} {B : Nat} {bs l : List UInt8} {f : Int} (h : Ey w B bs l f) : B < w.heap.size := by
  obtain ⟨A, c, a, h1, _⟩ := h
  exact (three_cell h1).2.2.2.2.2.2
theorem Ey.keep {w w' : World} {B : Nat} {bs l : List UInt8} {f : Int} (h : Ey w B bs l f) (hk : ∀ k, k ≤ B → w'.heap[k]? = w.heap[k]?) : Ey w' B bs l f := by
  obtain ⟨A, c, a, h1, h2, h3, h4, h5, h6⟩ := h
  exact ⟨A, c, a, (hk B (Nat.le_refl _)).trans h1, h2, h3, h4, h5, h6.keep (fun _ x => x) (fun b hb => hk b (Nat.le_of_lt hb))⟩
theorem Ey.later {w w' : World} {B : Nat} {bs l : List UInt8} {f : Int} (h : Ey w B bs l f) (hb : Below w.heap.size w w') : Ey w' B bs l f := h.keep fun k hk => hb.block k (Nat.lt_of_le_of_lt hk h.lt)
theorem Ey.fresh (w : World) (A : Option Addr) (bs : List UInt8) (c : Nat) (h : Sl (· < w.heap.size) w 1 A bs.length (bs.map byteV)) (hl : bs.length ≤ 50000) (h1 : bs.length ≤ c) (h2 : c ≤ 9223372036854775807) : Ey (w.alloc (.cells #[.slice A bs.length c, .int .i64 0, .int .i64 0] 146)) w.heap.size bs bs 0 :=
  ⟨A, c, 0, by show (w.heap.push _)[w.heap.size]? = _; simp, by omega, rfl, hl, ⟨h1, h2⟩, h.keep (fun _ x => x) (fun b hb => (bAlloc (Below.refl w.heap.size w) _).block b hb)⟩
/-- A method of an eye that brings a number. -/
def EyNum (B : Nat) (bs : List UInt8) (w : World) (x : Int × List UInt8 × Int) (e : Ending) (w' : World) : Prop := e = .returned (.int .i64 x.1) ∧ Ey w' B bs x.2.1 x.2.2 ∧ Only B w w'
theorem estop_c (w : World) (B : Nat) (bs l : List UInt8) (z : Int) (h : Ey w B bs l 0) :
    Calls Tryd.prog 130 #[.pointer (some ⟨B, 0, none⟩), .int .i64 z] w fun e w' => e = .returned (.tuple #[]) ∧ Ey w' B bs [] z ∧ Only B w w' := by
  obtain ⟨A, c, a, h1, h2, h3, h4, h5, h6⟩ := h
  obtain ⟨x0, x1, x2, f0, f1, f2, hlt⟩ := three_cell h1
  have HO := Lib.hid h1
  have HS := Lib.hid h6
  clear h1 h6 h3
  go_enter Tryd.func130, Tryd.ntmps130
  go_wp2_with fail
  refine bodyPost_end (results_none rfl _ _ _) rfl ⟨rfl, ⟨A, c, bs.length, three_set1 (three_set2 HO.out), Nat.le_refl _, List.drop_length, h4, h5, (HS.out.keep (fun _ x => x) (fun b hb => Below.heap_setCell _ _ _ _ (Nat.ne_of_lt hb))).keep (fun _ x => x) (fun b hb => Below.heap_setCell _ _ _ _ (Nat.ne_of_lt hb))⟩, (Only.set _ _ _).trans (Only.set _ _ _)⟩
theorem Ey.next {w : World} {B a : Nat} {A : Option Addr} {c : Nat} {bs t : List UInt8} {ch : UInt8} {v : Value} (ho : w.heap[B]? = some (.cells #[.slice A bs.length c, v, .int .i64 0] 146 (0, 0))) (h3 : bs.drop a = ch :: t) (h4 : bs.length ≤ 50000) (h5 : bs.length ≤ c ∧ c ≤ 9223372036854775807) (hs : Sl (· < B) w 1 A bs.length (bs.map byteV)) {z : Int} (hz : z = (a : Int) + 1) :
    Ey (w.setCell ⟨B, 1, none⟩ (.int .i64 z)) B bs t 0 := by
  have hal : a < bs.length := by
    have := congrArg List.length h3
    rw [List.length_drop, List.length_cons] at this
    omega
  refine ⟨A, c, a + 1, by rw [hz]; exact three_set1 ho, by omega, ?_, h4, h5, hs.keep (fun _ x => x) (fun b hb => Below.heap_setCell _ _ _ _ (Nat.ne_of_lt hb))⟩
  rw [← List.drop_drop, h3]
  rfl
set_option maxHeartbeats 4000000 in
theorem enum_c (w : World) (B : Nat) (bs l : List UInt8) (h : Ey w B bs l 0) :
    Calls Tryd.prog 93 #[.pointer (some ⟨B, 0, none⟩)] w (EyNum B bs w (numGo 0 0 l)) := by
  have HR := Lib.hid h
  clear h
  go_enter Tryd.func93, Tryd.ntmps93
  go_wp2_with fail
  go_loopw [3, 4, 5] (fun n fv i wr => ∃ (k : Nat) (acc : Int) (l1 : List UInt8), k ≤ 3 ∧ i = .int .i64 k ∧ n = .int .i64 acc ∧ fv = .int .i64 (128 ^ k) ∧ Hid (numGo k acc l1 = numGo 0 0 l) ∧ (0 ≤ acc ∧ acc < 128 ^ k) ∧ Ey wr B bs l1 0 ∧ Only B w wr)
    (fun _ _ i _ => 4 - (intOf i).toNat)
  case atStart => exact ⟨0, 0, l, by omega, rfl, rfl, rfl, rfl, ⟨Int.le_refl 0, by decide⟩, HR.out, Only.refl _ _⟩
  case round =>
    obtain ⟨k, acc, l1, hk, rfl, rfl, rfl, hg, hacc, hrd, hon⟩ := hrel
    have HRd := Lib.hid hrd
    have HOn := Lib.hid hon
    obtain ⟨A, c, a, h1, h2, h3, h4, h5, h6⟩ := hrd
    obtain ⟨x0, x1, x2, f0, f1, f2, hlt⟩ := three_cell h1
    have HO := Lib.hid h1
    clear h1 hon
    cases l1 with
    | nil =>
      have HG := Lib.hid (show numGo 0 0 l = (0, [], 5) from hg.out.symm)
      have hal : a = bs.length := by
        have := congrArg List.length h3
        rw [List.length_drop, List.length_nil] at this
        omega
      clear hg h3
      subst hal
      have e9 : decide ((k : Int) < 4) = true := by simp; omega
      go_wp2_with fail
      go_quiet (fail)
      go_wp2_with fail
      refine (estop_c _ B bs [] 5 (HRd.out.later (bDrewN (Below.refl _ _) _))).mono ?_
      rintro e w1 ⟨rfl, hr1, ho1⟩
      go_wp2_with fail
      go_ret
      rw [HG.out]
      exact ⟨rfl, hr1, (HOn.out.trans (Only.of_below (bDrewN (Below.refl _ _) _))).trans ho1⟩
    | cons ch t =>
      have hal : a < bs.length := by
        have := congrArg List.length h3
        rw [List.length_drop, List.length_cons] at this
        omega
      obtain ⟨b, o, rfl, hbB, hc⟩ := h6.open_ (by omega)
      have hch : bs[a]? = some ch := by
        have := congrArg (fun z => z[0]?) h3
        simpa using this
      have c00 : wr.cell? ⟨b, o + a, none⟩ = some (.int .u8 ch.toNat) := hc a _ (by rw [List.getElem?_map, hch]; rfl)
      have hb1 : 0 ≤ (ch.toNat : Int) ∧ (ch.toNat : Int) ≤ 255 := by have := ch.toNat_lt; omega
      have e8 : decide ((bs.length : Int) ≤ (a : Int)) = false := by simp; omega
      have H3 := Lib.hid h3
      have H6 := Lib.hid h6
      clear hc h6 h3 hch
      obtain rfl | rfl | rfl | rfl : k = 0 ∨ k = 1 ∨ k = 2 ∨ k = 3 := by omega
      · by_cases hm : ch.toNat < 128
        · have e2 : decide ((ch.toNat : Int) < 128) = true := by simp; omega
          have HG := Lib.hid (show numGo 0 0 l = (acc + (ch.toNat : Int) % 128 * 128 ^ 0, t, 0) from by rw [← hg.out]; exact numGo_end _ _ _ _ (by omega) (by omega))
          clear hg
          go_wp2_with fail
          go_quiet (fail)
          go_wp2_with fail
          go_quiet (fail)
          go_wp2_with fail
          all_goals
            go_ret
            rw [HG.out]
            refine ⟨?_, (Ey.next HO.out H3.out h4 h5 (H6.out.keep (fun _ x => x) (fun _ _ => rfl)) (by first | rfl | (unfold wrap64; omega))), (HOn.out.trans (Only.of_below (bDrewN (Below.refl _ _) _))).trans (Only.set _ _ _)⟩
            first | rfl | (simp; done) | (simp; unfold wrap64; omega) | (simp; omega) | (congr 2; unfold wrap64; omega)
        · have e2 : decide ((ch.toNat : Int) < 128) = false := by simp; omega
          have HA := Lib.hid (show 0 ≤ acc + (ch.toNat : Int) % 128 * 128 ^ 0 ∧ acc + (ch.toNat : Int) % 128 * 128 ^ 0 < 128 ^ 1 by have := hacc.2; simp at this ⊢; omega)
          have HG := Lib.hid (show numGo 1 (acc + (ch.toNat : Int) % 128 * 128 ^ 0) t = numGo 0 0 l from by rw [← hg.out]; exact (numGo_more _ _ _ _ (by omega) (by omega)).symm)
          clear hg
          go_wp2_with fail
          go_quiet (fail)
          go_wp2_with fail
          go_quiet (fail)
          go_wp2_with fail
          all_goals
            go_roundw
            case rel =>
              refine ⟨1, acc + (ch.toNat : Int) % 128 * 128 ^ 0, t, by omega, rfl, ?_, by rfl, HG, HA.out, (Ey.next HO.out H3.out h4 h5 (H6.out.keep (fun _ x => x) (fun _ _ => rfl)) (by first | rfl | (unfold wrap64; omega))), (HOn.out.trans (Only.of_below (bDrewN (Below.refl _ _) _))).trans (Only.set _ _ _)⟩
              first | rfl | (simp; done) | (simp; unfold wrap64; omega) | (simp; omega) | (congr 2; unfold wrap64; omega)
            case measure => simp [intOf]
      · by_cases hz : ch.toNat = 0
        · have e1 : ((ch.toNat : Int) == 0) = true := by simp; omega
          have HG := Lib.hid (show numGo 0 0 l = (0, [], 4) from by rw [← hg.out]; exact numGo_bad _ _ _ _ (by omega))
          clear hg
          go_wp2_with fail
          go_quiet (fail)
          go_wp2_with fail
          go_quiet (fail)
          go_wp2_with fail
          all_goals
            refine (estop_c _ B bs t 4 ?ey).mono ?_
            case ey => exact (Ey.next HO.out H3.out h4 h5 (H6.out.keep (fun _ x => x) (fun _ _ => rfl)) (by first | rfl | (unfold wrap64; omega)))
            rintro e w1 ⟨rfl, hr1, ho1⟩
            go_wp2_with fail
            go_ret
            rw [HG.out]
            exact ⟨rfl, hr1, ((HOn.out.trans (Only.of_below (bDrewN (Below.refl _ _) _))).trans (Only.set _ _ _)).trans ho1⟩
        · have e1 : ((ch.toNat : Int) == 0) = false := by simp; omega
          by_cases hm : ch.toNat < 128
          · have e2 : decide ((ch.toNat : Int) < 128) = true := by simp; omega
            have HG := Lib.hid (show numGo 0 0 l = (acc + (ch.toNat : Int) % 128 * 128 ^ 1, t, 0) from by rw [← hg.out]; exact numGo_end _ _ _ _ (by omega) (by omega))
            clear hg
            go_wp2_with fail
            go_quiet (fail)
            go_wp2_with fail
            go_quiet (fail)
            go_wp2_with fail
            all_goals
              go_ret
              rw [HG.out]
              refine ⟨?_, (Ey.next HO.out H3.out h4 h5 (H6.out.keep (fun _ x => x) (fun _ _ => rfl)) (by first | rfl | (unfold wrap64; omega))), (HOn.out.trans (Only.of_below (bDrewN (Below.refl _ _) _))).trans (Only.set _ _ _)⟩
              first | rfl | (simp; done) | (simp; unfold wrap64; omega) | (simp; omega) | (congr 2; unfold wrap64; omega)
          · have e2 : decide ((ch.toNat : Int) < 128) = false := by simp; omega
            have HA := Lib.hid (show 0 ≤ acc + (ch.toNat : Int) % 128 * 128 ^ 1 ∧ acc + (ch.toNat : Int) % 128 * 128 ^ 1 < 128 ^ 2 by have := hacc.2; simp at this ⊢; omega)
            have HG := Lib.hid (show numGo 2 (acc + (ch.toNat : Int) % 128 * 128 ^ 1) t = numGo 0 0 l from by rw [← hg.out]; exact (numGo_more _ _ _ _ (by omega) (by omega)).symm)
            clear hg
            go_wp2_with fail
            go_quiet (fail)
            go_wp2_with fail
            go_quiet (fail)
            go_wp2_with fail
            all_goals
              go_roundw
              case rel =>
                refine ⟨2, acc + (ch.toNat : Int) % 128 * 128 ^ 1, t, by omega, rfl, ?_, by rfl, HG, HA.out, (Ey.next HO.out H3.out h4 h5 (H6.out.keep (fun _ x => x) (fun _ _ => rfl)) (by first | rfl | (unfold wrap64; omega))), (HOn.out.trans (Only.of_below (bDrewN (Below.refl _ _) _))).trans (Only.set _ _ _)⟩
                first | rfl | (simp; done) | (simp; unfold wrap64; omega) | (simp; omega) | (congr 2; unfold wrap64; omega)
              case measure => simp [intOf]
      · by_cases hz : ch.toNat = 0
        · have e1 : ((ch.toNat : Int) == 0) = true := by simp; omega
          have HG := Lib.hid (show numGo 0 0 l = (0, [], 4) from by rw [← hg.out]; exact numGo_bad _ _ _ _ (by omega))
          clear hg
          go_wp2_with fail
          go_quiet (fail)
          go_wp2_with fail
          go_quiet (fail)
          go_wp2_with fail
          all_goals
            refine (estop_c _ B bs t 4 ?ey).mono ?_
            case ey => exact (Ey.next HO.out H3.out h4 h5 (H6.out.keep (fun _ x => x) (fun _ _ => rfl)) (by first | rfl | (unfold wrap64; omega)))
            rintro e w1 ⟨rfl, hr1, ho1⟩
            go_wp2_with fail
            go_ret
            rw [HG.out]
            exact ⟨rfl, hr1, ((HOn.out.trans (Only.of_below (bDrewN (Below.refl _ _) _))).trans (Only.set _ _ _)).trans ho1⟩
        · have e1 : ((ch.toNat : Int) == 0) = false := by simp; omega
          by_cases hm : ch.toNat < 128
          · have e2 : decide ((ch.toNat : Int) < 128) = true := by simp; omega
            have HG := Lib.hid (show numGo 0 0 l = (acc + (ch.toNat : Int) % 128 * 128 ^ 2, t, 0) from by rw [← hg.out]; exact numGo_end _ _ _ _ (by omega) (by omega))
            clear hg
            go_wp2_with fail
            go_quiet (fail)
            go_wp2_with fail
            go_quiet (fail)
            go_wp2_with fail
            all_goals
              go_ret
              rw [HG.out]
              refine ⟨?_, (Ey.next HO.out H3.out h4 h5 (H6.out.keep (fun _ x => x) (fun _ _ => rfl)) (by first | rfl | (unfold wrap64; omega))), (HOn.out.trans (Only.of_below (bDrewN (Below.refl _ _) _))).trans (Only.set _ _ _)⟩
              first | rfl | (simp; done) | (simp; unfold wrap64; omega) | (simp; omega) | (congr 2; unfold wrap64; omega)
          · have e2 : decide ((ch.toNat : Int) < 128) = false := by simp; omega
            have HA := Lib.hid (show 0 ≤ acc + (ch.toNat : Int) % 128 * 128 ^ 2 ∧ acc + (ch.toNat : Int) % 128 * 128 ^ 2 < 128 ^ 3 by have := hacc.2; simp at this ⊢; omega)
            have HG := Lib.hid (show numGo 3 (acc + (ch.toNat : Int) % 128 * 128 ^ 2) t = numGo 0 0 l from by rw [← hg.out]; exact (numGo_more _ _ _ _ (by omega) (by omega)).symm)
            clear hg
            go_wp2_with fail
            go_quiet (fail)
            go_wp2_with fail
            go_quiet (fail)
            go_wp2_with fail
            all_goals
              go_roundw
              case rel =>
                refine ⟨3, acc + (ch.toNat : Int) % 128 * 128 ^ 2, t, by omega, rfl, ?_, by rfl, HG, HA.out, (Ey.next HO.out H3.out h4 h5 (H6.out.keep (fun _ x => x) (fun _ _ => rfl)) (by first | rfl | (unfold wrap64; omega))), (HOn.out.trans (Only.of_below (bDrewN (Below.refl _ _) _))).trans (Only.set _ _ _)⟩
                first | rfl | (simp; done) | (simp; unfold wrap64; omega) | (simp; omega) | (congr 2; unfold wrap64; omega)
              case measure => simp [intOf]
      · by_cases hz : ch.toNat = 0
        · have e1 : ((ch.toNat : Int) == 0) = true := by simp; omega
          have HG := Lib.hid (show numGo 0 0 l = (0, [], 4) from by rw [← hg.out]; exact numGo_bad _ _ _ _ (by omega))
          clear hg
          go_wp2_with fail
          go_quiet (fail)
          go_wp2_with fail
          go_quiet (fail)
          go_wp2_with fail
          all_goals
            refine (estop_c _ B bs t 4 ?ey).mono ?_
            case ey => exact (Ey.next HO.out H3.out h4 h5 (H6.out.keep (fun _ x => x) (fun _ _ => rfl)) (by first | rfl | (unfold wrap64; omega)))
            rintro e w1 ⟨rfl, hr1, ho1⟩
            go_wp2_with fail
            go_ret
            rw [HG.out]
            exact ⟨rfl, hr1, ((HOn.out.trans (Only.of_below (bDrewN (Below.refl _ _) _))).trans (Only.set _ _ _)).trans ho1⟩
        · have e1 : ((ch.toNat : Int) == 0) = false := by simp; omega
          by_cases hm : ch.toNat < 128
          · have e2 : decide ((ch.toNat : Int) < 128) = true := by simp; omega
            have e3 : decide (127 < (ch.toNat : Int)) = false := by simp; omega
            have HG := Lib.hid (show numGo 0 0 l = (acc + (ch.toNat : Int) % 128 * 128 ^ 3, t, 0) from by rw [← hg.out]; exact numGo_end _ _ _ _ (by omega) (by omega))
            clear hg
            go_wp2_with fail
            go_quiet (fail)
            go_wp2_with fail
            go_quiet (fail)
            go_wp2_with fail
            all_goals
              go_ret
              rw [HG.out]
              refine ⟨?_, (Ey.next HO.out H3.out h4 h5 (H6.out.keep (fun _ x => x) (fun _ _ => rfl)) (by first | rfl | (unfold wrap64; omega))), (HOn.out.trans (Only.of_below (bDrewN (Below.refl _ _) _))).trans (Only.set _ _ _)⟩
              first | rfl | (simp; done) | (simp; unfold wrap64; omega) | (simp; omega) | (congr 2; unfold wrap64; omega)
          · have e3 : decide (127 < (ch.toNat : Int)) = true := by simp; omega
            have HG := Lib.hid (show numGo 0 0 l = (0, [], 4) from by rw [← hg.out]; exact numGo_bad _ _ _ _ (by omega))
            clear hg
            go_wp2_with fail
            go_quiet (fail)
            go_wp2_with fail
            go_quiet (fail)
            go_wp2_with fail
            all_goals
              refine (estop_c _ B bs t 4 ?ey).mono ?_
              case ey => exact (Ey.next HO.out H3.out h4 h5 (H6.out.keep (fun _ x => x) (fun _ _ => rfl)) (by first | rfl | (unfold wrap64; omega)))
              rintro e w1 ⟨rfl, hr1, ho1⟩
              go_wp2_with fail
              go_ret
              rw [HG.out]
              exact ⟨rfl, hr1, ((HOn.out.trans (Only.of_below (bDrewN (Below.refl _ _) _))).trans (Only.set _ _ _)).trans ho1⟩
theorem enum_all (w : World) (B : Nat) (bs l : List UInt8) (f : Int) (h : Ey w B bs l f) :
    Calls Tryd.prog 93 #[.pointer (some ⟨B, 0, none⟩)] w (EyNum B bs w (readNum l f)) := by
  by_cases hf : f = 0
  · subst hf
    unfold readNum
    rw [if_pos rfl]
    exact enum_c w B bs l h
  · rw [readNum_keep l hf]
    have HR := Lib.hid h
    obtain ⟨A, c, a, h1, h2, h3, h4, h5, h6⟩ := h
    obtain ⟨x0, x1, x2, f0, f1, f2, hlt⟩ := three_cell h1
    have e0 : (f == 0) = false := by simpa using hf
    clear h1 hf h3 h6
    go_enter Tryd.func93, Tryd.ntmps93
    go_wp2_with fail
    go_loopw [5] (fun i wr => i = .int .i64 0 ∧ wr = w) (fun _ _ => 0)
    case atStart => exact ⟨rfl, rfl⟩
    case round =>
      obtain ⟨rfl, rfl⟩ := hrel
      go_wp2_with fail
      go_ret
      exact ⟨rfl, HR.out, Only.refl _ _⟩
end Go.Proofs.YtieofljkgmkaiaaDoor
