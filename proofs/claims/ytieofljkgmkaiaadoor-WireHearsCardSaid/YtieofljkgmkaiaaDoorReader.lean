/-
  Contracts of the reader's methods fail, take, text, end.
-/
import Derived.Test.YtieofljkgmkaiaaDoorRows
import Derived.Test.YtieofljkgmkaiaaDoorTapeC
import Derived.Test.YtieofljkgmkaiaaDoorOnly
import Derived.Test.YtieofljkgmkaiaaDoorReadP
import Derived.Laws.Bits128
import Derived.Laws.BitsLemmas
namespace Go.Proofs.YtieofljkgmkaiaaDoor
open Go.ChangeShapes Go.WideShapes Go.ChangeAt Go.RowKit
set_option maxRecDepth 100000
/-- The reader in block B has these bytes left, and this fault; the bytes lie below it. -/
def Rd (w : World) (B : Nat) (l : List UInt8) (f : Int) : Prop :=
  ∃ A c, w.heap[B]? = some (.cells #[.slice A l.length c, .int .i64 f] 141 (0, 0)) ∧ (l.length ≤ c ∧ c ≤ 9223372036854775807) ∧ Sl (· < B) w 1 A l.length (l.map byteV)
theorem Rd.lt {w : World} {B : Nat} {l : List UInt8} {f : Int} (h : Rd w B l f) : B < w.heap.size := by
  obtain ⟨A, c, h1, _⟩ := h
  exact (two_cell h1).2.2.2.2
theorem Rd.keep {w w' : World} {B : Nat} {l : List UInt8} {f : Int} (h : Rd w B l f) (hk : ∀ k, k ≤ B → w'.heap[k]? = w.heap[k]?) : Rd w' B l f := by
  obtain ⟨A, c, h1, h2, h3⟩ := h
  exact ⟨A, c, (hk B (Nat.le_refl _)).trans h1, h2, h3.keep (fun _ x => x) (fun b hb => hk b (Nat.le_of_lt hb))⟩
theorem Rd.later {w w' : World} {B : Nat} {l : List UInt8} {f : Int} (h : Rd w B l f) (hb : Below w.heap.size w w') : Rd w' B l f := h.keep fun k hk => hb.block k (Nat.lt_of_le_of_lt hk h.lt)
theorem Rd.fresh (w : World) (A : Option Addr) (l : List UInt8) (c : Nat) (h : Sl (· < w.heap.size) w 1 A l.length (l.map byteV)) (h1 : l.length ≤ c) (h2 : c ≤ 9223372036854775807) : Rd (w.alloc (.cells #[.slice A l.length c, .int .i64 0] 141)) w.heap.size l 0 :=
  ⟨A, c, by show (w.heap.push _)[w.heap.size]? = _; simp, ⟨h1, h2⟩, h.keep (fun _ x => x) (fun b hb => (bAlloc (Below.refl w.heap.size w) _).block b hb)⟩
/-- A method of a reader that brings a number. -/
def RdNum (B : Nat) (w : World) (x : Int × List UInt8 × Int) (e : Ending) (w' : World) : Prop := e = .returned (.int .i64 x.1) ∧ Rd w' B x.2.1 x.2.2 ∧ Only B w w'
theorem rfail_c (w : World) (B : Nat) (l : List UInt8) (z : Int) (h : Rd w B l 0) :
    Calls Tryd.prog 128 #[.pointer (some ⟨B, 0, none⟩), .int .i64 z] w fun e w' => e = .returned (.tuple #[]) ∧ Rd w' B [] z ∧ Only B w w' := by
  obtain ⟨A, c, h1, h2, h3⟩ := h
  obtain ⟨x0, x1, f0, f1, hlt⟩ := two_cell h1
  have HO := Lib.hid h1
  clear h1
  go_enter Tryd.func128, Tryd.ntmps128
  go_wp2_with fail
  refine bodyPost_end (results_none rfl _ _ _) rfl ⟨rfl, ⟨none, 0, two_set0 (two_set1 HO.out), ⟨Nat.le_refl _, by omega⟩, Sl.nil⟩, (Only.set _ _ _).trans (Only.set _ _ _)⟩
theorem i64_small' (n : Int) (h₀ : 0 ≤ n) (h₁ : n < 2 ^ 63) : IntKind.i64.wrap n = n := by rw [IntKind.wrap_i64]; omega
theorem Rd.next {w : World} {B b o c : Nat} {t : List UInt8} {v : Value} (ho : w.heap[B]? = some (.cells #[v, .int .i64 0] 141 (0, 0))) (ht : Sl (· < B) w 1 (some ⟨b, o + 1, none⟩) t.length (t.map byteV)) (h : t.length + 1 ≤ c) (hc : c ≤ 9223372036854775807) (A : Option Addr) (c' : Nat) (hA : c ≠ 1 → A = some ⟨b, o + 1, none⟩) (hc' : c' + 1 = c) :
    Rd (w.setCell ⟨B, 0, none⟩ (.slice A t.length c')) B t 0 := by
  refine ⟨_, _, two_set0 ho, ⟨by omega, by omega⟩, ?_⟩
  by_cases q : c = 1
  · obtain rfl : t = [] := List.eq_nil_of_length_eq_zero (by omega)
    exact Sl.nil
  · rw [hA q]
    exact ht.keep (fun _ x => x) (fun b hb => Below.heap_setCell _ _ _ _ (Nat.ne_of_lt hb))
theorem or_at (i n m : Nat) (hn : n < 2 ^ i) (hm : m < 128) (hi : i ≤ 21) : bits .or .i64 (n : Int) ((m * 2 ^ i : Nat) : Int) = (n : Int) + ((m * 2 ^ i : Nat) : Int) := by
  have h2 : 2 ^ i ≤ 2097152 := Nat.le_trans (Nat.pow_le_pow_right (by omega) hi) (by decide)
  have hmm : m * 2 ^ i ≤ 127 * 2097152 := Nat.mul_le_mul (by omega) h2
  have h := (bits_nat .i64 63 (by decide) i64_small' n (m * 2 ^ i) (by omega) (by omega)).2
  rw [h, Nat.or_comm, ← Nat.shiftLeft_eq, ← Nat.shiftLeft_add_eq_or_of_lt hn]
  omega
theorem take_step (k : Nat) (hk : k ≤ 3) (acc x : Int) (h0 : 0 ≤ acc) (h1 : acc < 128 ^ k) : bits .or .i64 acc (wrap64 (bits .and .i64 x 127 * 128 ^ k)) = acc + x % 128 * 128 ^ k := by
  obtain ⟨n, rfl⟩ : ∃ n : Nat, acc = n := ⟨acc.toNat, by omega⟩
  obtain ⟨m, hm⟩ : ∃ m : Nat, x % 128 = m := ⟨(x % 128).toNat, by omega⟩
  rw [i64_and127, hm]
  have hp : (128 : Int) ^ k = ((2 ^ (7 * k) : Nat) : Int) := by
    rw [Nat.pow_mul]
    simp
  rw [hp] at h1 ⊢
  have h2 : 2 ^ (7 * k) ≤ 2097152 := Nat.le_trans (Nat.pow_le_pow_right (by omega) (show 7 * k ≤ 21 by omega)) (by decide)
  have hmm : m * 2 ^ (7 * k) ≤ 127 * 2097152 := Nat.mul_le_mul (by omega) h2
  have e : wrap64 ((m : Int) * ((2 ^ (7 * k) : Nat) : Int)) = ((m * 2 ^ (7 * k) : Nat) : Int) := by
    rw [show (m : Int) * ((2 ^ (7 * k) : Nat) : Int) = ((m * 2 ^ (7 * k) : Nat) : Int) by push_cast; rfl]
    unfold wrap64
    omega
  rw [e, or_at (7 * k) n m (by omega) (by omega) (by omega)]
  push_cast
  rfl
set_option maxHeartbeats 4000000 in
theorem rtake_c (w : World) (B : Nat) (l : List UInt8) (h : Rd w B l 0) :
    Calls Tryd.prog 90 #[.pointer (some ⟨B, 0, none⟩)] w (RdNum B w (numGo 0 0 l)) := by
  have HR := Lib.hid h
  clear h
  go_enter Tryd.func90, Tryd.ntmps90
  go_wp2_with fail
  go_loopw [3, 4] (fun n i wr => ∃ (k : Nat) (acc : Int) (l1 : List UInt8), k ≤ 3 ∧ i = .int .i64 k ∧ n = .int .i64 acc ∧ Hid (numGo k acc l1 = numGo 0 0 l) ∧ (0 ≤ acc ∧ acc < 128 ^ k) ∧ Rd wr B l1 0 ∧ Only B w wr)
    (fun _ i _ => 4 - (intOf i).toNat)
  case atStart => exact ⟨0, 0, l, by omega, rfl, rfl, rfl, ⟨Int.le_refl 0, by decide⟩, HR.out, Only.refl _ _⟩
  case round =>
    obtain ⟨k, acc, l1, hk, rfl, rfl, hg, hacc, hrd, hon⟩ := hrel
    have HRd := Lib.hid hrd
    have HOn := Lib.hid hon
    obtain ⟨A, c, h1, ⟨h2, h3⟩, h4⟩ := hrd
    obtain ⟨x0, x1, f0, f1, hlt⟩ := two_cell h1
    have HO := Lib.hid h1
    clear h1 hon
    cases l1 with
    | nil =>
      have HG := Lib.hid (show numGo 0 0 l = (0, [], 5) from hg.out.symm)
      clear hg
      go_wp2_with fail
      refine (rfail_c wr B [] 5 HRd.out).mono ?_
      rintro e w1 ⟨rfl, hr1, ho1⟩
      go_wp2_with fail
      go_ret
      rw [HG.out]
      exact ⟨rfl, hr1, HOn.out.trans ho1⟩
    | cons ch t =>
      obtain ⟨b, o, rfl, hbB, hc⟩ := h4.open_ (by simp)
      have c0 := hc 0 _ rfl
      have hlb : (t.length : Int) + 1 ≤ c := by simp at h2; omega
      have HT := Lib.hid (show Sl (· < B) wr 1 (some ⟨b, o + 1, none⟩) t.length (t.map byteV) from by
        have := Sl.drop (k := 1) h4 (by simp)
        simpa [Addr.add] using this)
      have hb1 : 0 ≤ (ch.toNat : Int) ∧ (ch.toNat : Int) ≤ 255 := by have := ch.toNat_lt; omega
      rw [List.length_cons] at h2 x0 HO
      have c00 : wr.cell? ⟨b, o, none⟩ = some (.int .u8 ch.toNat) := c0
      clear hc h4 c0
      obtain rfl | rfl | rfl | rfl : k = 0 ∨ k = 1 ∨ k = 2 ∨ k = 3 := by omega
      · by_cases hm : ch.toNat < 128
        · have e2 : decide ((ch.toNat : Int) < 128) = true := by simp; omega
          have hv := take_step 0 (by decide) acc ch.toNat hacc.1 hacc.2
          have HV := Lib.hid hv
          have HG := Lib.hid (show numGo 0 0 l = (acc + (ch.toNat : Int) % 128 * 128 ^ 0, t, 0) from by rw [← hg.out]; exact numGo_end _ _ _ _ (by omega) (by omega))
          clear hg hv
          go_wp2_with fail
          all_goals
            go_ret
            rw [HG.out]
            refine ⟨?_, (Rd.next HO.out HT.out (by omega) h3 _ _ (by intro q; first | rfl | exact if_neg q | (exfalso; omega)) (by omega)), HOn.out.trans (Only.set _ _ _)⟩
            have hv := HV.out
            simp at hv ⊢
            exact hv
        · have e2 : decide ((ch.toNat : Int) < 128) = false := by simp; omega
          have hv := take_step 0 (by decide) acc ch.toNat hacc.1 hacc.2
          have HV := Lib.hid hv
          have HA := Lib.hid (show 0 ≤ acc + (ch.toNat : Int) % 128 * 128 ^ 0 ∧ acc + (ch.toNat : Int) % 128 * 128 ^ 0 < 128 ^ 1 by have := hacc.2; simp at this ⊢; omega)
          have HG := Lib.hid (show numGo 1 (acc + (ch.toNat : Int) % 128 * 128 ^ 0) t = numGo 0 0 l from by rw [← hg.out]; exact (numGo_more _ _ _ _ (by omega) (by omega)).symm)
          clear hg hv
          go_wp2_with fail
          all_goals
            go_roundw
            case rel =>
              refine ⟨1, acc + (ch.toNat : Int) % 128 * 128 ^ 0, t, by omega, rfl, ?_, HG, HA.out, (Rd.next HO.out HT.out (by omega) h3 _ _ (by intro q; first | rfl | exact if_neg q | (exfalso; omega)) (by omega)), HOn.out.trans (Only.set _ _ _)⟩
              have hv := HV.out
              simp at hv ⊢
              exact hv
            case measure => simp [intOf]
      · by_cases hz : ch.toNat = 0
        · have e1 : ((ch.toNat : Int) == 0) = true := by simp; omega
          have HG := Lib.hid (show numGo 0 0 l = (0, [], 4) from by rw [← hg.out]; exact numGo_bad _ _ _ _ (by omega))
          clear hg
          go_wp2_with fail
          all_goals
            refine (rfail_c _ B t 4 (Rd.next HO.out HT.out (by omega) h3 _ _ (by intro q; first | rfl | exact if_neg q | (exfalso; omega)) (by omega))).mono ?_
            rintro e w1 ⟨rfl, hr1, ho1⟩
            go_wp2_with fail
            go_ret
            rw [HG.out]
            exact ⟨rfl, hr1, (HOn.out.trans (Only.set _ _ _)).trans ho1⟩
        · have e1 : ((ch.toNat : Int) == 0) = false := by simp; omega
          by_cases hm : ch.toNat < 128
          · have e2 : decide ((ch.toNat : Int) < 128) = true := by simp; omega
            have hv := take_step 1 (by decide) acc ch.toNat hacc.1 hacc.2
            have HV := Lib.hid hv
            have HG := Lib.hid (show numGo 0 0 l = (acc + (ch.toNat : Int) % 128 * 128 ^ 1, t, 0) from by rw [← hg.out]; exact numGo_end _ _ _ _ (by omega) (by omega))
            clear hg hv
            go_wp2_with fail
            all_goals
              go_ret
              rw [HG.out]
              refine ⟨?_, (Rd.next HO.out HT.out (by omega) h3 _ _ (by intro q; first | rfl | exact if_neg q | (exfalso; omega)) (by omega)), HOn.out.trans (Only.set _ _ _)⟩
              have hv := HV.out
              simp at hv ⊢
              exact hv
          · have e2 : decide ((ch.toNat : Int) < 128) = false := by simp; omega
            have hv := take_step 1 (by decide) acc ch.toNat hacc.1 hacc.2
            have HV := Lib.hid hv
            have HA := Lib.hid (show 0 ≤ acc + (ch.toNat : Int) % 128 * 128 ^ 1 ∧ acc + (ch.toNat : Int) % 128 * 128 ^ 1 < 128 ^ 2 by have := hacc.2; simp at this ⊢; omega)
            have HG := Lib.hid (show numGo 2 (acc + (ch.toNat : Int) % 128 * 128 ^ 1) t = numGo 0 0 l from by rw [← hg.out]; exact (numGo_more _ _ _ _ (by omega) (by omega)).symm)
            clear hg hv
            go_wp2_with fail
            all_goals
              go_roundw
              case rel =>
                refine ⟨2, acc + (ch.toNat : Int) % 128 * 128 ^ 1, t, by omega, rfl, ?_, HG, HA.out, (Rd.next HO.out HT.out (by omega) h3 _ _ (by intro q; first | rfl | exact if_neg q | (exfalso; omega)) (by omega)), HOn.out.trans (Only.set _ _ _)⟩
                have hv := HV.out
                simp at hv ⊢
                exact hv
              case measure => simp [intOf]
      · by_cases hz : ch.toNat = 0
        · have e1 : ((ch.toNat : Int) == 0) = true := by simp; omega
          have HG := Lib.hid (show numGo 0 0 l = (0, [], 4) from by rw [← hg.out]; exact numGo_bad _ _ _ _ (by omega))
          clear hg
          go_wp2_with fail
          all_goals
            refine (rfail_c _ B t 4 (Rd.next HO.out HT.out (by omega) h3 _ _ (by intro q; first | rfl | exact if_neg q | (exfalso; omega)) (by omega))).mono ?_
            rintro e w1 ⟨rfl, hr1, ho1⟩
            go_wp2_with fail
            go_ret
            rw [HG.out]
            exact ⟨rfl, hr1, (HOn.out.trans (Only.set _ _ _)).trans ho1⟩
        · have e1 : ((ch.toNat : Int) == 0) = false := by simp; omega
          by_cases hm : ch.toNat < 128
          · have e2 : decide ((ch.toNat : Int) < 128) = true := by simp; omega
            have hv := take_step 2 (by decide) acc ch.toNat hacc.1 hacc.2
            have HV := Lib.hid hv
            have HG := Lib.hid (show numGo 0 0 l = (acc + (ch.toNat : Int) % 128 * 128 ^ 2, t, 0) from by rw [← hg.out]; exact numGo_end _ _ _ _ (by omega) (by omega))
            clear hg hv
            go_wp2_with fail
            all_goals
              go_ret
              rw [HG.out]
              refine ⟨?_, (Rd.next HO.out HT.out (by omega) h3 _ _ (by intro q; first | rfl | exact if_neg q | (exfalso; omega)) (by omega)), HOn.out.trans (Only.set _ _ _)⟩
              have hv := HV.out
              simp at hv ⊢
              exact hv
          · have e2 : decide ((ch.toNat : Int) < 128) = false := by simp; omega
            have hv := take_step 2 (by decide) acc ch.toNat hacc.1 hacc.2
            have HV := Lib.hid hv
            have HA := Lib.hid (show 0 ≤ acc + (ch.toNat : Int) % 128 * 128 ^ 2 ∧ acc + (ch.toNat : Int) % 128 * 128 ^ 2 < 128 ^ 3 by have := hacc.2; simp at this ⊢; omega)
            have HG := Lib.hid (show numGo 3 (acc + (ch.toNat : Int) % 128 * 128 ^ 2) t = numGo 0 0 l from by rw [← hg.out]; exact (numGo_more _ _ _ _ (by omega) (by omega)).symm)
            clear hg hv
            go_wp2_with fail
            all_goals
              go_roundw
              case rel =>
                refine ⟨3, acc + (ch.toNat : Int) % 128 * 128 ^ 2, t, by omega, rfl, ?_, HG, HA.out, (Rd.next HO.out HT.out (by omega) h3 _ _ (by intro q; first | rfl | exact if_neg q | (exfalso; omega)) (by omega)), HOn.out.trans (Only.set _ _ _)⟩
                have hv := HV.out
                simp at hv ⊢
                exact hv
              case measure => simp [intOf]
      · by_cases hz : ch.toNat = 0
        · have e1 : ((ch.toNat : Int) == 0) = true := by simp; omega
          have HG := Lib.hid (show numGo 0 0 l = (0, [], 4) from by rw [← hg.out]; exact numGo_bad _ _ _ _ (by omega))
          clear hg
          go_wp2_with fail
          all_goals
            refine (rfail_c _ B t 4 (Rd.next HO.out HT.out (by omega) h3 _ _ (by intro q; first | rfl | exact if_neg q | (exfalso; omega)) (by omega))).mono ?_
            rintro e w1 ⟨rfl, hr1, ho1⟩
            go_wp2_with fail
            go_ret
            rw [HG.out]
            exact ⟨rfl, hr1, (HOn.out.trans (Only.set _ _ _)).trans ho1⟩
        · have e1 : ((ch.toNat : Int) == 0) = false := by simp; omega
          by_cases hm : ch.toNat < 128
          · have e2 : decide ((ch.toNat : Int) < 128) = true := by simp; omega
            have e3 : decide (127 < (ch.toNat : Int)) = false := by simp; omega
            have hv := take_step 3 (by decide) acc ch.toNat hacc.1 hacc.2
            have HV := Lib.hid hv
            have HG := Lib.hid (show numGo 0 0 l = (acc + (ch.toNat : Int) % 128 * 128 ^ 3, t, 0) from by rw [← hg.out]; exact numGo_end _ _ _ _ (by omega) (by omega))
            clear hg hv
            go_wp2_with fail
            all_goals
              go_ret
              rw [HG.out]
              refine ⟨?_, (Rd.next HO.out HT.out (by omega) h3 _ _ (by intro q; first | rfl | exact if_neg q | (exfalso; omega)) (by omega)), HOn.out.trans (Only.set _ _ _)⟩
              have hv := HV.out
              simp at hv ⊢
              exact hv
          · have e3 : decide (127 < (ch.toNat : Int)) = true := by simp; omega
            have HG := Lib.hid (show numGo 0 0 l = (0, [], 4) from by rw [← hg.out]; exact numGo_bad _ _ _ _ (by omega))
            clear hg
            go_wp2_with fail
            all_goals
              refine (rfail_c _ B t 4 (Rd.next HO.out HT.out (by omega) h3 _ _ (by intro q; first | rfl | exact if_neg q | (exfalso; omega)) (by omega))).mono ?_
              rintro e w1 ⟨rfl, hr1, ho1⟩
              go_wp2_with fail
              go_ret
              rw [HG.out]
              exact ⟨rfl, hr1, (HOn.out.trans (Only.set _ _ _)).trans ho1⟩
theorem rtake_all (w : World) (B : Nat) (l : List UInt8) (f : Int) (h : Rd w B l f) :
    Calls Tryd.prog 90 #[.pointer (some ⟨B, 0, none⟩)] w (RdNum B w (readNum l f)) := by
  by_cases hf : f = 0
  · subst hf
    unfold readNum
    rw [if_pos rfl]
    exact rtake_c w B l h
  · rw [readNum_keep l hf]
    have HR := Lib.hid h
    obtain ⟨A, c, h1, h2, h3⟩ := h
    obtain ⟨x0, x1, f0, f1, hlt⟩ := two_cell h1
    have e0 : (f == 0) = false := by simpa using hf
    clear h1 hf
    go_enter Tryd.func90, Tryd.ntmps90
    go_wp2_with fail
    go_loopw [3] (fun _ wr => wr = w) (fun _ _ => 0)
    case atStart => rfl
    case round =>
      obtain rfl := hrel
      go_wp2_with fail
      go_ret
      exact ⟨rfl, HR.out, Only.refl _ _⟩
end Go.Proofs.YtieofljkgmkaiaaDoor
