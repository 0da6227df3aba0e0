/-
  Contracts of node.CheckTree and its reference TreeFault: both give treeFault of the list.
-/
import Derived.Test.YtbmdepbmejnlkaaDoorRows
import Derived.Test.YtbmdepbmejnlkaaDoorBase
import Derived.Test.YtbmdepbmejnlkaaDoorIn
namespace Go.Proofs.YtbmdepbmejnlkaaDoor
open Go.ChangeShapes Go.WideShapes Go.ChangeAt Go.RowKit
set_option maxRecDepth 100000
def tOk (i : Nat) (p : Int) : Bool := if i = 0 then p == -1 else decide (0 ≤ p) && decide (p < i)
def treeFault (zs : List Int) : Int := if zs.length < 1 ∨ 7 < zs.length then 1 else if (List.range zs.length).all (fun i => tOk i (zs.getD i 0)) then 0 else 4
theorem treeFault_size {zs : List Int} (h : zs.length < 1 ∨ 7 < zs.length) : treeFault zs = 1 := if_pos h
theorem treeFault_bad {zs : List Int} (h : ¬ (zs.length < 1 ∨ 7 < zs.length)) {k : Nat} (hk : k < zs.length) (hb : tOk k (zs.getD k 0) = false) : treeFault zs = 4 := by
  unfold treeFault
  rw [if_neg h, if_neg]
  intro h
  rw [List.all_eq_true] at h
  have := h k (by simpa using hk)
  rw [hb] at this
  cases this
theorem treeFault_ok {zs : List Int} (h : ¬ (zs.length < 1 ∨ 7 < zs.length)) (hb : ∀ i, i < zs.length → tOk i (zs.getD i 0) = true) : treeFault zs = 0 := by
  unfold treeFault
  rw [if_neg h, if_pos]
  rw [List.all_eq_true]
  intro i hi
  exact hb i (by simpa using hi)

theorem CheckTree_c (w : World) (A : Option Addr) (n c : Nat) (zs : List Int) (hs : Sl (· < w.heap.size) w 1 A n (zs.map (Value.int .i64))) (hm : n ≤ 9223372036854775807) :
    Calls Tryd.prog 24 #[.slice A n c] w fun e w' => e = .returned (.int .i64 (treeFault zs)) ∧ w = w' := by
  have hl : zs.length = n := by have := hs.1; simpa using this
  by_cases h1 : n < 1
  · have H := Lib.hid (treeFault_size (zs := zs) (by omega))
    clear hl hs
    go_enter Tryd.func24, Tryd.ntmps24
    go_wp2
    go_ret
    exact ⟨by rw [H.out]; rfl, rfl⟩
  by_cases h7 : 7 < n
  · have H := Lib.hid (treeFault_size (zs := zs) (by omega))
    clear hl hs
    go_enter Tryd.func24, Tryd.ntmps24
    go_wp2
    go_ret
    exact ⟨by rw [H.out]; rfl, rfl⟩
  have hB : ¬ (zs.length < 1 ∨ 7 < zs.length) := by omega
  obtain ⟨b, o, rfl, hbs, hc⟩ := hs.open_ (by omega)
  have hc' : ∀ k, k < n → w.cell? ⟨b, o + k, none⟩ = some (.int .i64 (zs.getD k 0)) := fun k hk => hc k _ (ints_getD zs k (by omega))
  have HL := Lib.hid hl
  have HC := Lib.hid hc'
  have HB := Lib.hid hB
  clear hl hc hc' hs hB
  go_enter Tryd.func24, Tryd.ntmps24
  go_wp2
  go_loop [2, 3, 4, 15] (fun r _ _ i => ∃ k : Nat, k ≤ n ∧ i = .int .i64 k ∧ r = .int .i64 0 ∧ Hid (∀ i, i < k → tOk i (zs.getD i 0) = true)) (fun _ _ _ i => n - (intOf i).toNat)
  case atStart => exact ⟨0, Nat.zero_le _, rfl, rfl, fun i hi => absurd hi (by omega)⟩
  case round =>
    obtain ⟨k, hk, rfl, rfl, hok⟩ := hrel
    by_cases hlt : k < n
    · have hcx := HC.out k hlt
      obtain ⟨p, hp⟩ : ∃ p, p = zs.getD k 0 := ⟨_, rfl⟩
      rw [← hp] at hcx
      have HP := Lib.hid hp
      clear hp
      by_cases hok1 : tOk k p = true
      · have hr : Hid (∀ i, i < k + 1 → tOk i (zs.getD i 0) = true) := fun i hi => by
          rcases Nat.lt_or_ge i k with h | h
          · exact hok.out i h
          · obtain rfl : i = k := by omega
            rw [← HP.out]; exact hok1
        by_cases hk0 : k = 0
        · subst hk0
          rw [Nat.add_zero] at hcx
          obtain rfl : p = -1 := by simpa [tOk] using hok1
          clear hok1
          go_wp2
          go_round
          case rel => exact ⟨1, by omega, by go_num, rfl, hr⟩
          case measure => simp [intOf]; omega
        · have hq : 0 ≤ p ∧ p < k := by simpa [tOk, hk0] using hok1
          obtain ⟨hq1, hq2⟩ := hq
          have e1 : (decide (p < 0)) = false := by simpa using hq1
          have e2 : ((k : Int) == 0) = false := by simpa using hk0
          clear hok1
          go_wp2
          go_round
          case rel => exact ⟨k + 1, by omega, by go_num, rfl, hr⟩
          case measure => simp [intOf]; omega
      · have H := Lib.hid (treeFault_bad HB.out (by rw [HL.out]; exact hlt) (by rw [← HP.out]; simpa using hok1))
        by_cases hk0 : k = 0
        · subst hk0
          rw [Nat.add_zero] at hcx
          have e1 : (p != -1) = true := by simpa [tOk] using hok1
          clear hok1
          go_wp2
          go_ret
          exact ⟨by rw [H.out]; rfl, rfl⟩
        · have e2 : ((k : Int) == 0) = false := by simpa using hk0
          by_cases hq : p < 0
          · clear hok1
            go_wp2
            go_ret
            exact ⟨by rw [H.out]; rfl, rfl⟩
          · have hq2 : (k : Int) ≤ p := by have : ¬ (0 ≤ p ∧ p < k) := by simpa [tOk, hk0] using hok1
                                           omega
            have e3 : (decide (p < 0)) = false := by simpa using hq
            clear hok1
            go_wp2
            go_ret
            exact ⟨by rw [H.out]; rfl, rfl⟩
    · obtain rfl : k = n := by omega
      have H := Lib.hid (treeFault_ok HB.out (by rw [HL.out]; exact hok.out))
      go_wp2
      go_ret
      exact ⟨by rw [H.out]; rfl, rfl⟩

theorem TreeFault_c (w : World) (A : Option Addr) (n c : Nat) (zs : List Int) (hs : Sl (· < w.heap.size) w 1 A n (zs.map (Value.int .i64))) (hm : n ≤ 9223372036854775807) :
    Calls Tryd.prog 30 #[.slice A n c] w fun e w' => e = .returned (.int .i64 (treeFault zs)) ∧ w = w' := by
  have hl : zs.length = n := by have := hs.1; simpa using this
  by_cases h1 : n < 1 ∨ 7 < n
  · have H := Lib.hid (treeFault_size (zs := zs) (by omega))
    clear hl hs
    go_enter Tryd.func30, Tryd.ntmps30
    go_wp2_with (go_at_call 31; refine (In_no _ _ _ _ (by omega)).mono ?_; rintro e w' ⟨rfl, rfl⟩)
    go_ret
    exact ⟨by rw [H.out]; rfl, rfl⟩
  have hB : ¬ (zs.length < 1 ∨ 7 < zs.length) := by omega
  obtain ⟨b, o, rfl, hbs, hc⟩ := hs.open_ (by omega)
  have hc' : ∀ k, k < n → w.cell? ⟨b, o + k, none⟩ = some (.int .i64 (zs.getD k 0)) := fun k hk => hc k _ (ints_getD zs k (by omega))
  have HL := Lib.hid hl
  have HC := Lib.hid hc'
  have HB := Lib.hid hB
  have g1 : 1 ≤ n := by omega
  have g7 : n ≤ 7 := by omega
  clear hl hc hc' hs hB h1
  go_enter Tryd.func30, Tryd.ntmps30
  go_wp2_with (go_at_call 31; refine (In_yes _ _ _ _ (by omega) (by omega)).mono ?_; rintro e w' ⟨rfl, rfl⟩)
  go_loopw [2, 3] (fun r i wr => ∃ k : Nat, k ≤ n ∧ i = .int .i64 k ∧ r = .int .i64 0 ∧ Hid (∀ i, i < k → tOk i (zs.getD i 0) = true) ∧ w = wr) (fun _ i _ => n - (intOf i).toNat)
  case atStart => exact ⟨0, Nat.zero_le _, rfl, rfl, fun i hi => absurd hi (by omega), rfl⟩
  case round =>
    obtain ⟨k, hk, rfl, rfl, hok, rfl⟩ := hrel
    have hbw := Below.refl w.heap.size w
    by_cases hlt : k < n
    · have hcx := (hbw.cell (p := ⟨b, o + k, none⟩) hbs).trans (HC.out k hlt)
      have hc0 := (hbw.cell (p := ⟨b, o, none⟩) hbs).trans (HC.out 0 (by omega))
      obtain ⟨p, hp⟩ : ∃ p, p = zs.getD k 0 := ⟨_, rfl⟩
      rw [← hp] at hcx
      have HP := Lib.hid hp
      clear hp
      by_cases hok1 : tOk k p = true
      · have hr : Hid (∀ i, i < k + 1 → tOk i (zs.getD i 0) = true) := fun i hi => by
          rcases Nat.lt_or_ge i k with h | h
          · exact hok.out i h
          · obtain rfl : i = k := by omega
            rw [← HP.out]; exact hok1
        by_cases hk0 : k = 0
        · subst hk0
          obtain rfl : p = -1 := by simpa [tOk] using hok1
          rw [Nat.add_zero] at hcx
          clear hok1 hc0
          go_wp2_with fail
          go_roundw
          case rel => exact ⟨1, by omega, by go_num, rfl, hr, by trivial⟩
          case measure => simp [intOf]; omega
        · have hq : 0 ≤ p ∧ p < k := by simpa [tOk, hk0] using hok1
          obtain ⟨hq1, hq2⟩ := hq
          have e2 : ((k : Int) == 0) = false := by simpa using hk0
          clear hok1 hc0
          go_wp2_with (go_at_call 31; refine (In_yes _ _ _ _ (by omega) (by omega)).mono ?_; rintro e w' ⟨rfl, rfl⟩)
          go_roundw
          case rel => exact ⟨k + 1, by omega, by go_num, rfl, hr, by trivial⟩
          case measure => simp [intOf]; omega
      · have H := Lib.hid (treeFault_bad HB.out (by rw [HL.out]; exact hlt) (by rw [← HP.out]; simpa using hok1))
        by_cases hk0 : k = 0
        · subst hk0
          have e1 : (p != -1) = true := by simpa [tOk] using hok1
          rw [Nat.add_zero] at hcx
          clear hok1 hc0
          go_wp2
          go_ret
          exact ⟨by rw [H.out]; rfl, rfl⟩
        · have e2 : ((k : Int) == 0) = false := by simpa using hk0
          have hq : p < 0 ∨ (k : Int) ≤ p := by have : ¬ (0 ≤ p ∧ p < k) := by simpa [tOk, hk0] using hok1
                                                omega
          clear hok1 hc0
          go_wp2_with (go_at_call 31; refine (In_no _ _ _ _ (by omega)).mono ?_; rintro e w' ⟨rfl, rfl⟩)
          go_ret
          exact ⟨by rw [H.out]; rfl, rfl⟩
    · obtain rfl : k = n := by omega
      have H := Lib.hid (treeFault_ok HB.out (by rw [HL.out]; exact hok.out))
      go_wp2
      go_ret
      exact ⟨by rw [H.out]; rfl, rfl⟩
end Go.Proofs.YtbmdepbmejnlkaaDoor
