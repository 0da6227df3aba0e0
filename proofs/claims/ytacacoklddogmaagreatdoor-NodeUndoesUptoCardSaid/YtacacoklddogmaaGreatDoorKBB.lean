/- A part of the proof of NodeUndoes. -/
import Derived.Test.YtacacoklddogmaaGreatDoorKBA
import Derived.Lib.SmallJoins
namespace Go.Proofs.YtacacoklddogmaaGreatDoor
set_option maxHeartbeats 4000000
open Go.ChangeShapes Go.WideShapes Go.ChangeAt Go.RowKit
set_option maxRecDepth 100000
def tOk (i : Nat) (p : Int) : Bool := if i = 0 then p == -1 else decide (0 ≤ p) && decide (p < i)
def treeFault (zs : List Int) : Int := if zs.length < 1 ∨ 7 < zs.length then 1 else if (List.range zs.length).all (fun i => tOk i (zs.getD i 0)) then 0 else 4
theorem dh_ {zs : List Int} (h : zs.length < 1 ∨ 7 < zs.length) : treeFault zs = 1 := if_pos h
theorem ex_ {zs : List Int} (h : ¬ (zs.length < 1 ∨ 7 < zs.length)) {k : Nat} (hk : k < zs.length) (hb : tOk k (zs.getD k 0) = false) : treeFault zs = 4 := by
 unfold treeFault
 rw [if_neg h, if_neg]
 intro h
 rw [List.all_eq_true] at h
 have := h k (by simpa using hk)
 rw [hb] at this
 cases this
theorem id_ {zs : List Int} (h : ¬ (zs.length < 1 ∨ 7 < zs.length)) (hb : ∀ i, i < zs.length → tOk i (zs.getD i 0) = true) : treeFault zs = 0 := by
 unfold treeFault
 rw [if_neg h, if_pos]
 rw [List.all_eq_true]
 intro i hi
 exact hb i (by simpa using hi)

theorem rh_ (w : World) (A : Option Addr) (n c : Nat) (zs : List Int) (hs : Sl (· < w.heap.size) w 1 A n (zs.map (Value.int .i64))) (hm : n ≤ 9223372036854775807) :
 Calls Tryz.prog 83 #[.slice A n c] w fun e w' => e = .returned (.int .i64 (treeFault zs)) ∧ w = w' := by
 have hl : zs.length = n := by have := hs.1; simpa using this
 by_cases h1 : n < 1
 · have H := h_ (dh_ (zs := zs) (by omega))
   clear hl hs
   go_enter Tryz.func83, Tryz.ntmps83
   go_wp2
   go_ret
   exact ⟨by rw [H.out]; rfl, rfl⟩
 by_cases h7 : 7 < n
 · have H := h_ (dh_ (zs := zs) (by omega))
   clear hl hs
   go_enter Tryz.func83, Tryz.ntmps83
   go_wp2
   go_ret
   exact ⟨by rw [H.out]; rfl, rfl⟩
 have hB : ¬ (zs.length < 1 ∨ 7 < zs.length) := by omega
 obtain ⟨b, o, rfl, hbs, hc⟩ := hs.open_ (by omega)
 have hc' : ∀ k, k < n → w.cell? ⟨b, o + k, none⟩ = some (.int .i64 (zs.getD k 0)) := fun k hk => hc k _ (ca_ zs k (by omega))
 have HL := h_ hl
 have HC := h_ hc'
 have HB := h_ hB
 clear hl hc hc' hs hB
 go_enter Tryz.func83, Tryz.ntmps83
 go_wp2
 go_loop [2, 3, 4, 15] (fun r _ _ i => ∃ k : Nat, k ≤ n ∧ i = .int .i64 k ∧ r = .int .i64 0 ∧ Hid (∀ i, i < k → tOk i (zs.getD i 0) = true)) (fun _ _ _ i => n - (intOf i).toNat)
 case atStart => exact ⟨0, Nat.zero_le _, rfl, rfl, fun i hi => absurd hi (by omega)⟩
 case round =>
  obtain ⟨k, hk, rfl, rfl, hok⟩ := hrel
  by_cases hlt : k < n
  · have hcx := HC.out k hlt
    obtain ⟨p, hp⟩ : ∃ p, p = zs.getD k 0 := ⟨_, rfl⟩
    rw [← hp] at hcx
    have HP := h_ hp
    clear hp
    by_cases hok1 : tOk k p = true
    · have hr : Hid (∀ i, i < k + 1 → tOk i (zs.getD i 0) = true) := fun i hi => by
       rcases Nat.lt_or_ge i k with h | h
       · exact hok.out i h
       · obtain rfl : i = k := by omega
         rw [← HP.out]; exact hok1
      by_cases hk0 : k = 0
      · subst hk0
        rw [Nat.add_zero] at hcx
        obtain rfl : p = -1 := by simpa [tOk] using hok1
        clear hok1
        go_wp2
        go_round
        case rel => exact ⟨1, by omega, by go_num, rfl, hr⟩
        case measure => simp [intOf]; omega
      · have hq : 0 ≤ p ∧ p < k := by simpa [tOk, hk0] using hok1
        obtain ⟨hq1, hq2⟩ := hq
        have e1 : (decide (p < 0)) = false := by simpa using hq1
        have e2 : ((k : Int) == 0) = false := by simpa using hk0
        clear hok1
        go_wp2
        go_round
        case rel => exact ⟨k + 1, by omega, by go_num, rfl, hr⟩
        case measure => simp [intOf]; omega
    · have H := h_ (ex_ HB.out (by rw [HL.out]; exact hlt) (by rw [← HP.out]; simpa using hok1))
      by_cases hk0 : k = 0
      · subst hk0
        rw [Nat.add_zero] at hcx
        have e1 : (p != -1) = true := by simpa [tOk] using hok1
        clear hok1
        go_wp2
        go_ret
        exact ⟨by rw [H.out]; rfl, rfl⟩
      · have e2 : ((k : Int) == 0) = false := by simpa using hk0
        by_cases hq : p < 0
        · clear hok1
          go_wp2
          go_ret
          exact ⟨by rw [H.out]; rfl, rfl⟩
        · have hq2 : (k : Int) ≤ p := by have : ¬ (0 ≤ p ∧ p < k) := by simpa [tOk, hk0] using hok1
                                         omega
          have e3 : (decide (p < 0)) = false := by simpa using hq
          clear hok1
          go_wp2
          go_ret
          exact ⟨by rw [H.out]; rfl, rfl⟩
  · obtain rfl : k = n := by omega
    have H := h_ (id_ HB.out (by rw [HL.out]; exact hok.out))
    go_wp2
    go_ret
    exact ⟨by rw [H.out]; rfl, rfl⟩

theorem rr_ (w : World) (A : Option Addr) (n c : Nat) (zs : List Int) (hs : Sl (· < w.heap.size) w 1 A n (zs.map (Value.int .i64))) (hm : n ≤ 9223372036854775807) :
 Calls Tryz.prog 54 #[.slice A n c] w fun e w' => e = .returned (.int .i64 (treeFault zs)) ∧ w = w' := by
 have hl : zs.length = n := by have := hs.1; simpa using this
 by_cases h1 : n < 1 ∨ 7 < n
 · have H := h_ (dh_ (zs := zs) (by omega))
   clear hl hs
   go_enter Tryz.func54, Tryz.ntmps54
   go_wp2_with (go_at_call 55; refine (In_no _ _ _ _ (by omega)).mono ?_; rintro e w' ⟨rfl, rfl⟩)
   go_ret
   exact ⟨by rw [H.out]; rfl, rfl⟩
 have hB : ¬ (zs.length < 1 ∨ 7 < zs.length) := by omega
 obtain ⟨b, o, rfl, hbs, hc⟩ := hs.open_ (by omega)
 have hc' : ∀ k, k < n → w.cell? ⟨b, o + k, none⟩ = some (.int .i64 (zs.getD k 0)) := fun k hk => hc k _ (ca_ zs k (by omega))
 have HL := h_ hl
 have HC := h_ hc'
 have HB := h_ hB
 have g1 : 1 ≤ n := by omega
 have g7 : n ≤ 7 := by omega
 clear hl hc hc' hs hB h1
 go_enter Tryz.func54, Tryz.ntmps54
 go_wp2_with (go_at_call 55; refine (c_ _ _ _ _ (by omega) (by omega)).mono ?_; rintro e w' ⟨rfl, rfl⟩)
 go_loopw [2, 3] (fun r i wr => ∃ k : Nat, k ≤ n ∧ i = .int .i64 k ∧ r = .int .i64 0 ∧ Hid (∀ i, i < k → tOk i (zs.getD i 0) = true) ∧ w = wr) (fun _ i _ => n - (intOf i).toNat)
 case atStart => exact ⟨0, Nat.zero_le _, rfl, rfl, fun i hi => absurd hi (by omega), rfl⟩
 case round =>
  obtain ⟨k, hk, rfl, rfl, hok, rfl⟩ := hrel
  have hbw := Below.refl w.heap.size w
  by_cases hlt : k < n
  · have hcx := (hbw.cell (p := ⟨b, o + k, none⟩) hbs).trans (HC.out k hlt)
    have hc0 := (hbw.cell (p := ⟨b, o, none⟩) hbs).trans (HC.out 0 (by omega))
    obtain ⟨p, hp⟩ : ∃ p, p = zs.getD k 0 := ⟨_, rfl⟩
    rw [← hp] at hcx
    have HP := h_ hp
    clear hp
    by_cases hok1 : tOk k p = true
    · have hr : Hid (∀ i, i < k + 1 → tOk i (zs.getD i 0) = true) := fun i hi => by
       rcases Nat.lt_or_ge i k with h | h
       · exact hok.out i h
       · obtain rfl : i = k := by omega
         rw [← HP.out]; exact hok1
      by_cases hk0 : k = 0
      · subst hk0
        obtain rfl : p = -1 := by simpa [tOk] using hok1
        rw [Nat.add_zero] at hcx
        clear hok1 hc0
        go_wp2_with fail
        go_roundw
        case rel => exact ⟨1, by omega, by go_num, rfl, hr, by trivial⟩
        case measure => simp [intOf]; omega
      · have hq : 0 ≤ p ∧ p < k := by simpa [tOk, hk0] using hok1
        obtain ⟨hq1, hq2⟩ := hq
        have e2 : ((k : Int) == 0) = false := by simpa using hk0
        clear hok1 hc0
        go_wp2_with (go_at_call 55; refine (c_ _ _ _ _ (by omega) (by omega)).mono ?_; rintro e w' ⟨rfl, rfl⟩)
        go_roundw
        case rel => exact ⟨k + 1, by omega, by go_num, rfl, hr, by trivial⟩
        case measure => simp [intOf]; omega
    · have H := h_ (ex_ HB.out (by rw [HL.out]; exact hlt) (by rw [← HP.out]; simpa using hok1))
      by_cases hk0 : k = 0
      · subst hk0
        have e1 : (p != -1) = true := by simpa [tOk] using hok1
        rw [Nat.add_zero] at hcx
        clear hok1 hc0
        go_wp2
        go_ret
        exact ⟨by rw [H.out]; rfl, rfl⟩
      · have e2 : ((k : Int) == 0) = false := by simpa using hk0
        have hq : p < 0 ∨ (k : Int) ≤ p := by have : ¬ (0 ≤ p ∧ p < k) := by simpa [tOk, hk0] using hok1
                                              omega
        clear hok1 hc0
        go_wp2_with (go_at_call 55; refine (In_no _ _ _ _ (by omega)).mono ?_; rintro e w' ⟨rfl, rfl⟩)
        go_ret
        exact ⟨by rw [H.out]; rfl, rfl⟩
  · obtain rfl : k = n := by omega
    have H := h_ (id_ HB.out (by rw [HL.out]; exact hok.out))
    go_wp2
    go_ret
    exact ⟨by rw [H.out]; rfl, rfl⟩
def kidsTo (zs : List Int) (me : Int) (k : Nat) : List Int := ((List.range k).filter (fun i => zs.getD i 0 == me)).map Int.ofNat
theorem cz_ (zs : List Int) (me : Int) : kidsTo zs me 0 = [] := rfl
theorem fa_ {zs : List Int} {me : Int} {k : Nat} (h : (zs.getD k 0 == me) = true) : kidsTo zs me (k + 1) = kidsTo zs me k ++ [(k : Int)] := by
 unfold kidsTo
 rw [List.range_succ, List.filter_append, List.map_append]
 simp only [List.filter_cons, h, if_true, List.filter_nil, List.map_cons, List.map_nil]
 rfl
theorem dv_ {zs : List Int} {me : Int} {k : Nat} (h : (zs.getD k 0 == me) = false) : kidsTo zs me (k + 1) = kidsTo zs me k := by
 unfold kidsTo
 rw [List.range_succ, List.filter_append, List.map_append]
 simp only [List.filter_cons, h, Bool.false_eq_true, if_false, List.filter_nil, List.map_nil, List.append_nil]
theorem ty_ (zs : List Int) (me : Int) (k : Nat) : (kidsTo zs me k).length ≤ k := by
 unfold kidsTo
 rw [List.length_map]
 exact Nat.le_trans (List.length_filter_le _ _) (by simp)
def peerHead (zs : List Int) (me : Int) : List Int := if 0 < me then [zs.getD me.toNat 0] else []
def peers (zs : List Int) (me : Int) : List Int := peerHead zs me ++ kidsTo zs me zs.length
theorem gc_ {zs : List Int} (h : treeFault zs = 0) : 1 ≤ zs.length ∧ zs.length ≤ 7 ∧ zs.getD 0 0 = -1 := by
 by_cases h1 : zs.length < 1 ∨ 7 < zs.length
 · rw [dh_ h1] at h
   cases h
 · refine ⟨by omega, by omega, ?_⟩
   apply Classical.byContradiction
   intro hb
   rw [ex_ h1 (k := 0) (by omega) (by simpa [tOk] using hb)] at h
   cases h

def partFault (p : PartD) : Int :=
 if p.kind = 2 then (if textFault p.text ≠ 0 then textFault p.text else if p.text.toList = [] ∨ p.n ≠ 0 then 4 else 0)
 else if p.kind = 1 ∨ p.kind = 3 then (if p.n < 1 ∨ 4000 < p.n then 2 else if p.text.toList ≠ [] then 4 else 0)
 else 3
abbrev partV (k n : Int) (s : ByteArray) : Value := .agg #[.int .i64 k, .int .i64 n, .string s]
theorem gb_ (s : ByteArray) : textFault s = 0 ∨ textFault s = 1 ∨ textFault s = 4 := by
 unfold textFault
 split
 · simp
 · split <;> simp
theorem zw_ (k n : Int) (s : ByteArray) (w : World) (hT : Tabs w) (hs : s.size ≤ 1048576) :
 Calls Tryz.prog 124 #[partV k n s] w (R_ w (.int .i64 (partFault ⟨k, n, s⟩))) := by
 by_cases hk2 : k = 2
 · subst hk2
   have hc := bd_ s
   have hf := gb_ s
   by_cases h0 : textFault s = 0
   · rw [h0] at hc
     have HC := h_ hc
     clear hc hf
     by_cases he : s.toList = []
     · have HF := h_ (show partFault ⟨2, n, s⟩ = 4 by simp [partFault, h0, he])
       clear h0
       go_enter Tryz.func124, Tryz.ntmps124
       go_wp2_with fail
       refine (HC.out _ (hT.later bz_) hs).mono ?_
       rintro e w1 ⟨rfl, hb1⟩
       obtain ⟨⟨d1, os1⟩, rfl⟩ := a_ hb1
       go_wp2_with fail
       go_ret
       exact ⟨by rw [HF.out]; rfl, bz_⟩
     have he1 : s.toList.isEmpty = false := by simpa using he
     by_cases hn : n = 0
     · subst hn
       have HF := h_ (show partFault ⟨2, 0, s⟩ = 0 by simp [partFault, h0, he])
       clear h0
       go_enter Tryz.func124, Tryz.ntmps124
       go_wp2_with fail
       refine (HC.out _ (hT.later bz_) hs).mono ?_
       rintro e w1 ⟨rfl, hb1⟩
       obtain ⟨⟨d1, os1⟩, rfl⟩ := a_ hb1
       go_wp2_with fail
       go_ret
       exact ⟨by rw [HF.out]; rfl, bz_⟩
     · have HF := h_ (show partFault ⟨2, n, s⟩ = 4 by simp [partFault, h0, hn])
       have hn1 : (n != 0) = true := by simpa using hn
       clear h0
       go_enter Tryz.func124, Tryz.ntmps124
       go_wp2_with fail
       refine (HC.out _ (hT.later bz_) hs).mono ?_
       rintro e w1 ⟨rfl, hb1⟩
       obtain ⟨⟨d1, os1⟩, rfl⟩ := a_ hb1
       go_wp2_with fail
       go_ret
       exact ⟨by rw [HF.out]; rfl, bz_⟩
   · have HF := h_ (show partFault ⟨2, n, s⟩ = textFault s by simp [partFault, h0])
     have hb0 : (textFault s != 0) = true := by simpa using h0
     generalize textFault s = x at *
     have HC := h_ hc
     clear hc hf h0
     go_enter Tryz.func124, Tryz.ntmps124
     go_wp2_with fail
     refine (HC.out _ (hT.later bz_) hs).mono ?_
     rintro e w1 ⟨rfl, hb1⟩
     obtain ⟨⟨d1, os1⟩, rfl⟩ := a_ hb1
     go_wp2_with fail
     go_ret
     exact ⟨by rw [HF.out]; rfl, bz_⟩
 have e2 : (k == 2) = false := by simpa using hk2
 by_cases hk13 : k = 1 ∨ k = 3
 · by_cases hn : n < 1 ∨ 4000 < n
   · have HF := h_ (show partFault ⟨k, n, s⟩ = 2 by unfold partFault; rw [if_neg hk2, if_pos hk13, if_pos hn])
     rcases hk13 with rfl | rfl
     all_goals
      rcases hn with hn | hn
      · have hd : decide (n < 1) = true := by simpa using hn
        go_enter Tryz.func124, Tryz.ntmps124
        go_wp2_with fail
        go_ret
        exact ⟨by rw [HF.out]; rfl, bz_⟩
      · have hd : decide (n < 1) = false := by simp; omega
        have hd2 : decide (4000 < n) = true := by simpa using hn
        go_enter Tryz.func124, Tryz.ntmps124
        go_wp2_with fail
        go_ret
        exact ⟨by rw [HF.out]; rfl, bz_⟩
   · have hd : decide (n < 1) = false := by simp; omega
     have hd2 : decide (4000 < n) = false := by simp; omega
     by_cases he : s.toList = []
     · have HF := h_ (show partFault ⟨k, n, s⟩ = 0 by unfold partFault; rw [if_neg hk2, if_pos hk13, if_neg hn, if_neg (by simpa using he)])
       have he1 : (!s.toList.isEmpty) = false := by simpa using he
       clear hn
       rcases hk13 with rfl | rfl
       all_goals
        go_enter Tryz.func124, Tryz.ntmps124
        go_wp2_with fail
        go_ret
        exact ⟨by rw [HF.out]; rfl, bz_⟩
     · have HF := h_ (show partFault ⟨k, n, s⟩ = 4 by unfold partFault; rw [if_neg hk2, if_pos hk13, if_neg hn, if_pos he])
       have he1 : (!s.toList.isEmpty) = true := by simpa using he
       clear hn
       rcases hk13 with rfl | rfl
       all_goals
        go_enter Tryz.func124, Tryz.ntmps124
        go_wp2_with fail
        go_ret
        exact ⟨by rw [HF.out]; rfl, bz_⟩
 · have HF := h_ (show partFault ⟨k, n, s⟩ = 3 by unfold partFault; rw [if_neg hk2, if_neg hk13])
   have e1 : (k == 1) = false := by simp; omega
   have e3 : (k == 3) = false := by simp; omega
   clear hk13
   go_enter Tryz.func124, Tryz.ntmps124
   go_wp2_with fail
   go_ret
   exact ⟨by rw [HF.out]; rfl, bz_⟩
theorem se_ (k n : Int) (s : ByteArray) (w : World) (hT : Tabs w) (hs : s.size ≤ 1048576) :
 Calls Tryz.prog 103 #[partV k n s] w (R_ w (.int .i64 (partFault ⟨k, n, s⟩))) := by
 by_cases hk2 : k = 2
 · subst hk2
   have hc := be_ s
   have hf := gb_ s
   by_cases h0 : textFault s = 0
   · rw [h0] at hc
     have HC := h_ hc
     clear hc hf
     by_cases he : s.toList = []
     · have HF := h_ (show partFault ⟨2, n, s⟩ = 4 by simp [partFault, h0, he])
       clear h0
       go_enter Tryz.func103, Tryz.ntmps103
       go_wp2_with (go_at_call 55; refine (c_ _ _ _ _ (by omega) (by omega)).mono ?_; rintro e w' ⟨rfl, rfl⟩)
       refine (HC.out _ (hT.later bz_) hs).mono ?_
       rintro e w1 ⟨rfl, hb1⟩
       obtain ⟨⟨d1, os1⟩, rfl⟩ := a_ hb1
       go_wp2_with fail
       go_ret
       exact ⟨by rw [HF.out]; rfl, bz_⟩
     have he1 : s.toList.isEmpty = false := by simpa using he
     by_cases hn : n = 0
     · subst hn
       have HF := h_ (show partFault ⟨2, 0, s⟩ = 0 by simp [partFault, h0, he])
       clear h0
       go_enter Tryz.func103, Tryz.ntmps103
       go_wp2_with (go_at_call 55; refine (c_ _ _ _ _ (by omega) (by omega)).mono ?_; rintro e w' ⟨rfl, rfl⟩)
       refine (HC.out _ (hT.later bz_) hs).mono ?_
       rintro e w1 ⟨rfl, hb1⟩
       obtain ⟨⟨d1, os1⟩, rfl⟩ := a_ hb1
       go_wp2_with fail
       go_ret
       exact ⟨by rw [HF.out]; rfl, bz_⟩
     · have HF := h_ (show partFault ⟨2, n, s⟩ = 4 by simp [partFault, h0, hn])
       have hn1 : (n != 0) = true := by simpa using hn
       clear h0
       go_enter Tryz.func103, Tryz.ntmps103
       go_wp2_with (go_at_call 55; refine (c_ _ _ _ _ (by omega) (by omega)).mono ?_; rintro e w' ⟨rfl, rfl⟩)
       refine (HC.out _ (hT.later bz_) hs).mono ?_
       rintro e w1 ⟨rfl, hb1⟩
       obtain ⟨⟨d1, os1⟩, rfl⟩ := a_ hb1
       go_wp2_with fail
       go_ret
       exact ⟨by rw [HF.out]; rfl, bz_⟩
   · have HF := h_ (show partFault ⟨2, n, s⟩ = textFault s by simp [partFault, h0])
     have hb0 : (textFault s == 0) = false := by simpa using h0
     generalize textFault s = x at *
     have HC := h_ hc
     clear hc hf h0
     go_enter Tryz.func103, Tryz.ntmps103
     go_wp2_with (go_at_call 55; refine (c_ _ _ _ _ (by omega) (by omega)).mono ?_; rintro e w' ⟨rfl, rfl⟩)
     refine (HC.out _ (hT.later bz_) hs).mono ?_
     rintro e w1 ⟨rfl, hb1⟩
     obtain ⟨⟨d1, os1⟩, rfl⟩ := a_ hb1
     go_wp2_with fail
     go_ret
     exact ⟨by rw [HF.out]; rfl, bz_⟩
 have e2 : (k == 2) = false := by simpa using hk2
 by_cases hk13 : k = 1 ∨ k = 3
 · have hkk : 1 ≤ k ∧ k ≤ 3 := by omega
   obtain ⟨hk1, hk3⟩ := hkk
   by_cases hn : n < 1 ∨ 4000 < n
   · have HF := h_ (show partFault ⟨k, n, s⟩ = 2 by unfold partFault; rw [if_neg hk2, if_pos hk13, if_pos hn])
     have HN := h_ hn
     clear hk13 hn
     go_enter Tryz.func103, Tryz.ntmps103
     go_wp2_with fail
     refine (c_ _ _ _ _ hk1 hk3).mono ?_
     rintro e w' ⟨rfl, rfl⟩
     go_wp2_with fail
     refine (In_no _ _ _ _ HN.out).mono ?_
     rintro e w' ⟨rfl, rfl⟩
     go_wp2_with fail
     go_ret
     exact ⟨by rw [HF.out]; rfl, bz_⟩
   · have hn1 : 1 ≤ n := by omega
     have hn2 : n ≤ 4000 := by omega
     by_cases he : s.toList = []
     · have HF := h_ (show partFault ⟨k, n, s⟩ = 0 by unfold partFault; rw [if_neg hk2, if_pos hk13, if_neg hn, if_neg (by simpa using he)])
       have he1 : (!s.toList.isEmpty) = false := by simpa using he
       clear hn hk13
       go_enter Tryz.func103, Tryz.ntmps103
       go_wp2_with fail
       refine (c_ _ _ _ _ hk1 hk3).mono ?_
       rintro e w' ⟨rfl, rfl⟩
       go_wp2_with fail
       refine (c_ _ _ _ _ hn1 hn2).mono ?_
       rintro e w' ⟨rfl, rfl⟩
       go_wp2_with fail
       go_ret
       exact ⟨by rw [HF.out]; rfl, bz_⟩
     · have HF := h_ (show partFault ⟨k, n, s⟩ = 4 by unfold partFault; rw [if_neg hk2, if_pos hk13, if_neg hn, if_pos he])
       have he1 : (!s.toList.isEmpty) = true := by simpa using he
       clear hn hk13
       go_enter Tryz.func103, Tryz.ntmps103
       go_wp2_with fail
       refine (c_ _ _ _ _ hk1 hk3).mono ?_
       rintro e w' ⟨rfl, rfl⟩
       go_wp2_with fail
       refine (c_ _ _ _ _ hn1 hn2).mono ?_
       rintro e w' ⟨rfl, rfl⟩
       go_wp2_with fail
       go_ret
       exact ⟨by rw [HF.out]; rfl, bz_⟩
 · have HF := h_ (show partFault ⟨k, n, s⟩ = 3 by unfold partFault; rw [if_neg hk2, if_neg hk13])
   have HN := h_ (show k < 1 ∨ 3 < k by omega)
   clear hk13
   go_enter Tryz.func103, Tryz.ntmps103
   go_wp2_with fail
   refine (In_no _ _ _ _ HN.out).mono ?_
   rintro e w' ⟨rfl, rfl⟩
   go_wp2_with fail
   go_ret
   exact ⟨by rw [HF.out]; rfl, bz_⟩
def clash (q p : PartD) : Bool := q.kind == p.kind || (q.kind == 3 && p.kind == 2)
def badAt (ps : List PartD) (i : Nat) : Int :=
 match ps[i]? with
 | none => 0
 | some p => if partFault p ≠ 0 then partFault p else match i with
  | 0 => 0
  | j + 1 => match ps[j]? with
   | none => 0
   | some q => if clash q p then 4 else 0
def opFault (ps : List PartD) : Int :=
 if 8001 < ps.length then 1 else match ((List.range ps.length).map (badAt ps)).find? (· ≠ 0) with
  | some e => e
  | none => if 4000 < (lens ps).1 ∨ 4000 < (lens ps).2 then 1 else 0
theorem fr_ {ps : List PartD} (h : 8001 < ps.length) : opFault ps = 1 := if_pos h
theorem ts_ {l : List Int} {k : Nat} (hk : k < l.length) (h : ∀ i (hi : i < k), l[i]'(Nat.lt_trans hi hk) = 0) (hb : l[k] ≠ 0) : l.find? (· ≠ 0) = some l[k] := by
 induction l generalizing k with
 | nil => exact absurd hk (by simp)
 | cons x l ih =>
  cases k with
  | zero =>
   have hb' : ¬ x = 0 := by simpa using hb
   simp [hb']
  | succ k =>
   have h0 : x = 0 := h 0 (by omega)
   rw [List.find?_cons]
   simp only [h0, ne_eq, not_true_eq_false, decide_false]
   exact ih (by simpa using hk) (fun i hi => h (i + 1) (by omega)) hb
theorem dm_ {ps : List PartD} (h : ¬ 8001 < ps.length) {k : Nat} (hk : k < ps.length) (hg : ∀ i, i < k → badAt ps i = 0) (hb : badAt ps k ≠ 0) : opFault ps = badAt ps k := by
 unfold opFault
 rw [if_neg h, ts_ (l := (List.range ps.length).map (badAt ps)) (k := k) (by simpa using hk) (fun i hi => by simpa using hg i hi) (by simpa using hb)]
 simp
theorem fq_ {ps : List PartD} (h : ¬ 8001 < ps.length) (hg : ∀ i, i < ps.length → badAt ps i = 0) : opFault ps = if 4000 < (lens ps).1 ∨ 4000 < (lens ps).2 then 1 else 0 := by
 unfold opFault
 rw [if_neg h, List.find?_eq_none.2]
 intro x hx
 obtain ⟨i, hi, rfl⟩ := List.mem_map.1 hx
 simpa using hg i (List.mem_range.1 hi)
theorem df_ {ps : List PartD} {k : Nat} (hk : k < ps.length) (h : partFault ps[k] ≠ 0) : badAt ps k = partFault ps[k] := by
 unfold badAt
 rw [List.getElem?_eq_getElem hk]
 simp [h]
theorem ld_ {ps : List PartD} (hk : 0 < ps.length) (h : partFault ps[0] = 0) : badAt ps 0 = 0 := by
 unfold badAt
 rw [List.getElem?_eq_getElem hk]
 simp [h]
theorem gu_ {ps : List PartD} {j : Nat} (hk : j + 1 < ps.length) (h : partFault ps[j + 1] = 0) : badAt ps (j + 1) = if clash ps[j] ps[j + 1] then 4 else 0 := by
 unfold badAt
 rw [List.getElem?_eq_getElem hk]
 simp [h, List.getElem?_eq_getElem (show j < ps.length by omega)]
theorem bj_ (w : World) (A : Option Addr) (c : Nat) (ps : List PartD) (hT : Tabs w) (hs : OpIn (· < w.heap.size) w A ps) (hm : ps.length ≤ 1048576) (ht : ∀ p ∈ ps, p.text.size ≤ 1048576) :
 Calls Tryz.prog 96 #[.slice A ps.length c] w (R_ w (.int .i64 (opFault ps))) := by
 by_cases h8 : 8001 < ps.length
 · have HF := h_ (fr_ h8)
   have hd : decide ((8001 : Int) < (ps.length : Int)) = true := by simp; omega
   go_enter Tryz.func96, Tryz.ntmps96
   go_wp2_with fail
   go_ret
   exact ⟨by rw [HF.out]; rfl, bz_⟩
 have hd : decide ((8001 : Int) < (ps.length : Int)) = false := by simp; omega
 have HTX := h_ ht
 have HT := h_ hT
 have HS := h_ hs
 clear ht hT
 go_enter Tryz.func96, Tryz.ntmps96
 go_wp2_with fail
 go_loopw [2, 3, 4, 13] (fun r _ _ i wr => ∃ (k : Nat), k ≤ ps.length ∧ i = .int .i64 k ∧ r = .int .i64 0 ∧ Hid (∀ i, i < k → badAt ps i = 0) ∧ Below w.heap.size w wr)
  (fun _ _ _ i _ => ps.length - (intOf i).toNat)
 case atStart => exact ⟨0, Nat.zero_le _, rfl, rfl, fun i hi => absurd hi (by omega), Below.refl _ _⟩
 case round =>
  obtain ⟨k, hk, rfl, rfl, hok, hbw⟩ := hrel
  by_cases hlt : k < ps.length
  · obtain ⟨b, o, rfl, hbs, h0, h1, h2⟩ := OpIn.at_ (ps := ps) (Sl.later hs hbw) hlt
    have htx : ps[k].text.size ≤ 1048576 := HTX.out _ (List.getElem_mem hlt)
    have hpc := zw_ ps[k].kind ps[k].n ps[k].text
    by_cases hpf : partFault ps[k] = 0
    · have hpe : partFault ⟨ps[k].kind, ps[k].n, ps[k].text⟩ = 0 := hpf
      rw [hpe] at hpc
      have HP := h_ hpc
      clear hpe hpc
      by_cases hk0 : k = 0
      · subst hk0
        have hr : Hid (∀ i, i < 0 + 1 → badAt ps i = 0) := fun i hi => by
         obtain rfl : i = 0 := by omega
         exact ld_ hlt hpf
        generalize ps[0] = p at *
        obtain ⟨kd, pn, tx⟩ := p
        simp only [Nat.zero_mul, Nat.add_zero] at h0 h1 h2
        dsimp only at *
        clear hpf
        go_wp2_with fail
        refine (HP.out _ (HT.out.later bf_) htx).mono ?_
        rintro e w1 ⟨rfl, hb1⟩
        obtain ⟨⟨d1, os1⟩, rfl⟩ := a_ hb1
        go_wp2_with fail
        go_quiet (fail)
        go_wp2_with fail
        go_roundw
        case rel => exact ⟨1, by omega, by go_num, rfl, hr, bf_⟩
        case measure => simp [intOf]; omega
      · obtain ⟨j, rfl⟩ : ∃ j, k = j + 1 := ⟨k - 1, by omega⟩
        obtain ⟨b', o', hbo, _, g0, _, _⟩ := OpIn.at_ (ps := ps) (k := j) (Sl.later hs hbw) (by omega)
        injection hbo with hbo
        injection hbo with e1 e2
        subst e1 e2
        have hba := gu_ hlt hpf
        have hle : j + 1 ≤ 1048576 := by omega
        by_cases hcl : clash ps[j] ps[j + 1] = true
        · rw [if_pos hcl] at hba
          have HF := h_ ((dm_ h8 hlt hok.out (by rw [hba]; decide)).trans hba)
          clear hba
          generalize ps[j] = q at *
          generalize ps[j + 1] = p at *
          obtain ⟨kd, pn, tx⟩ := p
          obtain ⟨kq, qn, tq⟩ := q
          simp only [clash] at hcl
          dsimp only at *
          clear hpf
          by_cases f1 : kq = kd
          · subst f1
            clear hcl
            go_wp2_with fail
            refine (HP.out _ (HT.out.later bf_) htx).mono ?_
            rintro e w1 ⟨rfl, hb1⟩
            obtain ⟨⟨d1, os1⟩, rfl⟩ := a_ hb1
            go_wp2_with fail
            go_quiet (fail)
            go_wp2_with fail
            go_ret
            exact ⟨by rw [HF.out]; rfl, bf_⟩
          · have h32 : kq = 3 ∧ kd = 2 := by
             have f1' : (kq == kd) = false := by simpa using f1
             rw [f1'] at hcl
             simpa using hcl
            obtain ⟨rfl, rfl⟩ := h32
            clear hcl f1
            go_wp2_with fail
            refine (HP.out _ (HT.out.later bf_) htx).mono ?_
            rintro e w1 ⟨rfl, hb1⟩
            obtain ⟨⟨d1, os1⟩, rfl⟩ := a_ hb1
            go_wp2_with fail
            go_quiet (fail)
            go_wp2_with fail
            go_ret
            exact ⟨by rw [HF.out]; rfl, bf_⟩
        · rw [if_neg hcl] at hba
          have hr : Hid (∀ i, i < j + 1 + 1 → badAt ps i = 0) := fun i hi => by
           rcases Nat.lt_or_ge i (j + 1) with h | h
           · exact hok.out i h
           · obtain rfl : i = j + 1 := by omega
             exact hba
          clear hba
          generalize ps[j] = q at *
          generalize ps[j + 1] = p at *
          obtain ⟨kd, pn, tx⟩ := p
          obtain ⟨kq, qn, tq⟩ := q
          simp only [clash] at hcl
          dsimp only at *
          have f1 : (kq == kd) = false := by revert hcl; cases (kq == kd) <;> simp
          clear hpf
          by_cases hq3 : kq = 3
          · subst hq3
            have f2 : (kd == 2) = false := by revert hcl; cases (kd == 2) <;> simp
            clear hcl
            go_wp2_with fail
            refine (HP.out _ (HT.out.later bf_) htx).mono ?_
            rintro e w1 ⟨rfl, hb1⟩
            obtain ⟨⟨d1, os1⟩, rfl⟩ := a_ hb1
            go_wp2_with fail
            go_quiet (fail)
            go_wp2_with fail
            go_roundw
            case rel => exact ⟨j + 1 + 1, by omega, by go_num, rfl, hr, bf_⟩
            case measure => simp [intOf]; omega
          · have f3 : (kq == 3) = false := by simpa using hq3
            clear hcl hq3
            go_wp2_with fail
            refine (HP.out _ (HT.out.later bf_) htx).mono ?_
            rintro e w1 ⟨rfl, hb1⟩
            obtain ⟨⟨d1, os1⟩, rfl⟩ := a_ hb1
            go_wp2_with fail
            go_quiet (fail)
            go_wp2_with fail
            go_roundw
            case rel => exact ⟨j + 1 + 1, by omega, by go_num, rfl, hr, bf_⟩
            case measure => simp [intOf]; omega
    · have HF := h_ ((dm_ h8 hlt hok.out (by rw [df_ hlt hpf]; exact hpf)).trans (df_ hlt hpf))
      have hpe : partFault ⟨ps[k].kind, ps[k].n, ps[k].text⟩ = partFault ps[k] := rfl
      rw [hpe] at hpc
      have hb0 : (partFault ps[k] != 0) = true := by simpa using hpf
      clear hpe
      generalize partFault ps[k] = x at *
      generalize ps[k] = p at *
      obtain ⟨kd, pn, tx⟩ := p
      dsimp only at *
      have HP := h_ hpc
      clear hpc hpf
      go_wp2_with fail
      refine (HP.out _ (HT.out.later bf_) htx).mono ?_
      rintro e w1 ⟨rfl, hb1⟩
      obtain ⟨⟨d1, os1⟩, rfl⟩ := a_ hb1
      go_wp2_with fail
      go_ret
      exact ⟨by rw [HF.out]; rfl, bf_⟩
  · obtain rfl : k = ps.length := by omega
    have HG := h_ (fq_ h8 hok.out)
    have HL := h_ (bt_ wr A c ps (Sl.later hs hbw) hm HTX.out)
    clear hd
    go_wp2_with fail
    refine HL.out.mono ?_
    rintro e w1 ⟨rfl, hb1⟩
    obtain ⟨⟨d1, os1⟩, rfl⟩ := a_ hb1
    by_cases hf : 4000 < (lens ps).1
    · have HF := h_ (HG.out.trans (if_pos (.inl hf)))
      generalize lens ps = l at *
      obtain ⟨f, t⟩ := l
      dsimp only at *
      have hd1 : decide (4000 < f) = true := by simpa using hf
      go_wp2_with fail
      go_ret
      exact ⟨by rw [HF.out]; rfl, bf_⟩
    · by_cases hg : 4000 < (lens ps).2
      · have HF := h_ (HG.out.trans (if_pos (.inr hg)))
        generalize lens ps = l at *
        obtain ⟨f, t⟩ := l
        dsimp only at *
        have hd1 : decide (4000 < f) = false := by simpa using hf
        have hd2 : decide (4000 < t) = true := by simpa using hg
        go_wp2_with fail
        go_ret
        exact ⟨by rw [HF.out]; rfl, bf_⟩
      · have HF := h_ (HG.out.trans (if_neg (by omega)))
        generalize lens ps = l at *
        obtain ⟨f, t⟩ := l
        dsimp only at *
        have hd1 : decide (4000 < f) = false := by simpa using hf
        have hd2 : decide (4000 < t) = false := by simpa using hg
        go_wp2_with fail
        go_ret
        exact ⟨by rw [HF.out]; rfl, bf_⟩
theorem bc_ (w : World) (A : Option Addr) (c : Nat) (ps : List PartD) (hT : Tabs w) (hs : OpIn (· < w.heap.size) w A ps) (hm : ps.length ≤ 1048576) (ht : ∀ p ∈ ps, p.text.size ≤ 1048576) :
 Calls Tryz.prog 60 #[.slice A ps.length c] w (R_ w (.int .i64 (opFault ps))) := by
 by_cases h8 : 8001 < ps.length
 · have HF := h_ (fr_ h8)
   have hd : decide ((8001 : Int) < (ps.length : Int)) = true := by simp; omega
   go_enter Tryz.func60, Tryz.ntmps60
   go_wp2_with fail
   go_ret
   exact ⟨by rw [HF.out]; rfl, bz_⟩
 have hd : decide ((8001 : Int) < (ps.length : Int)) = false := by simp; omega
 have HTX := h_ ht
 have HT := h_ hT
 have HS := h_ hs
 clear ht hT
 go_enter Tryz.func60, Tryz.ntmps60
 go_wp2_with fail
 go_loopw [2, 3] (fun r i wr => ∃ (k : Nat), k ≤ ps.length ∧ i = .int .i64 k ∧ r = .int .i64 0 ∧ Hid (∀ i, i < k → badAt ps i = 0) ∧ Below w.heap.size w wr)
  (fun _ i _ => ps.length - (intOf i).toNat)
 case atStart => exact ⟨0, Nat.zero_le _, rfl, rfl, fun i hi => absurd hi (by omega), Below.refl _ _⟩
 case round =>
  obtain ⟨k, hk, rfl, rfl, hok, hbw⟩ := hrel
  by_cases hlt : k < ps.length
  · obtain ⟨b, o, rfl, hbs, h0, h1, h2⟩ := OpIn.at_ (ps := ps) (Sl.later hs hbw) hlt
    have htx : ps[k].text.size ≤ 1048576 := HTX.out _ (List.getElem_mem hlt)
    have hpc := se_ ps[k].kind ps[k].n ps[k].text
    by_cases hpf : partFault ps[k] = 0
    · have hpe : partFault ⟨ps[k].kind, ps[k].n, ps[k].text⟩ = 0 := hpf
      rw [hpe] at hpc
      have HP := h_ hpc
      clear hpe hpc
      by_cases hk0 : k = 0
      · subst hk0
        have hr : Hid (∀ i, i < 0 + 1 → badAt ps i = 0) := fun i hi => by
         obtain rfl : i = 0 := by omega
         exact ld_ hlt hpf
        generalize ps[0] = p at *
        obtain ⟨kd, pn, tx⟩ := p
        simp only [Nat.zero_mul, Nat.add_zero] at h0 h1 h2
        dsimp only at *
        clear hpf
        go_wp2_with fail
        refine (HP.out _ (HT.out.later bf_) htx).mono ?_
        rintro e w1 ⟨rfl, hb1⟩
        obtain ⟨⟨d1, os1⟩, rfl⟩ := a_ hb1
        go_wp2_with fail
        go_quiet (fail)
        go_wp2_with fail
        go_roundw
        case rel => exact ⟨1, by omega, by go_num, rfl, hr, bf_⟩
        case measure => simp [intOf]; omega
      · obtain ⟨j, rfl⟩ : ∃ j, k = j + 1 := ⟨k - 1, by omega⟩
        obtain ⟨b', o', hbo, _, g0, _, _⟩ := OpIn.at_ (ps := ps) (k := j) (Sl.later hs hbw) (by omega)
        injection hbo with hbo
        injection hbo with e1 e2
        subst e1 e2
        have hba := gu_ hlt hpf
        have hle : j + 1 ≤ 1048576 := by omega
        by_cases hcl : clash ps[j] ps[j + 1] = true
        · rw [if_pos hcl] at hba
          have HF := h_ ((dm_ h8 hlt hok.out (by rw [hba]; decide)).trans hba)
          clear hba
          generalize ps[j] = q at *
          generalize ps[j + 1] = p at *
          obtain ⟨kd, pn, tx⟩ := p
          obtain ⟨kq, qn, tq⟩ := q
          simp only [clash] at hcl
          dsimp only at *
          clear hpf
          by_cases f1 : kq = kd
          · subst f1
            clear hcl
            go_wp2_with fail
            refine (HP.out _ (HT.out.later bf_) htx).mono ?_
            rintro e w1 ⟨rfl, hb1⟩
            obtain ⟨⟨d1, os1⟩, rfl⟩ := a_ hb1
            go_wp2_with fail
            go_quiet (fail)
            go_wp2_with fail
            go_ret
            exact ⟨by rw [HF.out]; rfl, bf_⟩
          · have h32 : kq = 3 ∧ kd = 2 := by
             have f1' : (kq == kd) = false := by simpa using f1
             rw [f1'] at hcl
             simpa using hcl
            obtain ⟨rfl, rfl⟩ := h32
            clear hcl f1
            go_wp2_with fail
            refine (HP.out _ (HT.out.later bf_) htx).mono ?_
            rintro e w1 ⟨rfl, hb1⟩
            obtain ⟨⟨d1, os1⟩, rfl⟩ := a_ hb1
            go_wp2_with fail
            go_quiet (fail)
            go_wp2_with fail
            go_ret
            exact ⟨by rw [HF.out]; rfl, bf_⟩
        · rw [if_neg hcl] at hba
          have hr : Hid (∀ i, i < j + 1 + 1 → badAt ps i = 0) := fun i hi => by
           rcases Nat.lt_or_ge i (j + 1) with h | h
           · exact hok.out i h
           · obtain rfl : i = j + 1 := by omega
             exact hba
          clear hba
          generalize ps[j] = q at *
          generalize ps[j + 1] = p at *
          obtain ⟨kd, pn, tx⟩ := p
          obtain ⟨kq, qn, tq⟩ := q
          simp only [clash] at hcl
          dsimp only at *
          have f0 : (kq == kd) = false := by revert hcl; cases (kq == kd) <;> simp
          have f1 : (kd == kq) = false := by simp at f0 ⊢; omega
          clear f0
          clear hpf
          by_cases hq3 : kd = 2
          · subst hq3
            have f2 : (kq == 3) = false := by revert hcl; cases (kq == 3) <;> simp
            clear hcl
            go_wp2_with fail
            refine (HP.out _ (HT.out.later bf_) htx).mono ?_
            rintro e w1 ⟨rfl, hb1⟩
            obtain ⟨⟨d1, os1⟩, rfl⟩ := a_ hb1
            go_wp2_with fail
            go_quiet (fail)
            go_wp2_with fail
            go_roundw
            case rel => exact ⟨j + 1 + 1, by omega, by go_num, rfl, hr, bf_⟩
            case measure => simp [intOf]; omega
          · have f3 : (kd == 2) = false := by simpa using hq3
            clear hcl hq3
            go_wp2_with fail
            refine (HP.out _ (HT.out.later bf_) htx).mono ?_
            rintro e w1 ⟨rfl, hb1⟩
            obtain ⟨⟨d1, os1⟩, rfl⟩ := a_ hb1
            go_wp2_with fail
            go_quiet (fail)
            go_wp2_with fail
            go_roundw
            case rel => exact ⟨j + 1 + 1, by omega, by go_num, rfl, hr, bf_⟩
            case measure => simp [intOf]; omega
    · have HF := h_ ((dm_ h8 hlt hok.out (by rw [df_ hlt hpf]; exact hpf)).trans (df_ hlt hpf))
      have hpe : partFault ⟨ps[k].kind, ps[k].n, ps[k].text⟩ = partFault ps[k] := rfl
      rw [hpe] at hpc
      have hb0 : (partFault ps[k] != 0) = true := by simpa using hpf
      clear hpe
      generalize partFault ps[k] = x at *
      generalize ps[k] = p at *
      obtain ⟨kd, pn, tx⟩ := p
      dsimp only at *
      have HP := h_ hpc
      clear hpc hpf
      go_wp2_with fail
      refine (HP.out _ (HT.out.later bf_) htx).mono ?_
      rintro e w1 ⟨rfl, hb1⟩
      obtain ⟨⟨d1, os1⟩, rfl⟩ := a_ hb1
      go_wp2_with fail
      go_ret
      exact ⟨by rw [HF.out]; rfl, bf_⟩
  · obtain rfl : k = ps.length := by omega
    have HG := h_ (fq_ h8 hok.out)
    have HL := h_ (bi_ wr A c ps (Sl.later hs hbw) hm HTX.out)
    clear hd
    go_wp2_with fail
    refine HL.out.mono ?_
    rintro e w1 ⟨rfl, hb1⟩
    obtain ⟨⟨d1, os1⟩, rfl⟩ := a_ hb1
    by_cases hf : 4000 < (lens ps).1
    · have HF := h_ (HG.out.trans (if_pos (.inl hf)))
      generalize lens ps = l at *
      obtain ⟨f, t⟩ := l
      dsimp only at *
      have hd1 : decide (4000 < f) = true := by simpa using hf
      go_wp2_with fail
      go_ret
      exact ⟨by rw [HF.out]; rfl, bf_⟩
    · by_cases hg : 4000 < (lens ps).2
      · have HF := h_ (HG.out.trans (if_pos (.inr hg)))
        generalize lens ps = l at *
        obtain ⟨f, t⟩ := l
        dsimp only at *
        have hd1 : decide (4000 < f) = false := by simpa using hf
        have hd2 : decide (4000 < t) = true := by simpa using hg
        go_wp2_with fail
        go_ret
        exact ⟨by rw [HF.out]; rfl, bf_⟩
      · have HF := h_ (HG.out.trans (if_neg (by omega)))
        generalize lens ps = l at *
        obtain ⟨f, t⟩ := l
        dsimp only at *
        have hd1 : decide (4000 < f) = false := by simpa using hf
        have hd2 : decide (4000 < t) = false := by simpa using hg
        go_wp2_with fail
        go_ret
        exact ⟨by rw [HF.out]; rfl, bf_⟩
theorem u_ (n : Int) (w : World) (h1 : 0 ≤ n) (h2 : n ≤ 1048576) : Calls Tryz.prog 70 #[.int .i64 n] w fun e w' => e = .returned (.bool true) ∧ w = w' := by
 have e1 : decide (0 ≤ n) = true := by simpa using h1
 have e2 : decide (n ≤ 1048576) = true := by simpa using h2
 go_enter Tryz.func70, Tryz.ntmps70
 go_wp2
 go_ret
 exact ⟨rfl, rfl⟩
theorem no_ (n : Int) (w : World) (h : n < 0 ∨ 1048576 < n) : Calls Tryz.prog 70 #[.int .i64 n] w fun e w' => e = .returned (.bool false) ∧ w = w' := by
 rcases Int.lt_or_le n 0 with h1 | h1
 · have e1 : decide (0 ≤ n) = false := by simpa using h1
   go_enter Tryz.func70, Tryz.ntmps70
   go_wp2
   go_ret
   exact ⟨rfl, rfl⟩
 · have h2 : 1048576 < n := by omega
   have e1 : decide (0 ≤ n) = true := by simpa using h1
   have e2 : decide (n ≤ 1048576) = false := by simpa using h2
   go_enter Tryz.func70, Tryz.ntmps70
   go_wp2
   go_ret
   exact ⟨rfl, rfl⟩
end Go.Proofs.YtacacoklddogmaaGreatDoor
namespace Go.Proofs.YtacacoklddogmaaGreatDoor
set_option maxHeartbeats 4000000
open Go.ChangeShapes Go.WideShapes Go.ChangeAt Go.RowKit Go.Joins Go.Deep
set_option maxRecDepth 100000
section
variable {H : Type} {enc : TypeId × Value → H} {P : Program} {w : World} {base : Nat} {spare : Nat → Bool} {held : Bool}
theorem dn_ {t : TypeId} {fs : Array Field} {fuel : Nat} {cs : List Value} {x : DataW H × List MemPlace} (ht : P.underlying t = some (.struct fs)) (hone : oneCellFields P fs = true) (hC : P.cellsOf t = fs.size)
 (h : DataW.trod enc P w base spare held fuel t cs = some x) :
 ∃ (ys : List (DataW H × List MemPlace)) (n : Nat), x.1 = .agg (ys.map (·.1)) ∧ ys.length = fs.size ∧ cs.length = fs.size ∧
  ∀ (j : Nat) (f : Field), fs[j]? = some f → ∃ (v : Value) (y : DataW H × List MemPlace), cs[j]? = some v ∧ ys[j]? = some y ∧ DataW.trod enc P w base spare held n f.type [v] = some y := by
 obtain ⟨ys, n', hn', hy, hlen, hyl, hf⟩ := DataW.trod_struct ht h
 rw [hC] at hlen
 refine ⟨ys, n', by rw [hy], hyl, hlen, fun j f hj => ?_⟩
 obtain ⟨ho, hk⟩ := hone_of hone j f hj
 have hjl : j < fs.size := (Array.getElem?_eq_some_iff.1 hj).1
 have h1 := hf j f hj
 rw [ho, hk] at h1
 have hone' : (cs.drop j).take 1 = [cs[j]'(by omega)] := by
  rw [List.drop_eq_getElem_cons (by omega)]
  rfl
 rw [hone'] at h1
 have hys : ys[j]? = some (ys[j]'(by omega)) := List.getElem?_eq_getElem (by omega)
 exact ⟨_, _, List.getElem?_eq_getElem (by omega), hys, h1.trans hys⟩
theorem bk_ {ys : List (DataW H × List MemPlace)} {x : DataW H} {n : Nat} (hx : x = .agg (ys.map (·.1))) (hb : Rows.uptoBulk x ≤ n) {j : Nat} {y : DataW H × List MemPlace} (hj : ys[j]? = some y) : Rows.uptoBulk y.1 ≤ n := by
 rw [hx, py_] at hb
 have := dc_ (List.mem_map.2 ⟨y, List.mem_of_getElem? hj, rfl⟩ : y.1 ∈ ys.map (·.1))
 omega
end
theorem list2 {α : Type} {l : List α} (h : l.length = 2) : ∃ a b, l = [a, b] := by
 match l, h with
 | [a, b], _ => exact ⟨a, b, rfl⟩
theorem list3 {α : Type} {l : List α} (h : l.length = 3) : ∃ a b c, l = [a, b, c] := by
 match l, h with
 | [a, b, c], _ => exact ⟨a, b, c, rfl⟩
theorem list5 {α : Type} {l : List α} (h : l.length = 5) : ∃ a b c d e, l = [a, b, c, d, e] := by
 match l, h with
 | [a, b, c, d, e], _ => exact ⟨a, b, c, d, e, rfl⟩
section
variable {H : Type} {enc : TypeId × Value → H} {w : World} {m : Nat}
theorem by_ {t : TypeId} {v : Value} {y : DataW H × List MemPlace} (ht : Tryz.prog.underlying t = some (.int .i64)) (h : DataW.trod enc Tryz.prog w 0 (fun _ => true) true m t [v] = some y) :
 ∃ k : Int, v = .int .i64 k ∧ -9223372036854775808 ≤ k ∧ k ≤ 9223372036854775807 := by
 obtain ⟨k, e, _, hw⟩ := DataW.trod_int ht h
 exact ⟨k, by simpa using e, (du_ hw).1, (du_ hw).2⟩
theorem nq_ {t : TypeId} {v : Value} {y : DataW H × List MemPlace} (ht : Tryz.prog.underlying t = some .string) (h : DataW.trod enc Tryz.prog w 0 (fun _ => true) true m t [v] = some y) (hb : Rows.uptoBulk y.1 ≤ 1048576) :
 ∃ s : ByteArray, v = .string s ∧ s.size ≤ 1048576 := by
 obtain ⟨s, e, d⟩ := DataW.trod_string ht h
 refine ⟨s, by simpa using e, ?_⟩
 rw [d.1, ix_] at hb
 have e := vb_ s
 omega
theorem qs_ {v : Value} {y : DataW H × List MemPlace} (h : DataW.trod enc Tryz.prog w 0 (fun _ => true) true m 30 [v] = some y) (hb : Rows.uptoBulk y.1 ≤ 1048576) :
 ∃ (A : Option Addr) (c : Nat) (ps : List PartD), v = .slice A ps.length c ∧ ps.length ≤ c ∧ c ≤ 9223372036854775807 ∧ OpIn (· < w.heap.size) w A ps ∧ ps.length ≤ 1048576 ∧ ∀ p ∈ ps, p.Fit := by
 obtain ⟨A, c, ps, h1, h2, h3, h4, h5, h6⟩ := zi_ Tryz.underlying30 h hb
 exact ⟨A, c, ps, h1, h2, h3, h4, by omega, h6⟩
theorem ub_ {cs : List Value} {y : DataW H × List MemPlace} (h : DataW.trod enc Tryz.prog w 0 (fun _ => true) true m 46 cs = some y) (hb : Rows.uptoBulk y.1 ≤ 1048576) :
 ∃ (k hd ep : Int) (A : Option Addr) (c : Nat) (ps : List PartD) (s : ByteArray), cs = [.int .i64 k, .int .i64 hd, .int .i64 ep, .slice A ps.length c, .string s] ∧ (-9223372036854775808 ≤ k ∧ k ≤ 9223372036854775807) ∧
  (-9223372036854775808 ≤ hd ∧ hd ≤ 9223372036854775807) ∧ (-9223372036854775808 ≤ ep ∧ ep ≤ 9223372036854775807) ∧
  (ps.length ≤ c ∧ c ≤ 9223372036854775807 ∧ OpIn (· < w.heap.size) w A ps ∧ ps.length ≤ 1048576 ∧ ∀ p ∈ ps, p.Fit) ∧ s.size ≤ 1048576 := by
 obtain ⟨ys, n, hx, _, hl, hf⟩ := dn_ Tryz.underlying46 (by kernel_rfl) (by kernel_rfl) h
 obtain ⟨v0, v1, v2, v3, v4, rfl⟩ := list5 hl
 obtain ⟨_, y0, hc0, hy0, ht0⟩ := hf 0 _ rfl
 obtain ⟨_, y1, hc1, hy1, ht1⟩ := hf 1 _ rfl
 obtain ⟨_, y2, hc2, hy2, ht2⟩ := hf 2 _ rfl
 obtain ⟨_, y3, hc3, hy3, ht3⟩ := hf 3 _ rfl
 obtain ⟨_, y4, hc4, hy4, ht4⟩ := hf 4 _ rfl
 obtain rfl := Option.some.inj hc0
 obtain rfl := Option.some.inj hc1
 obtain rfl := Option.some.inj hc2
 obtain rfl := Option.some.inj hc3
 obtain rfl := Option.some.inj hc4
 obtain ⟨k, rfl, h0⟩ := by_ Tryz.underlying3 ht0
 obtain ⟨hd, rfl, h1⟩ := by_ Tryz.underlying3 ht1
 obtain ⟨ep, rfl, h2⟩ := by_ Tryz.underlying3 ht2
 obtain ⟨A, c, ps, rfl, h3⟩ := qs_ ht3 (bk_ hx hb hy3)
 obtain ⟨s, rfl, h4⟩ := nq_ Tryz.underlying9 ht4 (bk_ hx hb hy4)
 exact ⟨k, hd, ep, A, c, ps, s, rfl, h0, h1, h2, h3, h4⟩
end
end Go.Proofs.YtacacoklddogmaaGreatDoor
