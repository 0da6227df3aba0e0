/-
  Contracts of slices.Grow (of no slice) and slices.Concat of bytes.
-/
import Derived.Test.YtiooimnlkcpnnaaDoorRows
import Derived.Test.YtiooimnlkcpnnaaDoorTapeC
namespace Go.Proofs.YtiooimnlkcpnnaaDoor
open Go.ChangeShapes Go.WideShapes Go.ChangeAt Go.RowKit
set_option maxRecDepth 100000
theorem Grow_0 (w : World) : Calls Tryd.prog 147 #[.slice none 0 0, .int .i64 0] w fun e w' => e = .returned (.slice none 0 0) ∧ Below w.heap.size w w' := by
  go_enter Tryd.func147, Tryd.ntmps147
  go_wp2
  go_ret
  exact ⟨rfl, Below.refl _ _⟩
theorem Grow_n (w : World) (n : Nat) (h0 : 0 < n) (h1 : n ≤ 140737488351232) : Calls Tryd.prog 147 #[.slice none 0 0, .int .i64 n] w fun e w' => ∃ A c, e = .returned (.slice A 0 c) ∧ w'.ownsRow w.heap.size 5 1 (.slice A 0 c) 0 [] ∧ Below w.heap.size w w' := by
  obtain ⟨i0, hi, hz0, hz1, hz2⟩ := info_parts infoByte
  have e0 : decide ((n : Int) < 0) = false := by simp
  have e1 : decide ((0 : Int) < (n : Int)) = true := by simp; omega
  go_enter Tryd.func147, Tryd.ntmps147
  have hb : (Tryd.t5).bytes = 1 := by kernel_rfl
  have hfit : Builtin.nextslicecap n 0 * 1 ≤ 281474976710656 := growslice_fits h0 (by omega)
  go_wp2_with fail
  · go_ret
    refine ⟨some ⟨w.heap.size, 0, none⟩, grownCap w n 0 5, rfl, ?_, (bAlloc (Below.refl _ _) _).drew⟩
    refine World.ownsRow.drew (World.ownsRow_made w _ (grownCap w n 0 5) (Nat.le_refl _) (grownCap_le_maxLen w n 0 5 (by unfold maxLen; omega)) ?_)
    have := grownCap_ge w n 0 5
    show (Builtin.zeroCells _ n ++ Builtin.zeroCells _ (grownCap w n 0 5 - n)).size = _
    simp [Builtin.zeroCells]
    omega
/-- How many bytes the first k have. -/
def lenTo (bss : List (List UInt8)) (k : Nat) : Nat := (bss.take k).flatten.length
set_option maxHeartbeats 1000000 in
theorem Concat_c (w : World) (A : Option Addr) (c : Nat) (bss : List (List UInt8)) (hs : Bss w A bss) (hm : bss.length ≤ 1000000) (hf : bss.flatten.length ≤ 140737488351232) :
    Calls Tryd.prog 104 #[.slice A bss.length c] w (RetBytes w bss.flatten) := by
  obtain ⟨i0, hi, hz0, hz1, hz2⟩ := info_parts infoByte
  obtain ⟨vs, hsl, hin⟩ := hs
  have HI := Lib.hid hin
  obtain ⟨N, hN⟩ : ∃ N, N = bss.flatten.length := ⟨_, rfl⟩
  have hG : ∀ W, Calls Tryd.prog 147 #[.slice none 0 0, .int .i64 (N : Nat)] W fun e w' => ∃ A c, e = .returned (.slice A 0 c) ∧ w'.ownsRow W.heap.size 5 1 (.slice A 0 c) 0 [] ∧ Below W.heap.size W w' := by
    intro W
    rcases Nat.eq_zero_or_pos N with z | z
    · rw [z]
      exact (Grow_0 W).mono fun e w' ⟨h1, h2⟩ => ⟨none, 0, h1, World.ownsRow_nil _ _ _ _, h2⟩
    · exact Grow_n W _ z (by omega)
  have HN := Lib.hid (show lenTo bss bss.length = N by unfold lenTo; rw [List.take_length, hN])
  have HN2 := Lib.hid (show bss.flatten.length = N from hN.symm)
  have hN2 : N ≤ 140737488351232 := by omega
  have HG := Lib.hid hG
  clear hin hG
  have HF := Lib.hid (show ∀ k, lenTo bss k ≤ N from fun k => by have := flat_le bss k; unfold lenTo; omega)
  clear hf hN
  go_enter Tryd.func104, Tryd.ntmps104
  go_wp2_with fail
  go_loopw [3, 11] (fun z i wr => ∃ k : Nat, k ≤ bss.length ∧ i = .int .i64 k ∧ z = .int .i64 (lenTo bss k : Nat) ∧ w = wr) (fun _ i _ => bss.length - (intOf i).toNat)
  case atStart => exact ⟨0, Nat.zero_le _, rfl, rfl, rfl⟩
  case round =>
    obtain ⟨k, hk, rfl, rfl, rfl⟩ := hrel
    by_cases hlt : k < bss.length
    · obtain ⟨Ai, ci, hvi, hsi⟩ := HI.out k hlt
      obtain ⟨b, o, rfl, hbs, hc⟩ := hsl.open_ (by omega)
      have hcx := hc k _ hvi
      have hle := HF.out (k + 1)
      have hT : lenTo bss (k + 1) = lenTo bss k + (bss.getD k []).length := by unfold lenTo; rw [flat_take bss k hlt, List.length_append]
      rw [hT] at hle
      have HQ := Lib.hid hT
      clear hT
      generalize bss.getD k [] = bs at *
      generalize lenTo bss k = pl at *
      have e5 : decide ((pl : Int) + (bs.length : Int) < 0) = false := by simp; omega
      have hsum : (pl : Int) + bs.length ≤ 9223372036854775807 := by omega
      clear hc hvi hsi
      go_wp2_with fail
      all_goals
        go_roundw
        case rel => exact ⟨k + 1, by omega, by go_num, by rw [HQ.out]; rfl, by trivial⟩
        case measure => simp [intOf]; omega
    · obtain rfl : k = bss.length := by omega
      rw [HN.out]
      go_wp2_with fail
      refine (HG.out _).mono ?_
      rintro e w1 ⟨A1, c1, rfl, ho1, hb1⟩
      go_wp2_with fail
      have HO1 := Lib.hid ho1
      clear ho1
      go_loopw [6, 27] (fun ns i wr => ∃ (k : Nat) (Ao : Option Addr) (co : Nat), k ≤ bss.length ∧ i = .int .i64 k ∧ ns = .slice Ao (lenTo bss k) co ∧ wr.ownsRow w.heap.size 5 1 (.slice Ao (lenTo bss k) co) (lenTo bss k) ((bss.take k).flatten.map byteV) ∧ Below w.heap.size w wr) (fun _ i _ => bss.length - (intOf i).toNat)
      case atStart => exact ⟨0, A1, c1, Nat.zero_le _, rfl, rfl, HO1.out, hb1⟩
      case round =>
        obtain ⟨k, Ao, co, hk, rfl, rfl, hown, hbw⟩ := hrel
        by_cases hlt : k < bss.length
        · obtain ⟨Ai, ci, hvi, hsi⟩ := HI.out k hlt
          obtain ⟨b, o, rfl, hbs, hc⟩ := hsl.open_ (by omega)
          have hcx := (hbw.cell (p := ⟨b, o + k, none⟩) hbs).trans (hc k _ hvi)
          have hle := HF.out (k + 1)
          have hT : lenTo bss (k + 1) = lenTo bss k + (bss.getD k []).length := by unfold lenTo; rw [flat_take bss k hlt, List.length_append]
          have hT2 : (bss.take (k + 1)).flatten.map byteV = (bss.take k).flatten.map byteV ++ (bss.getD k []).map byteV := by rw [flat_take bss k hlt, List.map_append]
          rw [hT] at hle
          have HQ := Lib.hid hT
          have HQ2 := Lib.hid hT2
          clear hT hT2
          generalize bss.getD k [] = bs at *
          generalize lenTo bss k = pl at *
          generalize (bss.take k).flatten.map byteV = xs at *
          have HO := Lib.hid hown
          have HS := Lib.hid (Sl.later hsi hbw)
          clear hc hvi hsi hown
          go_wp2_with (at_builtin; refine wpList_append_sl _ rfl _ _ 59 rfl w.heap.size 5 i0 (.int .u8 0) 1 1 Tryd.underlying59 hi hz0 hz1 hz2 rfl (by decide) _ _ _ rfl HO.out _ _ _ _ _ rfl HS.out (byteV_one bs) ?c1 ?c2 ?c3 ?_)
          case c1 => unfold maxLen; omega
          case c2 => omega
          case c3 => exact hbw.size
          intro A' c' w2 hown' hgrow hat
          go_wp2_with fail
          go_roundw
          case rel => exact ⟨k + 1, A', c', by omega, by go_num, by rw [HQ.out], by rw [HQ.out, HQ2.out]; exact hown', hbw.grown hgrow hbw.size (fun g hg => (HO.out.lt g hg).1)⟩
          case measure => simp [intOf]; omega
        · obtain rfl : k = bss.length := by omega
          rw [HN.out, List.take_length] at hown
          go_wp2_with fail
          go_ret
          rw [HN.out]
          exact ⟨Ao, co, by rw [HN2.out]; rfl, by rw [HN2.out]; exact hown, hbw⟩
end Go.Proofs.YtiooimnlkcpnnaaDoor
