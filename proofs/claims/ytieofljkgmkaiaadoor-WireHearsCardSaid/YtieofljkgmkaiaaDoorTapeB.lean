/-
  Contracts of tape.Sync and tape.Crash, their references, and sameTape.
-/
import Derived.Test.YtieofljkgmkaiaaDoorRows
import Derived.Test.YtieofljkgmkaiaaDoorBase
import Derived.Test.YtieofljkgmkaiaaDoorIn
import Derived.Test.YtieofljkgmkaiaaDoorTapeA
namespace Go.Proofs.YtieofljkgmkaiaaDoor
open Go.ChangeShapes Go.WideShapes Go.ChangeAt Go.RowKit
set_option maxRecDepth 100000
def RetTapeE (w : World) (bs : List UInt8) (sy er : Int) (e : Ending) (w' : World) : Prop :=
  ∃ A c, e = .returned (.tuple #[tapeV A bs.length c sy, .int .i64 er]) ∧ w'.ownsRow w.heap.size 5 1 (.slice A bs.length c) bs.length (bs.map byteV) ∧ Below w.heap.size w w'

theorem TapeMay_ok (w : World) (A : Option Addr) (c : Nat) (bs : List UInt8) (sy : Int) (h : tapeOk bs sy) :
    Calls Tryd.prog 81 #[tapeV A bs.length c sy] w fun e w' => e = .returned (.bool true) ∧ Below w.heap.size w w' := by
  obtain ⟨h1, h2, h3⟩ := h
  have e3 : decide ((bs.length : Int) ≤ 8388608) = true := by simp; omega
  go_enter Tryd.func81, Tryd.ntmps81
  go_wp2_with (go_at_call 88; refine (In_yes _ _ _ _ h1 h2).mono ?_; rintro e w' ⟨rfl, rfl⟩)
  go_ret
  exact ⟨by simp, (by repeat (first | exact Below.refl _ _ | apply bGrow | apply bAlloc | apply Below.drew | apply bDrewN | apply bIter))⟩
theorem TapeMay_no (w : World) (A : Option Addr) (c : Nat) (bs : List UInt8) (sy : Int) (h : ¬ tapeOk bs sy) :
    Calls Tryd.prog 81 #[tapeV A bs.length c sy] w fun e w' => e = .returned (.bool false) ∧ Below w.heap.size w w' := by
  by_cases h3 : bs.length ≤ 8388608
  · have h' : sy < 0 ∨ (bs.length : Int) < sy := by unfold tapeOk at h; omega
    have e3 : decide ((bs.length : Int) ≤ 8388608) = true := by simp; omega
    go_enter Tryd.func81, Tryd.ntmps81
    go_wp2_with (go_at_call 88; refine (In_no _ _ _ _ h').mono ?_; rintro e w' ⟨rfl, rfl⟩)
    go_ret
    exact ⟨by simp, (by repeat (first | exact Below.refl _ _ | apply bGrow | apply bAlloc | apply Below.drew | apply bDrewN | apply bIter))⟩
  · have e3 : decide ((bs.length : Int) ≤ 8388608) = false := by simp; omega
    go_enter Tryd.func81, Tryd.ntmps81
    go_wp2
    go_ret
    exact ⟨by simp, (by repeat (first | exact Below.refl _ _ | apply bGrow | apply bAlloc | apply Below.drew | apply bDrewN | apply bIter))⟩
theorem sameTape_c (w : World) (A A' : Option Addr) (c c' : Nat) (bs : List UInt8) (sy : Int) (hs : Sl (· < w.heap.size) w 1 A bs.length (bs.map byteV)) (hs' : Sl (· < w.heap.size) w 1 A' bs.length (bs.map byteV)) :
    Calls Tryd.prog 32 #[tapeV A bs.length c sy, tapeV A' bs.length c' sy] w fun e w' => e = .returned (.bool true) ∧ Below w.heap.size w w' := by
  have hcv : ∀ W, Below w.heap.size w W → (convert 47 9 (.slice A bs.length c)).run Tryd.prog W = .ok (.string ⟨bs.toArray⟩) W := fun W hb => run_str_of_sl W Tryd.underlying47 Tryd.underlying5 Tryd.underlying9 (hs.later hb)
  have hcv' : ∀ W, Below w.heap.size w W → (convert 47 9 (.slice A' bs.length c')).run Tryd.prog W = .ok (.string ⟨bs.toArray⟩) W := fun W hb => run_str_of_sl W Tryd.underlying47 Tryd.underlying5 Tryd.underlying9 (hs'.later hb)
  have h1 := hcv ((w.alloc (.cells #[.slice A bs.length c, .int .i64 sy] 49)).alloc (.cells #[.slice A' bs.length c', .int .i64 sy] 49)) (by repeat (first | exact Below.refl _ _ | apply bGrow | apply bAlloc | apply Below.drew | apply bDrewN | apply bIter))
  have h2 := hcv' ((w.alloc (.cells #[.slice A bs.length c, .int .i64 sy] 49)).alloc (.cells #[.slice A' bs.length c', .int .i64 sy] 49)) (by repeat (first | exact Below.refl _ _ | apply bGrow | apply bAlloc | apply Below.drew | apply bDrewN | apply bIter))
  clear hcv hcv'
  go_enter Tryd.func32, Tryd.ntmps32
  go_wp2
  go_ret
  exact ⟨by simp, (by repeat (first | exact Below.refl _ _ | apply bGrow | apply bAlloc | apply Below.drew | apply bDrewN | apply bIter))⟩
/-- A slice of slices of bytes. -/
def Bss (w : World) (A : Option Addr) (bss : List (List UInt8)) : Prop :=
  ∃ vs, Sl (· < w.heap.size) w 1 A bss.length vs ∧ ∀ i, i < bss.length → ∃ Ai ci, vs[i]? = some (.slice Ai (bss.getD i []).length ci) ∧ Sl (· < w.heap.size) w 1 Ai (bss.getD i []).length ((bss.getD i []).map byteV)
theorem flat_take (bss : List (List UInt8)) (i : Nat) (h : i < bss.length) : (bss.take (i + 1)).flatten = (bss.take i).flatten ++ bss.getD i [] := by
  rw [List.take_succ_eq_append_getElem h, List.flatten_append]
  simp [List.getD_eq_getElem?_getD, List.getElem?_eq_getElem h]
theorem flat_le (bss : List (List UInt8)) (i : Nat) : (bss.take i).flatten.length ≤ bss.flatten.length := by
  have h : bss.flatten = (bss.take i).flatten ++ (bss.drop i).flatten := by rw [← List.flatten_append, List.take_append_drop]
  rw [h]
  simp
theorem take_more (l : List UInt8) (k : Nat) (h : k < l.length) : l.take (k + 1) = l.take k ++ [l.getD k 0] := by
  rw [List.take_succ_eq_append_getElem h]
  simp [List.getD_eq_getElem?_getD, List.getElem?_eq_getElem h]
set_option maxHeartbeats 1000000 in
theorem joined_c (w : World) (A : Option Addr) (c : Nat) (bss : List (List UInt8)) (hs : Bss w A bss) (hm : bss.length ≤ 9223372036854775807) (hf : bss.flatten.length ≤ 140737488351232) :
    Calls Tryd.prog 83 #[.slice A bss.length c] w (RetBytes w bss.flatten) := by
  obtain ⟨i0, hi, hz0, hz1, hz2⟩ := info_parts infoByte
  obtain ⟨vs, hsl, hin⟩ := hs
  have HI := Lib.hid hin
  clear hin
  go_enter Tryd.func83, Tryd.ntmps83
  go_wp2
  go_loopw [3, 4, 5] (fun out i _ wr => ∃ (k : Nat) (Ao : Option Addr) (co : Nat), k ≤ bss.length ∧ i = .int .i64 k ∧ out = .slice Ao (bss.take k).flatten.length co ∧ wr.ownsRow w.heap.size 5 1 (.slice Ao (bss.take k).flatten.length co) (bss.take k).flatten.length ((bss.take k).flatten.map byteV) ∧ Below w.heap.size w wr)
    (fun _ i _ _ => bss.length - (intOf i).toNat)
  case atStart => exact ⟨0, none, 0, Nat.zero_le _, rfl, by simp, by simpa using World.ownsRow_nil _ _ _ _, Below.refl _ _⟩
  case round =>
    obtain ⟨wo, rfl⟩ : ∃ wo : World, wo = wr := ⟨_, rfl⟩
    obtain ⟨k, Ao, co, hk, rfl, rfl, hown, hbw⟩ := hrel
    by_cases hlt : k < bss.length
    · obtain ⟨Ai, ci, hvi, hsi⟩ := HI.out k hlt
      obtain ⟨b, o, rfl, hbs, hc⟩ := hsl.open_ (by omega)
      have hcx := (hbw.cell (p := ⟨b, o + k, none⟩) hbs).trans (hc k _ hvi)
      have HC := Lib.hid hc
      have HV := Lib.hid hvi
      have HT := Lib.hid (flat_take bss k hlt)
      have hle := flat_le bss (k + 1)
      rw [HT.out, List.length_append] at hle
      have hll : (bss.getD k []).length ≤ 140737488351232 := by omega
      generalize hG : bss.getD k [] = bs at *
      clear hG hc hvi
      generalize hF : (bss.take k).flatten = pre at *
      have HF := Lib.hid hF
      clear hF
      go_wp2
      go_loopw [3, 5] (fun out j wr => ∃ (q : Nat) (Ao : Option Addr) (co : Nat), q ≤ bs.length ∧ j = .int .i64 q ∧ out = .slice Ao (pre.length + q) co ∧ wr.ownsRow w.heap.size 5 1 (.slice Ao (pre.length + q) co) (pre.length + q) ((pre ++ bs.take q).map byteV) ∧ Below w.heap.size w wr)
        (fun _ j _ => bs.length - (intOf j).toNat)
      case atStart => exact ⟨0, Ao, co, Nat.zero_le _, rfl, rfl, by simpa using hown, hbw⟩
      case round =>
        obtain ⟨q, Aq, cq, hq, rfl, rfl, hownq, hbq⟩ := hrel
        have hcq := (hbq.cell (p := ⟨b, o + k, none⟩) hbs).trans (HC.out k _ HV.out)
        by_cases hqlt : q < bs.length
        · obtain ⟨b', o', rfl, hbs', hc'⟩ := hsi.open_ (by omega)
          have hcb := (hbq.cell (p := ⟨b', o' + q, none⟩) hbs').trans (hc' q _ (byteV_getD bs q hqlt))
          have HC' := Lib.hid hc'
          have hQ := take_more bs q hqlt
          obtain ⟨x, hx⟩ : ∃ x, x = bs.getD q 0 := ⟨_, rfl⟩
          rw [← hx] at hcb hQ
          have HQ := Lib.hid hQ
          clear hc' hcx hx hQ
          go_wp2_with (at_builtin; refine wpList_append_sl _ rfl _ _ 47 rfl w.heap.size 5 i0 (.int .u8 0) 1 1 Tryd.underlying47 hi hz0 hz1 hz2 rfl (by decide) _ _ _ rfl (hownq.alloc _) (fun _ => True) _ _ _ _ rfl (Sl.new wr [byteV x] 5 1 1 rfl trivial) ?c1 ?c2 ?c3 ?c4 ?_)
          case c1 => intro u hu; simp at hu; subst hu; rfl
          case c2 => unfold maxLen; omega
          case c3 => omega
          case c4 => have := hbq.size; simp; omega
          · intro A' c' w1 hown' hgrow hat
            go_wp2
            go_roundw
            case rel => exact ⟨q + 1, A', c', by omega, by go_num, rfl, by rw [HQ.out]; simpa [Nat.add_assoc] using hown', (bAlloc hbq _).grown hgrow (by have := hbq.size; simp; omega) (fun g hg => (hownq.lt g hg).1)⟩
            case measure => simp [intOf]; omega
        · obtain rfl : q = bs.length := by omega
          go_wp2
          go_roundw
          case rel => exact ⟨k + 1, Aq, cq, by omega, by go_num, by rw [HT.out, List.length_append], by rw [HT.out]; simpa using hownq, hbq⟩
          case measure => simp [intOf]; omega
    · obtain rfl : k = bss.length := by omega
      rw [List.take_length] at hown
      go_wp2
      go_ret
      exact ⟨Ao, co, by simp, hown, hbw⟩
end Go.Proofs.YtieofljkgmkaiaaDoor
