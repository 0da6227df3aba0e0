/-
  Contracts of tape.Crash, and of the references TapeSynced and TapeCrashed.
-/
import Derived.Test.YtccjmgcafifmkaaRows
import Derived.Test.YtccjmgcafifmkaaBase
import Derived.Test.YtccjmgcafifmkaaLinkA
import Derived.Test.YtccjmgcafifmkaaTapeA
import Derived.Test.YtccjmgcafifmkaaTapeB
namespace Go.Proofs.Ytccjmgcafifmkaa
open Go.ChangeShapes Go.WideShapes Go.ChangeAt Go.RowKit
set_option maxRecDepth 100000
def RetTapeR (w : World) (bs : List UInt8) (sy er : Int) (e : Ending) (w' : World) : Prop :=
  ∃ A c, e = .returned (.tuple #[tapeV A bs.length c sy, .int .i64 er]) ∧ Sl (· < w'.heap.size) w' 1 A bs.length (bs.map byteV) ∧ Below w.heap.size w w'
theorem RetTapeE.weak {w : World} {bs : List UInt8} {sy er : Int} {e : Ending} {w' : World} (h : RetTapeE w bs sy er e w') : RetTapeR w bs sy er e w' := by
  obtain ⟨A, c, h1, h2, h3⟩ := h
  exact ⟨A, c, h1, (Sl.of_own w' h2).keep (fun _ hb => hb.2) (fun _ _ => rfl), h3⟩
theorem bss_one {W : World} {A : Option Addr} {bs : List UInt8} {c : Nat} {t : TypeId} (hs : Sl (· < W.heap.size) W 1 A bs.length (bs.map byteV)) : Bss (W.alloc (.cells #[.slice A bs.length c] t)) (some ⟨W.heap.size, 0, none⟩) [bs] :=
  ⟨[.slice A bs.length c], Sl.new W _ t 1 1 rfl (by simp), fun i hi => by
    have : i = 0 := by simpa using hi
    subst this
    exact ⟨A, c, rfl, hs.later (bAlloc (Below.refl _ _) _)⟩⟩
theorem own_sl {w : World} {base : Nat} {e : TypeId} {size n c : Nat} {A : Option Addr} {xs : List Value} (h : w.ownsRow base e size (.slice A n c) n xs) : Sl (· < w.heap.size) w size A n xs :=
  (Sl.of_own w h).keep (fun _ hb => hb.2) (fun _ _ => rfl)

/-- A call that hands back these n bytes in memory of its own. -/
def RetBytesN (w : World) (n : Nat) (bs : List UInt8) (e : Ending) (w' : World) : Prop :=
  ∃ A c, e = .returned (.slice A n c) ∧ w'.ownsRow w.heap.size 5 1 (.slice A n c) n (bs.map byteV) ∧ Below w.heap.size w w'
theorem joined_one (W : World) (A B : Option Addr) (n c c' : Nat) (bs : List UInt8) (t : TypeId) (hB : B = some ⟨W.heap.size, 0, none⟩) (hn : bs.length = n) (hs : Sl (· < W.heap.size) W 1 A n (bs.map byteV)) (hm : n ≤ 8388608) :
    Calls Try.prog 28 #[.slice B 1 c'] (W.alloc (.cells #[.slice A n c] t)) (RetBytesN (W.alloc (.cells #[.slice A n c] t)) n bs) := by
  subst hB
  subst hn
  have h := joined_c (W.alloc (.cells #[.slice A bs.length c] t)) (some ⟨W.heap.size, 0, none⟩) c' [bs] (bss_one hs) (by simp) (by simp; omega)
  have h' : Calls Try.prog 28 #[.slice (some ⟨W.heap.size, 0, none⟩) 1 c'] (W.alloc (.cells #[.slice A bs.length c] t)) (RetBytes (W.alloc (.cells #[.slice A bs.length c] t)) bs) := by simpa using h
  exact h'

theorem TapeSynced_ok (w : World) (A : Option Addr) (c : Nat) (bs : List UInt8) (sy : Int) (hs : Sl (· < w.heap.size) w 1 A bs.length (bs.map byteV)) (h : tapeOk bs sy) :
    Calls Try.prog 18 #[tapeV A bs.length c sy] w (RetTapeE w bs bs.length 0) := by
  have hm : bs.length ≤ 8388608 := h.2.2
  go_enter Try.func18, Try.ntmps18
  go_wp2_with fail
  refine (TapeMay_ok _ A c bs sy h).mono ?_
  rintro e w1 ⟨rfl, hb⟩
  obtain ⟨⟨d1, os1⟩, rfl⟩ := beyond_of hb
  go_wp2_with fail
  go_region_held3 (fun w' => w'.cell? ⟨w.heap.size, 0, none⟩ = some (.slice A bs.length c) ∧ w'.cell? ⟨w.heap.size, 1, none⟩ = some (.int .i64 sy))
    (go_keep)
    ((go_at_call 28; (with_reducible refine (joined_one _ A _ _ c _ bs _ ?_ rfl ?_ hm).mono ?_); (simp); (exact (hs.later (by repeat (first | exact Below.refl _ _ | apply bGrow | apply bAlloc | apply Below.drew | apply bDrewN | apply bIter)))); rintro e w1 ⟨A', c', rfl, hown, hb2⟩; obtain ⟨⟨d2, os2⟩, rfl⟩ := beyond_of hb2))
  go_wp2
  refine bodyPost_ret (v := .tuple #[tapeV A' bs.length c' bs.length, .int .i64 0]) (by simp [results, Try.results18, go_sem]) rfl ?_
  exact ⟨A', c', rfl, (by repeat (first | exact own_swap (by simp) (by simp) (by simp) hown | exact World.ownsRow.mono hown (by simp) | refine World.ownsRow.alloc ?_ _)), (by repeat (first | exact Below.refl _ _ | apply bGrow | apply bAlloc | apply Below.drew | apply bDrewN | apply bIter))⟩
theorem TapeSynced_no (w : World) (A : Option Addr) (c : Nat) (bs : List UInt8) (sy : Int) (h : ¬ tapeOk bs sy) :
    Calls Try.prog 18 #[tapeV A bs.length c sy] w (RetTapeE w [] 0 9) := by
  go_enter Try.func18, Try.ntmps18
  go_wp2_with fail
  refine (TapeMay_no _ A c bs sy h).mono ?_
  rintro e w1 ⟨rfl, hb⟩
  obtain ⟨⟨d1, os1⟩, rfl⟩ := beyond_of hb
  go_wp2
  refine bodyPost_ret (v := .tuple #[tapeV none 0 0 0, .int .i64 9]) (by simp [results, Try.results18, go_sem]) rfl ?_
  exact ⟨none, 0, rfl, World.ownsRow_nil _ _ _ _, (by repeat (first | exact Below.refl _ _ | apply bGrow | apply bAlloc | apply Below.drew | apply bDrewN | apply bIter))⟩

/-- How many bytes stay behind a crash. -/
def crashN (bs : List UInt8) (s k : Nat) : Nat := if s + k < bs.length then s + k else bs.length
theorem crashN_le {bs : List UInt8} {s k : Nat} : crashN bs s k ≤ bs.length := by unfold crashN; split <;> omega
theorem crash_len {bs : List UInt8} {s k : Nat} : (bs.take (crashN bs s k)).length = crashN bs s k := by
  rw [List.length_take, Nat.min_eq_left crashN_le]
theorem own_cap {w : World} {base : Nat} {e : TypeId} {size n c : Nat} {A : Option Addr} {xs : List Value} (h : w.ownsRow base e size (.slice A n c) n xs) : n ≤ c ∧ c ≤ 9223372036854775807 := by
  obtain ⟨A', c', h1, h2, h3⟩ := own_form w h
  injection h1 with _ _ h4
  subst h4
  exact ⟨h2, h3⟩
theorem map_add_zero (A : Option Addr) : A.map (fun x => x.add 0) = A := by
  cases A <;> simp [Addr.add]
theorem Sl.take {S : Nat → Prop} {w : World} {A : Option Addr} {bs : List UInt8} {k : Nat} (h : Sl S w 1 A bs.length (bs.map byteV)) (hk : k ≤ bs.length) : Sl S w 1 A k ((bs.take k).map byteV) := by
  refine ⟨by simp [hk], fun hn => ?_⟩
  obtain ⟨b, o, e, hb, hc⟩ := h.2 (by omega)
  refine ⟨b, o, e, hb, fun j u hu => hc j u ?_⟩
  rw [List.map_take, List.getElem?_take] at hu
  split at hu
  · exact hu
  · cases hu

theorem Crash_ok (w : World) (A : Option Addr) (c : Nat) (bs : List UInt8) (s k : Nat) (hs : Sl (· < w.heap.size) w 1 A bs.length (bs.map byteV)) (h : tapeOk bs s) (hk : k ≤ 9223372036854775807) :
    Calls Try.prog 20 #[tapeV A bs.length c s, .int .i64 k] w (RetTapeR w (bs.take (crashN bs s k)) (crashN bs s k) 0) := by
  have h0 := h
  obtain ⟨h1, h2, h3⟩ := h
  go_enter Try.func20, Try.ntmps20
  go_wp2_with fail
  refine (open_ok _ A c bs s (hs.later (by repeat (first | exact Below.refl _ _ | apply bGrow | apply bAlloc | apply Below.drew | apply bDrewN | apply bIter))) h0).mono ?_
  rintro e w1 ⟨A', c', rfl, hown, hb⟩
  obtain ⟨⟨d1, os1⟩, rfl⟩ := beyond_of hb
  obtain ⟨hc1, hc2⟩ := own_cap hown
  by_cases hlt : s + k ≤ bs.length
  · have hN := Lib.hid (show crashN bs s k = s + k by unfold crashN; split <;> omega)
    have hlt' : (k : Int) ≤ bs.length - s := by omega
    go_wp2
    refine bodyPost_ret (v := .tuple #[tapeV A' (s + k) (s + k) ((s + k : Nat) : Int), .int .i64 0]) (by simp [results, Try.results20, go_sem]) rfl ?_
    refine ⟨A', s + k, by rw [crash_len, hN.out], ?_, (by repeat (first | exact Below.refl _ _ | apply bGrow | apply bAlloc | apply Below.drew | apply bDrewN | apply bIter))⟩
    rw [crash_len, hN.out]
    exact Sl.take (own_sl (base := w.heap.size) (e := 5) (c := c') (by repeat (first | exact own_swap (by simp) (by simp) (by simp) hown | exact World.ownsRow.mono hown (by simp) | refine World.ownsRow.alloc ?_ _))) (by omega)
  · have hN := Lib.hid (show crashN bs s k = bs.length by unfold crashN; split <;> omega)
    have hlt' : (bs.length : Int) - s < k := by omega
    have he : (s : Int) + ((bs.length : Int) - s) = bs.length := by omega
    go_wp2
    refine bodyPost_ret (v := .tuple #[tapeV A' bs.length bs.length bs.length, .int .i64 0]) (by simp [results, Try.results20, go_sem]) rfl ?_
    refine ⟨A', bs.length, by rw [crash_len, hN.out], ?_, (by repeat (first | exact Below.refl _ _ | apply bGrow | apply bAlloc | apply Below.drew | apply bDrewN | apply bIter))⟩
    rw [crash_len, hN.out]
    exact Sl.take (own_sl (base := w.heap.size) (e := 5) (c := c') (by repeat (first | exact own_swap (by simp) (by simp) (by simp) hown | exact World.ownsRow.mono hown (by simp) | refine World.ownsRow.alloc ?_ _))) (by omega)
theorem Crash_state (w : World) (A : Option Addr) (c : Nat) (bs : List UInt8) (sy keep : Int) (h : ¬ tapeOk bs sy) (hm : bs.length ≤ 140737488351232) :
    Calls Try.prog 20 #[tapeV A bs.length c sy, .int .i64 keep] w (RetTapeR w [] 0 9) := by
  go_enter Try.func20, Try.ntmps20
  go_wp2_with fail
  refine (open_no _ A c bs sy h hm).mono ?_
  rintro e w1 ⟨rfl, hb⟩
  obtain ⟨⟨d1, os1⟩, rfl⟩ := beyond_of hb
  go_wp2
  refine bodyPost_ret (v := .tuple #[tapeV none 0 0 0, .int .i64 9]) (by simp [results, Try.results20, go_sem]) rfl ?_
  exact ⟨none, 0, rfl, Sl.nil, (by repeat (first | exact Below.refl _ _ | apply bGrow | apply bAlloc | apply Below.drew | apply bDrewN | apply bIter))⟩
theorem Crash_neg (w : World) (A : Option Addr) (c : Nat) (bs : List UInt8) (sy keep : Int) (hs : Sl (· < w.heap.size) w 1 A bs.length (bs.map byteV)) (h : tapeOk bs sy) (hk : keep < 0) :
    Calls Try.prog 20 #[tapeV A bs.length c sy, .int .i64 keep] w (RetTapeR w [] 0 2) := by
  have e1 : decide (keep < 0) = true := by simpa using hk
  go_enter Try.func20, Try.ntmps20
  go_wp2_with fail
  refine (open_ok _ A c bs sy (hs.later (by repeat (first | exact Below.refl _ _ | apply bGrow | apply bAlloc | apply Below.drew | apply bDrewN | apply bIter))) h).mono ?_
  rintro e w1 ⟨A', c', rfl, hown, hb⟩
  obtain ⟨⟨d1, os1⟩, rfl⟩ := beyond_of hb
  go_wp2
  refine bodyPost_ret (v := .tuple #[tapeV none 0 0 0, .int .i64 2]) (by simp [results, Try.results20, go_sem]) rfl ?_
  exact ⟨none, 0, rfl, Sl.nil, (by repeat (first | exact Below.refl _ _ | apply bGrow | apply bAlloc | apply Below.drew | apply bDrewN | apply bIter))⟩

theorem TapeCrashed_state (w : World) (A : Option Addr) (c : Nat) (bs : List UInt8) (sy keep : Int) (h : ¬ tapeOk bs sy) :
    Calls Try.prog 21 #[tapeV A bs.length c sy, .int .i64 keep] w (RetTapeR w [] 0 9) := by
  go_enter Try.func21, Try.ntmps21
  go_wp2_with fail
  refine (TapeMay_no _ A c bs sy h).mono ?_
  rintro e w1 ⟨rfl, hb⟩
  obtain ⟨⟨d1, os1⟩, rfl⟩ := beyond_of hb
  go_wp2
  refine bodyPost_ret (v := .tuple #[tapeV none 0 0 0, .int .i64 9]) (by simp [results, Try.results21, go_sem]) rfl ?_
  exact ⟨none, 0, rfl, Sl.nil, (by repeat (first | exact Below.refl _ _ | apply bGrow | apply bAlloc | apply Below.drew | apply bDrewN | apply bIter))⟩
theorem TapeCrashed_neg (w : World) (A : Option Addr) (c : Nat) (bs : List UInt8) (sy keep : Int) (h : tapeOk bs sy) (hk : keep < 0) :
    Calls Try.prog 21 #[tapeV A bs.length c sy, .int .i64 keep] w (RetTapeR w [] 0 2) := by
  have e1 : decide (keep < 0) = true := by simpa using hk
  go_enter Try.func21, Try.ntmps21
  go_wp2_with fail
  refine (TapeMay_ok _ A c bs sy h).mono ?_
  rintro e w1 ⟨rfl, hb⟩
  obtain ⟨⟨d1, os1⟩, rfl⟩ := beyond_of hb
  go_wp2
  refine bodyPost_ret (v := .tuple #[tapeV none 0 0 0, .int .i64 2]) (by simp [results, Try.results21, go_sem]) rfl ?_
  exact ⟨none, 0, rfl, Sl.nil, (by repeat (first | exact Below.refl _ _ | apply bGrow | apply bAlloc | apply Below.drew | apply bDrewN | apply bIter))⟩
theorem TapeCrashed_ok (w : World) (A : Option Addr) (c : Nat) (bs : List UInt8) (s k : Nat) (hs : Sl (· < w.heap.size) w 1 A bs.length (bs.map byteV)) (hc1 : bs.length ≤ c) (h : tapeOk bs s) (hk : k ≤ 9223372036854775807) :
    Calls Try.prog 21 #[tapeV A bs.length c s, .int .i64 k] w (RetTapeR w (bs.take (crashN bs s k)) (crashN bs s k) 0) := by
  have h0 := h
  obtain ⟨h1, h2, h3⟩ := h
  go_enter Try.func21, Try.ntmps21
  go_wp2_with fail
  refine (TapeMay_ok _ A c bs s h0).mono ?_
  rintro e w1 ⟨rfl, hb⟩
  obtain ⟨⟨d1, os1⟩, rfl⟩ := beyond_of hb
  by_cases hlt : s + k < bs.length
  · have hN := Lib.hid (show crashN bs s k = s + k by unfold crashN; split <;> omega)
    have hlt' : (k : Int) < bs.length - s := by omega
    have hsT := hs.take (k := s + k) (by omega)
    have HT := Lib.hid (show (bs.take (s + k)).length = s + k by rw [List.length_take]; omega)
    go_wp2_with fail
    (with_reducible refine (joined_one _ A _ _ c _ (bs.take (s + k)) _ ?_ HT.out ?_ (by omega)).mono ?_)
    · simp
    · exact hsT.later (by repeat (first | exact Below.refl _ _ | apply bGrow | apply bAlloc | apply Below.drew | apply bDrewN | apply bIter))
    rintro e w1 ⟨A', c', rfl, hown, hb2⟩
    obtain ⟨⟨d2, os2⟩, rfl⟩ := beyond_of hb2
    go_wp2
    refine bodyPost_ret (v := .tuple #[tapeV A' (s + k) c' ((s + k : Nat) : Int), .int .i64 0]) (by simp [results, Try.results21, go_sem]) rfl ?_
    refine ⟨A', c', by rw [crash_len, hN.out], ?_, (by repeat (first | exact Below.refl _ _ | apply bGrow | apply bAlloc | apply Below.drew | apply bDrewN | apply bIter))⟩
    rw [crash_len, hN.out]
    exact own_sl (base := w.heap.size) (e := 5) (c := c') (by repeat (first | exact own_swap (by simp) (by simp) (by simp) hown | exact World.ownsRow.mono hown (by simp) | refine World.ownsRow.alloc ?_ _))
  · have hN := Lib.hid (show crashN bs s k = bs.length by unfold crashN; split <;> omega)
    have hlt' : (bs.length : Int) - s ≤ k := by omega
    have HT := Lib.hid (List.take_of_length_le (Nat.le_refl bs.length))
    go_wp2_with fail
    (with_reducible refine (joined_one _ A _ _ c _ bs _ ?_ rfl ?_ (by omega)).mono ?_)
    · simp
    · exact hs.later (by repeat (first | exact Below.refl _ _ | apply bGrow | apply bAlloc | apply Below.drew | apply bDrewN | apply bIter))
    rintro e w1 ⟨A', c', rfl, hown, hb2⟩
    obtain ⟨⟨d2, os2⟩, rfl⟩ := beyond_of hb2
    go_wp2
    refine bodyPost_ret (v := .tuple #[tapeV A' bs.length c' bs.length, .int .i64 0]) (by simp [results, Try.results21, go_sem]) rfl ?_
    refine ⟨A', c', by rw [crash_len, hN.out], ?_, (by repeat (first | exact Below.refl _ _ | apply bGrow | apply bAlloc | apply Below.drew | apply bDrewN | apply bIter))⟩
    rw [crash_len, hN.out, HT.out]
    exact own_sl (base := w.heap.size) (e := 5) (c := c') (by repeat (first | exact own_swap (by simp) (by simp) (by simp) hown | exact World.ownsRow.mono hown (by simp) | refine World.ownsRow.alloc ?_ _))
end Go.Proofs.Ytccjmgcafifmkaa
