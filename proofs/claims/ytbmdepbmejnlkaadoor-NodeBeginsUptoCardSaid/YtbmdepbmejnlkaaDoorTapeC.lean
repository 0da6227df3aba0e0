/-
  Contracts of tape.Crash, and of the references TapeSynced and TapeCrashed.
-/
import Derived.Test.YtbmdepbmejnlkaaDoorRows
import Derived.Test.YtbmdepbmejnlkaaDoorBA
import Derived.Test.YtbmdepbmejnlkaaDoorTapeA
import Derived.Test.YtbmdepbmejnlkaaDoorTapeB
namespace Go.Proofs.YtbmdepbmejnlkaaDoor
open Go.ChangeShapes Go.WideShapes Go.ChangeAt Go.RowKit
set_option maxRecDepth 100000
def RetTapeR (w : World) (bs : List UInt8) (sy er : Int) (e : Ending) (w' : World) : Prop :=
  ∃ A c, e = .returned (.tuple #[tapeV A bs.length c sy, .int .i64 er]) ∧ Sl (· < w'.heap.size) w' 1 A bs.length (bs.map byteV) ∧ Below w.heap.size w w'
theorem RetTapeE.weak {w : World} {bs : List UInt8} {sy er : Int} {e : Ending} {w' : World} (h : RetTapeE w bs sy er e w') : RetTapeR w bs sy er e w' := by
  obtain ⟨A, c, h1, h2, h3⟩ := h
  exact ⟨A, c, h1, (Sl.of_own w' h2).keep (fun _ hb => hb.2) (fun _ _ => rfl), h3⟩
theorem bss_one {W : World} {A : Option Addr} {bs : List UInt8} {c : Nat} {t : TypeId} (hs : Sl (· < W.heap.size) W 1 A bs.length (bs.map byteV)) : Bss (W.alloc (.cells #[.slice A bs.length c] t)) (some ⟨W.heap.size, 0, none⟩) [bs] :=
  ⟨[.slice A bs.length c], Sl.new W _ t 1 1 rfl (by simp), fun i hi => by
    have : i = 0 := by simpa using hi
    subst this
    exact ⟨A, c, rfl, hs.later (bAlloc (Below.refl _ _) _)⟩⟩
theorem own_sl {w : World} {base : Nat} {e : TypeId} {size n c : Nat} {A : Option Addr} {xs : List Value} (h : w.ownsRow base e size (.slice A n c) n xs) : Sl (· < w.heap.size) w size A n xs :=
  (Sl.of_own w h).keep (fun _ hb => hb.2) (fun _ _ => rfl)

/-- A call that hands back these n bytes in memory of its own. -/
def RetBytesN (w : World) (n : Nat) (bs : List UInt8) (e : Ending) (w' : World) : Prop :=
  ∃ A c, e = .returned (.slice A n c) ∧ w'.ownsRow w.heap.size 5 1 (.slice A n c) n (bs.map byteV) ∧ Below w.heap.size w w'
/-- How many bytes stay behind a crash. -/
def crashN (bs : List UInt8) (s k : Nat) : Nat := if s + k < bs.length then s + k else bs.length
theorem crashN_le {bs : List UInt8} {s k : Nat} : crashN bs s k ≤ bs.length := by unfold crashN; split <;> omega
theorem crash_len {bs : List UInt8} {s k : Nat} : (bs.take (crashN bs s k)).length = crashN bs s k := by
  rw [List.length_take, Nat.min_eq_left crashN_le]
theorem own_cap {w : World} {base : Nat} {e : TypeId} {size n c : Nat} {A : Option Addr} {xs : List Value} (h : w.ownsRow base e size (.slice A n c) n xs) : n ≤ c ∧ c ≤ 9223372036854775807 := by
  obtain ⟨A', c', h1, h2, h3⟩ := own_form w h
  injection h1 with _ _ h4
  subst h4
  exact ⟨h2, h3⟩
theorem map_add_zero (A : Option Addr) : A.map (fun x => x.add 0) = A := by
  cases A <;> simp [Addr.add]
theorem Sl.take {S : Nat → Prop} {w : World} {A : Option Addr} {bs : List UInt8} {k : Nat} (h : Sl S w 1 A bs.length (bs.map byteV)) (hk : k ≤ bs.length) : Sl S w 1 A k ((bs.take k).map byteV) := by
  refine ⟨by simp [hk], fun hn => ?_⟩
  obtain ⟨b, o, e, hb, hc⟩ := h.2 (by omega)
  refine ⟨b, o, e, hb, fun j u hu => hc j u ?_⟩
  rw [List.map_take, List.getElem?_take] at hu
  split at hu
  · exact hu
  · cases hu

end Go.Proofs.YtbmdepbmejnlkaaDoor
