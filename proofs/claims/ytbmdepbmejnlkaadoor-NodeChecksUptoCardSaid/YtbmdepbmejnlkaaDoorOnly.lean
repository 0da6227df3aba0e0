/-
  What a method leaves that writes one block alone; a block of two cells (no program in sight).
-/
import Derived.Test.YtbmdepbmejnlkaaDoorBuf
namespace Go.Proofs.YtbmdepbmejnlkaaDoor
open Go.ChangeShapes Go.WideShapes Go.ChangeAt Go.RowKit
/-- Of what was there at most block B has turned. -/
structure Only (B : Nat) (w w' : World) : Prop where
  os : w'.os = w.os
  tape : w'.tape = w.tape
  output : w'.output = w.output
  size : w.heap.size ≤ w'.heap.size
  block : ∀ k, k < w.heap.size → k ≠ B → w'.heap[k]? = w.heap[k]?
theorem Only.refl (B : Nat) (w : World) : Only B w w := ⟨rfl, rfl, rfl, Nat.le_refl _, fun _ _ _ => rfl⟩
theorem Only.trans {B : Nat} {w w1 w2 : World} (h : Only B w w1) (k : Only B w1 w2) : Only B w w2 :=
  ⟨k.os.trans h.os, k.tape.trans h.tape, k.output.trans h.output, Nat.le_trans h.size k.size, fun x hx hb => (k.block x (Nat.lt_of_lt_of_le hx h.size) hb).trans (h.block x hx hb)⟩
theorem Only.of_below {B : Nat} {w w' : World} (h : Below w.heap.size w w') : Only B w w' := ⟨h.os, h.tape, h.output, h.size, fun k hk _ => h.block k hk⟩
theorem Only.set {B : Nat} (w : World) (j : Nat) (v : Value) : Only B w (w.setCell ⟨B, j, none⟩ v) :=
  ⟨rfl, rfl, rfl, by simp [World.setCell], fun _ _ hb => Below.heap_setCell _ _ _ _ hb⟩
theorem Only.below {B base : Nat} {w w' : World} (h : Only B w w') (hB : base ≤ B) (hb : base ≤ w.heap.size) : Below base w w' :=
  ⟨h.os, h.tape, h.output, h.size, fun x hx => h.block x (by omega) (by omega)⟩
theorem Only.cell {B : Nat} {w w' : World} (h : Only B w w') {k j : Nat} (hk : k < w.heap.size) (hB : k ≠ B) : w'.cell? ⟨k, j, none⟩ = w.cell? ⟨k, j, none⟩ :=
  World.cell?_of_block (w := w) (a := ⟨k, j, none⟩) (h.block k hk hB)
theorem two_cell {w : World} {B : Nat} {v u : Value} {t : TypeId} (h : w.heap[B]? = some (.cells #[v, u] t (0, 0))) :
    w.cell? ⟨B, 0, none⟩ = some v ∧ w.cell? ⟨B, 1, none⟩ = some u ∧ w.frozen? ⟨B, 0, none⟩ = false ∧ w.frozen? ⟨B, 1, none⟩ = false ∧ B < w.heap.size :=
  ⟨by simp [World.cell?, h], by simp [World.cell?, h], by simp [World.frozen?, h], by simp [World.frozen?, h], (Array.getElem?_eq_some_iff.1 h).1⟩
theorem two_set0 {w : World} {B : Nat} {v u x : Value} {t : TypeId} (h : w.heap[B]? = some (.cells #[v, u] t (0, 0))) : (w.setCell ⟨B, 0, none⟩ x).heap[B]? = some (.cells #[x, u] t (0, 0)) := by
  rw [heap_setCell_same w B 0 _ _ _ h]
  rfl
theorem two_set1 {w : World} {B : Nat} {v u x : Value} {t : TypeId} (h : w.heap[B]? = some (.cells #[v, u] t (0, 0))) : (w.setCell ⟨B, 1, none⟩ x).heap[B]? = some (.cells #[v, x] t (0, 0)) := by
  rw [heap_setCell_same w B 1 _ _ _ h]
  rfl
theorem three_cell {w : World} {B : Nat} {v u z : Value} {t : TypeId} (h : w.heap[B]? = some (.cells #[v, u, z] t (0, 0))) :
    w.cell? ⟨B, 0, none⟩ = some v ∧ w.cell? ⟨B, 1, none⟩ = some u ∧ w.cell? ⟨B, 2, none⟩ = some z ∧ w.frozen? ⟨B, 0, none⟩ = false ∧ w.frozen? ⟨B, 1, none⟩ = false ∧ w.frozen? ⟨B, 2, none⟩ = false ∧ B < w.heap.size :=
  ⟨by simp [World.cell?, h], by simp [World.cell?, h], by simp [World.cell?, h], by simp [World.frozen?, h], by simp [World.frozen?, h], by simp [World.frozen?, h], (Array.getElem?_eq_some_iff.1 h).1⟩
theorem three_set1 {w : World} {B : Nat} {v u z x : Value} {t : TypeId} (h : w.heap[B]? = some (.cells #[v, u, z] t (0, 0))) : (w.setCell ⟨B, 1, none⟩ x).heap[B]? = some (.cells #[v, x, z] t (0, 0)) := by
  rw [heap_setCell_same w B 1 _ _ _ h]
  rfl
theorem three_set2 {w : World} {B : Nat} {v u z x : Value} {t : TypeId} (h : w.heap[B]? = some (.cells #[v, u, z] t (0, 0))) : (w.setCell ⟨B, 2, none⟩ x).heap[B]? = some (.cells #[v, u, x] t (0, 0)) := by
  rw [heap_setCell_same w B 2 _ _ _ h]
  rfl
theorem Sl.drop {S : Nat → Prop} {w : World} {A : Option Addr} {bs : List UInt8} {k : Nat} (h : Sl S w 1 A bs.length (bs.map byteV)) (hk : k ≤ bs.length) : Sl S w 1 (A.map (fun x => x.add k)) (bs.drop k).length ((bs.drop k).map byteV) := by
  refine ⟨by simp, fun hn => ?_⟩
  obtain ⟨b, o, e, hb, hc⟩ := h.2 (by simp at hn; omega)
  subst e
  refine ⟨b, o + k, by simp [Addr.add], hb, fun j u hu => ?_⟩
  have := hc (k + j) u (by rw [List.map_drop, List.getElem?_drop] at hu; exact hu)
  rwa [← Nat.add_assoc] at this
end Go.Proofs.YtbmdepbmejnlkaaDoor
