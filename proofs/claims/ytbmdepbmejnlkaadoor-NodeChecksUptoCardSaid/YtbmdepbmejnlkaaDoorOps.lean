/-
  Operations as plain data: their parts as cells, and what plain laws say of them (no program in sight).
-/
import Derived.Test.YtbmdepbmejnlkaaDoorBase
import Derived.Lib.RuneCount
namespace Go.Proofs.YtbmdepbmejnlkaaDoor
open Go.RowKit
structure PartD where
  kind : Int
  n : Int
  text : ByteArray
def PartD.cells (p : PartD) : List Value := [.int .i64 p.kind, .int .i64 p.n, .string p.text]
def opCells (ps : List PartD) : List Value := ps.flatMap PartD.cells
theorem opCells_length (ps : List PartD) : (opCells ps).length = ps.length * 3 := by
  induction ps with
  | nil => rfl
  | cons p ps ih =>
    simp only [opCells, List.flatMap_cons, List.length_append, List.length_cons] at ih ⊢
    rw [ih]
    simp [PartD.cells]
    omega
theorem opCells_get (ps : List PartD) : ∀ (k j : Nat) (hk : k < ps.length) (_ : j < 3), (opCells ps)[k * 3 + j]? = (ps[k].cells)[j]? := by
  induction ps with
  | nil => intro k j hk; exact absurd hk (by simp)
  | cons p ps ih =>
    intro k j hk hj
    have hl : p.cells.length = 3 := rfl
    show (p.cells ++ opCells ps)[k * 3 + j]? = _
    cases k with
    | zero =>
      rw [List.getElem?_append_left (by omega)]
      simp
    | succ k =>
      rw [List.getElem?_append_right (by omega), hl]
      rw [show (k + 1) * 3 + j - 3 = k * 3 + j by omega, ih k j (by simpa using hk) hj]
      rfl
/-- A slice of parts that reads as this operation. -/
abbrev OpIn (S : Nat → Prop) (w : World) (A : Option Addr) (ps : List PartD) : Prop := Sl S w 3 A ps.length (opCells ps)
theorem OpIn.at_ {S : Nat → Prop} {w : World} {A : Option Addr} {ps : List PartD} (h : OpIn S w A ps) {k : Nat} (hk : k < ps.length) :
    ∃ b o, A = some ⟨b, o, none⟩ ∧ S b ∧ w.cell? ⟨b, o + k * 3, none⟩ = some (.int .i64 ps[k].kind) ∧ w.cell? ⟨b, o + k * 3 + 1, none⟩ = some (.int .i64 ps[k].n) ∧ w.cell? ⟨b, o + k * 3 + 2, none⟩ = some (.string ps[k].text) := by
  obtain ⟨b, o, e, hb, hc⟩ := h.2 (by omega)
  refine ⟨b, o, e, hb, ?_, ?_, ?_⟩
  · exact hc (k * 3) _ (by rw [show k * 3 = k * 3 + 0 from rfl, opCells_get ps k 0 hk (by omega)]; rfl)
  · exact hc (k * 3 + 1) _ (by rw [opCells_get ps k 1 hk (by omega)]; rfl)
  · exact hc (k * 3 + 2) _ (by rw [opCells_get ps k 2 hk (by omega)]; rfl)

/-! ### lengths -/
def lenStep (a : Int × Int) (p : PartD) : Int × Int :=
  if p.kind = 1 then (wrap64 (a.1 + p.n), wrap64 (a.2 + p.n)) else if p.kind = 2 then (a.1, wrap64 (a.2 + Lib.runeCount p.text)) else if p.kind = 3 then (wrap64 (a.1 + p.n), a.2) else a
def lens (ps : List PartD) : Int × Int := ps.foldl lenStep (0, 0)
theorem lens_take (ps : List PartD) (k : Nat) (hk : k < ps.length) : lens (ps.take (k + 1)) = lenStep (lens (ps.take k)) ps[k] := by
  unfold lens
  rw [List.take_succ_eq_append_getElem hk, List.foldl_append]
  rfl
theorem runes_size (s : ByteArray) : ∀ (fuel pos : Nat) (acc : Array Value), (Conv.runesFrom s fuel pos acc).size = acc.size + Lib.runeCountFrom s fuel pos
  | 0, pos, acc => by simp [Conv.runesFrom, Lib.runeCountFrom]
  | fuel + 1, pos, acc => by
    unfold Conv.runesFrom Lib.runeCountFrom
    by_cases h : pos < s.size
    · simp only [h, if_true]
      rw [runes_size s fuel]
      simp
      omega
    · simp [h]
theorem runes_count (s : ByteArray) : (Conv.runesFrom s s.size 0 #[]).size = Lib.runeCount s := by rw [runes_size]; simp [Lib.runeCount]
end Go.Proofs.YtbmdepbmejnlkaaDoor
