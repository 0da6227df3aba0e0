/-
  What edge.Send and its reference answer, as plain data; where their blocks lie (what both walks share).
-/
import Derived.Test.YtbmdepbmejnlkaaDoorRows
import Derived.Test.YtbmdepbmejnlkaaDoorOwnEdge
import Derived.BigRegion
namespace Go.Proofs.YtbmdepbmejnlkaaDoor
open Go.ChangeShapes Go.WideShapes Go.ChangeAt Go.RowKit
set_option maxRecDepth 100000
theorem OpsOwn.set2 {w : World} {base O : Nat} {A A' : Option Addr} {c n c' : Nat} {L : List OpV} {s h : Int} {v : Value} (k : OpsOwn w base A c L) (hO : EdgeAt w O s h A' n c') : OpsOwn (w.setCell ⟨O, 2, none⟩ v) base A c L := by
  refine ⟨k.row.kept (row := some O) ⟨rfl, rfl, rfl, by simp [World.setCell], fun x _ hx => Below.heap_setCell _ _ _ _ (fun e => hx (by simp [e]))⟩ (.inr (own_apart k.row hO (by decide))), fun o ho => ⟨(k.each o ho).1, fun h0 => ?_⟩⟩
  obtain ⟨b, p, e, hb, hc⟩ := (k.each o ho).2 h0
  have hne : b ≠ O := fun e1 => by
    subst e1
    have h2 := hc 2 _ (by rw [show 2 = 0 * 3 + 2 from rfl, opCells_get o.ps 0 2 h0 (by omega)]; rfl)
    simp only [World.cell?, hO] at h2
    have hp : p = 0 := by
      rcases Nat.eq_zero_or_pos p with h | h
      · exact h
      · rw [Array.getElem?_eq_none (by simp; omega)] at h2
        cases h2
    subst hp
    cases h2
  exact ⟨b, p, e, ⟨⟨hb.1.1, by simpa [World.setCell] using hb.1.2⟩, hb.2⟩, fun j u hu => (World.cell?_of_block (w := w) (a := ⟨b, p + j, none⟩) (Below.heap_setCell _ _ _ _ hne)).trans (hc j u hu)⟩
theorem sent_end {w G : World} {base R n c' : Nat} {s h : Int} {A' : Option Addr} {L4 : List OpV} (hRB : w.heap.size < R) (hb : R < base) (hR : EdgeAt G R 0 0 none 0 0) (hO : OpsOwn G base A' c' L4) (hF : Below w.heap.size w G) :
    EdgeAt (((G.setCell ⟨R, 0, none⟩ (.int .i64 s)).setCell ⟨R, 1, none⟩ (.int .i64 h)).setCell ⟨R, 2, none⟩ (.slice A' n c')) R s h A' n c' ∧
    OpsOwn (((G.setCell ⟨R, 0, none⟩ (.int .i64 s)).setCell ⟨R, 1, none⟩ (.int .i64 h)).setCell ⟨R, 2, none⟩ (.slice A' n c')) base A' c' L4 ∧
    Below w.heap.size w (((G.setCell ⟨R, 0, none⟩ (.int .i64 s)).setCell ⟨R, 1, none⟩ (.int .i64 h)).setCell ⟨R, 2, none⟩ (.slice A' n c')) :=
  ⟨three_set2 (three_set1 (three_set0 hR)), hO.kept (by simp [World.setCell]) (fun g hg _ => (Below.heap_setCell _ _ _ _ (by show g ≠ R; omega)).trans ((Below.heap_setCell _ _ _ _ (by show g ≠ R; omega)).trans (Below.heap_setCell _ _ _ _ (by show g ≠ R; omega)))),
    bSet (bSet (bSet hF (p := ⟨R, 0, none⟩) (Nat.le_of_lt hRB) _) (p := ⟨R, 1, none⟩) (Nat.le_of_lt hRB) _) (p := ⟨R, 2, none⟩) (Nat.le_of_lt hRB) _⟩
/-- The blocks of the edge that came and of the edge that goes. -/
structure SendAt (w W : World) (R : Nat) (s h : Int) (A : Option Addr) (n c : Nat) : Prop where
  e : EdgeAt W w.heap.size s h A n c
  r : EdgeAt W R 0 0 none 0 0
  b : Below w.heap.size w W
theorem SendAt.later {w W W' : World} {R : Nat} {s h : Int} {A : Option Addr} {n c : Nat} (k : SendAt w W R s h A n c) (hb : Below W.heap.size W W') : SendAt w W' R s h A n c :=
  ⟨(hb.block _ (three_cell k.e).2.2.2.2.2.2).trans k.e, (hb.block _ (three_cell k.r).2.2.2.2.2.2).trans k.r, bThen k.b hb⟩
theorem last_at {w : World} {A : Option Addr} {L : List OpV} {o : OpV} (h : OpsIn w A L) (hl : L.getLast? = some o) :
    ∃ b k, A = some ⟨b, k, none⟩ ∧ b < w.heap.size ∧ w.cell? ⟨b, k + (L.length - 1), none⟩ = some o.val ∧ OpIn (· < w.heap.size) w o.A o.ps := by
  have hp : L.length ≠ 0 := fun e => by
    rw [List.eq_nil_of_length_eq_zero e] at hl
    cases hl
  obtain ⟨b, k, e, hb, hc, ho⟩ := h.at_ (k := L.length - 1) (by omega)
  rw [List.getLast?_eq_getElem?, List.getElem?_eq_getElem (by omega)] at hl
  obtain rfl := Option.some.inj hl
  exact ⟨b, k, e, hb, hc, ho⟩
theorem last_pos {L : List OpV} {o : OpV} (hl : L.getLast? = some o) : 0 < L.length := by
  cases L with
  | nil => cases hl
  | cons => simp
/-- Does the last operation wait for another length? -/
def badLast (L : List OpV) (ps : List PartD) : Bool :=
  match L.getLast? with
  | none => false
  | some o => decide ((lens ps).1 ≠ (lens o.ps).2)
/-- What Send answers beside the edge. -/
def sendErr (s h : Int) (L : List OpV) (ps : List PartD) : Int :=
  if ¬ edgeMay s h L then 9 else if opFault ps ≠ 0 then opFault ps else if badLast L ps = true then 10 else if s = 1048576 then 8 else 0
/-- A call that hands back an edge with one operation more, or none and an error. -/
def RetSent (w : World) (s h : Int) (L : List OpV) (ps : List PartD) (er : Int) (e : Ending) (w' : World) : Prop :=
  (er ≠ 0 → e = .returned (.tuple #[edgeV 0 0 none 0 0, .int .i64 er]) ∧ Below w.heap.size w w') ∧
  (er = 0 → ∃ A' c' L', e = .returned (.tuple #[edgeV (s + 1) h A' L'.length c', .int .i64 0]) ∧ L'.map OpV.ps = L.map OpV.ps ++ [ps] ∧ OpsOwn w' w.heap.size A' c' L' ∧ Below w.heap.size w w')
end Go.Proofs.YtbmdepbmejnlkaaDoor
