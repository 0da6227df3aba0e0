/-
  The builder of an operation: what its cells hold, and the contracts of its methods last, remove, insert.
-/
import Derived.Test.YtbmdepbmejnlkaaDoorRows
import Derived.Test.YtbmdepbmejnlkaaDoorBA
import Derived.Laws.OwnMore
namespace Go.Proofs.YtbmdepbmejnlkaaDoor
open Go.ChangeShapes Go.WideShapes Go.ChangeAt Go.RowKit
set_option maxRecDepth 100000
/-- What has turned between two worlds: at most the block B and the row R. -/
structure Turned (w w' : World) (B : Nat) (R : Option Nat) : Prop where
  os : w'.os = w.os
  tape : w'.tape = w.tape
  output : w'.output = w.output
  size : w.heap.size ≤ w'.heap.size
  block : ∀ k, k < w.heap.size → k ≠ B → some k ≠ R → w'.heap[k]? = w.heap[k]?
theorem Turned.refl (w : World) (B : Nat) (R : Option Nat) : Turned w w B R := ⟨rfl, rfl, rfl, Nat.le_refl _, fun _ _ _ _ => rfl⟩
theorem Turned.trans {w w1 w2 : World} {B : Nat} {R R1 : Option Nat} (h : Turned w w1 B R) (k : Turned w1 w2 B R1) (hR : R1 = R ∨ ∀ x, R1 = some x → w.heap.size ≤ x) : Turned w w2 B R :=
  ⟨k.os.trans h.os, k.tape.trans h.tape, k.output.trans h.output, Nat.le_trans h.size k.size, fun x hx hb hr => (k.block x (Nat.lt_of_lt_of_le hx h.size) hb (by
    rcases hR with rfl | hR
    · exact hr
    · intro e
      have := hR x e.symm
      omega)).trans (h.block x hx hb hr)⟩
theorem Turned.of_below {w w' : World} {B : Nat} {R : Option Nat} (h : Below w.heap.size w w') : Turned w w' B R := ⟨h.os, h.tape, h.output, h.size, fun x hx _ _ => h.block x hx⟩
theorem Turned.of_grown {w w' : World} {B : Nat} {R : Option Nat} (h : w.grownBy w' R) : Turned w w' B R := ⟨h.os, h.tape, h.output, h.size, fun x hx _ hr => h.block x hx hr⟩
theorem Turned.of_set (w : World) (B o : Nat) (u : Value) (R : Option Nat) : Turned w (w.setCell ⟨B, o, none⟩ u) B R :=
  ⟨rfl, rfl, rfl, by simp [World.setCell], fun _ _ hb _ => Below.heap_setCell _ _ _ _ hb⟩
theorem Turned.below {w w' : World} {B base : Nat} {R : Option Nat} (h : Turned w w' B R) (hB : base ≤ B) (hR : ∀ x, R = some x → base ≤ x) (hb : base ≤ w.heap.size) : Below base w w' :=
  ⟨h.os, h.tape, h.output, h.size, fun x hx => h.block x (by omega) (by omega) (fun e => by have := hR x e.symm; omega)⟩
/-- The builder in block B holds the parts whose list, from the last one, is rs. -/
structure Bld (w : World) (base B : Nat) (A : Option Addr) (c : Nat) (rs : List PartD) : Prop where
  lo : base ≤ B
  obj : w.heap[B]? = some (.cells #[.slice A rs.length c] 129 (0, 0))
  row : w.ownsRow base 90 3 (.slice A rs.length c) rs.length (opCells rs.reverse)
  apart : (Value.slice A rs.length c).ownBlock ≠ some B
theorem opCells_snoc (rs : List PartD) (p : PartD) : opCells (rs ++ [p]) = opCells rs ++ p.cells := by simp [opCells]
theorem Bld.lt {w : World} {base B : Nat} {A : Option Addr} {c : Nat} {rs : List PartD} (h : Bld w base B A c rs) : B < w.heap.size := (Array.getElem?_eq_some_iff.1 h.obj).1
theorem Bld.cell {w : World} {base B : Nat} {A : Option Addr} {c : Nat} {rs : List PartD} (h : Bld w base B A c rs) : w.cell? ⟨B, 0, none⟩ = some (.slice A rs.length c) := by
  simp [World.cell?, h.obj]
theorem Bld.frozen {w : World} {base B : Nat} {A : Option Addr} {c : Nat} {rs : List PartD} (h : Bld w base B A c rs) : w.frozen? ⟨B, 0, none⟩ = false := by
  simp [World.frozen?, h.obj]
/-- What is behind the last one's beginning. -/
theorem Bld.last {w : World} {base B : Nat} {A : Option Addr} {c : Nat} {p : PartD} {rs : List PartD} (h : Bld w base B A c (p :: rs)) :
    ∃ g, A = some ⟨g, 0, none⟩ ∧ base ≤ g ∧ g < w.heap.size ∧ g ≠ B ∧ rs.length + 1 ≤ c ∧ c ≤ maxLen ∧ w.cell? ⟨g, rs.length * 3, none⟩ = some (.int .i64 p.kind) ∧ w.cell? ⟨g, rs.length * 3 + 1, none⟩ = some (.int .i64 p.n) ∧ w.cell? ⟨g, rs.length * 3 + 2, none⟩ = some (.string p.text) ∧
      ∀ j, w.frozen? ⟨g, j, none⟩ = false := by
  rcases h.row.2 with ⟨_, h0⟩ | ⟨g, cap, cur, hv, hb, hg, h1, h2, h3, h4⟩
  · simp at h0
  · simp only [Value.slice.injEq, true_and] at hv
    obtain ⟨rfl, rfl⟩ := hv
    have hc : ∀ j, j < 3 → w.cell? ⟨g, rs.length * 3 + j, none⟩ = p.cells[j]? := by
      intro j hj
      have hl : rs.length * 3 + j < (p :: rs).length * 3 := by simp; omega
      rw [h.row.cellAt _ hl, List.reverse_cons, opCells_snoc, List.getElem?_append_right (by rw [opCells_length]; simp)]
      congr 1
      rw [opCells_length]
      simp
    refine ⟨g, rfl, hb, (Array.getElem?_eq_some_iff.1 hg).1, fun e => h.apart (by simp [Value.ownBlock, e]), by simpa using h1, h2, hc 0 (by omega), hc 1 (by omega), hc 2 (by omega), fun j => h.row.frozenAt j⟩
/-- The last part with another number or text. -/
theorem Bld.stored {w : World} {base B g : Nat} {c : Nat} {p q : PartD} {rs : List PartD} (h : Bld w base B (some ⟨g, 0, none⟩) c (p :: rs)) (j : Nat) (u : Value) (hq : p.cells.set j u = q.cells) :
    Bld (w.setCell ⟨g, rs.length * 3 + j, none⟩ u) base B (some ⟨g, 0, none⟩) c (q :: rs) ∧ Turned w (w.setCell ⟨g, rs.length * 3 + j, none⟩ u) B (some g) := by
  obtain ⟨h1, h2⟩ := h.row.stored (rs.length * 3 + j) u
  refine ⟨⟨h.lo, ?_, ?_, h.apart⟩, Turned.of_grown h2⟩
  · have hne : B ≠ g := fun e => h.apart (by simp [Value.ownBlock, e])
    exact (Below.heap_setCell w ⟨g, rs.length * 3 + j, none⟩ u B hne).trans h.obj
  · have e : (opCells (p :: rs).reverse).set (rs.length * 3 + j) u = opCells (q :: rs).reverse := by
      rw [List.reverse_cons, List.reverse_cons, opCells_snoc, opCells_snoc, List.set_append_right _ _ (by rw [opCells_length]; simp), opCells_length, List.length_reverse, Nat.add_sub_cancel_left, hq]
    rw [e] at h1
    exact h1
/-- The builder's own cell is written. -/
theorem Bld.put {w : World} {base B : Nat} {A A' : Option Addr} {c c' : Nat} {rs qs : List PartD} (hlo : base ≤ B) (hobj : w.heap[B]? = some (.cells #[.slice A rs.length c] 129 (0, 0)))
    (hrow : w.ownsRow base 90 3 (.slice A' qs.length c') qs.length (opCells qs.reverse)) (hap : (Value.slice A' qs.length c').ownBlock ≠ some B) :
    Bld (w.setCell ⟨B, 0, none⟩ (.slice A' qs.length c')) base B A' c' qs := by
  refine ⟨hlo, ?_, ?_, hap⟩
  · rw [heap_setCell_same w B 0 _ _ _ hobj]
    rfl
  · refine hrow.kept (row := some B) ⟨rfl, rfl, rfl, by simp [World.setCell], fun x _ hx => Below.heap_setCell _ _ _ _ (fun e => hx (by simp [e]))⟩ (.inr ?_)
    exact hap
/-- The row without its last part. -/
theorem Bld.shorter {w : World} {base B : Nat} {A : Option Addr} {c : Nat} {p : PartD} {rs : List PartD} (h : Bld w base B A c (p :: rs)) : w.ownsRow base 90 3 (.slice A rs.length c) rs.length (opCells rs.reverse) := by
  refine ⟨by rw [opCells_length]; simp, ?_⟩
  rcases h.row.2 with ⟨_, h0⟩ | ⟨g, cap, cur, hv, hb, hg, h1, h2, h3, h4⟩
  · simp at h0
  · simp only [Value.slice.injEq, true_and] at hv
    obtain ⟨rfl, rfl⟩ := hv
    refine .inr ⟨g, c, cur, rfl, hb, hg, by simp at h1; omega, h2, h3, ?_⟩
    have := congrArg (List.take (rs.length * 3)) h4
    rw [List.take_take, List.reverse_cons, opCells_snoc, List.take_left' (by rw [opCells_length]; simp)] at this
    rw [← this]
    congr 1
    simp
def remR (rs : List PartD) (n : Int) : List PartD :=
  match rs with
  | [] => if 0 < n then [⟨3, n, ⟨#[]⟩⟩] else []
  | p :: r => if p.kind = 3 then ⟨p.kind, wrap64 (p.n + n), p.text⟩ :: r else if 0 < n then ⟨3, n, ⟨#[]⟩⟩ :: p :: r else p :: r
theorem remR_cons (p : PartD) (r : List PartD) (n : Int) : remR (p :: r) n = if p.kind = 3 then ⟨p.kind, wrap64 (p.n + n), p.text⟩ :: r else if 0 < n then ⟨3, n, ⟨#[]⟩⟩ :: p :: r else p :: r := rfl
theorem remR_nil (n : Int) : remR [] n = if 0 < n then [⟨3, n, ⟨#[]⟩⟩] else [] := rfl
def insR (rs : List PartD) (s : ByteArray) : List PartD :=
  match rs with
  | [] => [⟨2, 0, s⟩]
  | p :: r => if p.kind = 2 then ⟨p.kind, p.n, p.text ++ s⟩ :: r else if p.kind = 3 then remR (insR r s) p.n else ⟨2, 0, s⟩ :: p :: r
theorem insR_nil (s : ByteArray) : insR [] s = [⟨2, 0, s⟩] := rfl
theorem insR_cons (p : PartD) (r : List PartD) (s : ByteArray) : insR (p :: r) s = if p.kind = 2 then ⟨p.kind, p.n, p.text ++ s⟩ :: r else if p.kind = 3 then remR (insR r s) p.n else ⟨2, 0, s⟩ :: p :: r := rfl
section
variable (w : World) (base B : Nat) (A : Option Addr) (c : Nat)
theorem last_nil (k : Int) (h : Bld w base B A c []) :
    Calls Tryd.prog 96 #[.pointer (some ⟨B, 0, none⟩), .int .i64 k] w fun e w' => e = .returned (.pointer none) ∧ Below w.heap.size w w' := by
  have hc := h.cell
  have hl := h.lt
  simp only [List.length_nil] at hc
  go_enter Tryd.func96, Tryd.ntmps96
  go_wp2_with fail
  go_ret
  exact ⟨rfl, (by repeat (first | exact Below.refl _ _ | apply bGrow | apply bAlloc | apply Below.drew | apply bDrewN | apply bIter))⟩
theorem last_yes (p : PartD) (rs : List PartD) (h : Bld w base B A c (p :: rs)) :
    Calls Tryd.prog 96 #[.pointer (some ⟨B, 0, none⟩), .int .i64 p.kind] w fun e w' => e = .returned (.pointer (A.map fun a => ⟨a.block, rs.length * 3, none⟩)) ∧ Below w.heap.size w w' := by
  have hc := h.cell
  have hl := h.lt
  obtain ⟨g, rfl, _, hg, _, hcap, hmax, h0, _, _, _⟩ := h.last
  simp only [List.length_cons] at hc
  unfold maxLen at hmax
  go_enter Tryd.func96, Tryd.ntmps96
  go_wp2_with fail
  go_ret
  exact ⟨rfl, (by repeat (first | exact Below.refl _ _ | apply bGrow | apply bAlloc | apply Below.drew | apply bDrewN | apply bIter))⟩
theorem last_no (k : Int) (p : PartD) (rs : List PartD) (h : Bld w base B A c (p :: rs)) (hk : (p.kind == k) = false) :
    Calls Tryd.prog 96 #[.pointer (some ⟨B, 0, none⟩), .int .i64 k] w fun e w' => e = .returned (.pointer none) ∧ Below w.heap.size w w' := by
  have hc := h.cell
  have hl := h.lt
  obtain ⟨g, rfl, _, hg, _, hcap, hmax, h0, _, _, _⟩ := h.last
  simp only [List.length_cons] at hc
  unfold maxLen at hmax
  go_enter Tryd.func96, Tryd.ntmps96
  go_wp2_with fail
  go_ret
  exact ⟨rfl, (by repeat (first | exact Below.refl _ _ | apply bGrow | apply bAlloc | apply Below.drew | apply bDrewN | apply bIter))⟩
end
end Go.Proofs.YtbmdepbmejnlkaaDoor
