/-
  A builder of the call's own: new, and turned by its methods.
-/
import Derived.Test.YtbmdepbmejnlkaaDoorRows
import Derived.Test.YtbmdepbmejnlkaaDoorKeep
namespace Go.Proofs.YtbmdepbmejnlkaaDoor
open Go.ChangeShapes Go.WideShapes Go.ChangeAt Go.RowKit
set_option maxRecDepth 100000
theorem Bld.new (w : World) : Bld (w.alloc (.cells #[.slice none 0 0] 129)) w.heap.size w.heap.size none 0 [] :=
  ⟨Nat.le_refl _, heap_alloc_new _ _, World.ownsRow_nil _ _ _ _, by simp [Value.ownBlock]⟩
theorem bOver {base : Nat} {w w1 w2 : World} (h : Below base w w1) (k : Below base w1 w2) : Below base w w2 :=
  ⟨k.os.trans h.os, k.tape.trans h.tape, k.output.trans h.output, Nat.le_trans h.size k.size, fun x hx => (k.block x hx).trans (h.block x hx)⟩
theorem bLess {base base' : Nat} {w w1 : World} (h : Below base w w1) (hb : base' ≤ base) : Below base' w w1 :=
  ⟨h.os, h.tape, h.output, h.size, fun x hx => h.block x (Nat.lt_of_lt_of_le hx hb)⟩
theorem Bld.lay {w : World} {base B : Nat} {A : Option Addr} {c : Nat} {rs : List PartD} (h : Bld w base B A c rs) : ∀ x, (Value.slice A rs.length c).ownBlock = some x → base ≤ x ∧ x < w.heap.size := fun x hx => h.row.lt x hx
theorem BldTo.go {w w' : World} {base B : Nat} {A : Option Addr} {c : Nat} {rs qs : List PartD} (hb : Bld w base B A c rs) (h : BldTo w base B A rs.length c qs w') :
    ∃ A' c', Bld w' base B A' c' qs ∧ Below base w w' := by
  obtain ⟨A', c', h1, h2, _⟩ := h
  exact ⟨A', c', h1, h2.below hb.lo (fun x hx => (hb.lay x hx).1) (Nat.le_trans hb.lo (Nat.le_of_lt hb.lt))⟩
/-- What is neither the builder's block nor its row stays. -/
theorem BldTo.stays {w w' : World} {base B : Nat} {A : Option Addr} {c : Nat} {rs qs : List PartD} (h : BldTo w base B A rs.length c qs w') {k : Nat} (hk : k < w.heap.size) (hB : k ≠ B) (hR : (Value.slice A rs.length c).ownBlock ≠ some k) : w'.heap[k]? = w.heap[k]? := by
  obtain ⟨A', c', _, h2, _⟩ := h
  exact h2.block k hk hB (fun e => hR e.symm)
/-- A call that hands back an operation in memory of its own, and an error. -/
def RetOpE (w : World) (L : List PartD) (er : Int) (e : Ending) (w' : World) : Prop :=
  ∃ A c, e = .returned (.tuple #[.slice A L.length c, .int .i64 er]) ∧ w'.ownsRow w.heap.size 90 3 (.slice A L.length c) L.length (opCells L) ∧ Below w.heap.size w w'
/-- A call that hands back an operation in memory of its own. -/
def RetOpO (w : World) (L : List PartD) (e : Ending) (w' : World) : Prop :=
  ∃ A c, e = .returned (.slice A L.length c) ∧ w'.ownsRow w.heap.size 90 3 (.slice A L.length c) L.length (opCells L) ∧ Below w.heap.size w w'
theorem Bld.out {w : World} {base base' B : Nat} {A : Option Addr} {c : Nat} {rs : List PartD} (h : Bld w base B A c rs) (hb : base' ≤ base) :
    w.ownsRow base' 90 3 (.slice A rs.reverse.length c) rs.reverse.length (opCells rs.reverse) := by
  rw [List.length_reverse]
  refine ⟨h.row.1, ?_⟩
  rcases h.row.2 with h0 | ⟨g, cap, cur, h1, h2, h3⟩
  · exact .inl h0
  · exact .inr ⟨g, cap, cur, h1, Nat.le_trans hb h2, h3⟩
end Go.Proofs.YtbmdepbmejnlkaaDoor
