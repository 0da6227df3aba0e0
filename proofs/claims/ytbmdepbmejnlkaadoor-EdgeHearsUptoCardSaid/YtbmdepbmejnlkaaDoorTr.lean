/-
  Two walkers and two builders of the call's own, and what their methods leave (no program's run in sight).
-/
import Derived.Test.YtbmdepbmejnlkaaDoorRows
import Derived.Test.YtbmdepbmejnlkaaDoorWalkV
import Derived.Test.YtbmdepbmejnlkaaDoorGrouped
import Derived.Test.YtbmdepbmejnlkaaDoorTrans
namespace Go.Proofs.YtbmdepbmejnlkaaDoor
open Go.ChangeShapes Go.WideShapes Go.ChangeAt Go.RowKit
set_option maxRecDepth 100000
theorem own_stay {w w' : World} {base : Nat} {e : TypeId} {size : Nat} {v : Value} {n : Nat} {xs : List Value} (h : w.ownsRow base e size v n xs) (hb : ∀ g, v.ownBlock = some g → w'.heap[g]? = w.heap[g]?) : w'.ownsRow base e size v n xs := by
  refine ⟨h.1, ?_⟩
  rcases h.2 with h0 | ⟨g, cap, cur, h1, h2, h3, h4⟩
  · exact .inl h0
  · subst h1
    exact .inr ⟨g, cap, cur, rfl, h2, (hb g rfl).trans h3, h4⟩
theorem Bld.stay {w w' : World} {base B : Nat} {A : Option Addr} {c : Nat} {rs : List PartD} (h : Bld w base B A c rs) (hB : w'.heap[B]? = w.heap[B]?) (hb : ∀ g, (Value.slice A rs.length c).ownBlock = some g → w'.heap[g]? = w.heap[g]?) : Bld w' base B A c rs :=
  ⟨h.lo, hB.trans h.obj, own_stay h.row hb, h.apart⟩
section
variable {w0 w w' : World} {X Y P Q : Nat} {A B : Option Addr} {c d : Nat} {x y : List PartD} {xs ys : List (Int × Int)} {Ap Aq : Option Addr} {cp cq : Nat} {rs qs : List PartD} {K : List (Nat × Obj)} {ox oy : Option Obj}
/-- Two walkers, two builders, and blocks that are kept. -/
structure Tr (w0 w : World) (X Y P Q : Nat) (A : Option Addr) (c : Nat) (x : List PartD) (B : Option Addr) (d : Nat) (y : List PartD) (xs ys : List (Int × Int)) (Ap : Option Addr) (cp : Nat) (rs : List PartD) (Aq : Option Addr) (cq : Nat) (qs : List PartD) (K : List (Nat × Obj)) (ox oy : Option Obj) : Prop where
  ex : w.heap[X]? = ox
  ey : w.heap[Y]? = oy
  wx : Wk w X A c x xs
  wy : Wk w Y B d y ys
  bp : Bld w w0.heap.size P Ap cp rs
  bq : Bld w w0.heap.size Q Aq cq qs
  ne : (w0.heap.size ≤ X ∧ X < Y) ∧ Y < P ∧ P < Q
  ap : ∀ g, (Value.slice Ap rs.length cp).ownBlock = some g → Q < g
  aq : ∀ g, (Value.slice Aq qs.length cq).ownBlock = some g → Q < g
  apq : Apart2 (Value.slice Ap rs.length cp).ownBlock (Value.slice Aq qs.length cq).ownBlock
  b : Below w0.heap.size w0 w
  k : ∀ e ∈ K, w.heap[e.1]? = some e.2 ∧ Q < e.1 ∧ (Value.slice Ap rs.length cp).ownBlock ≠ some e.1 ∧ (Value.slice Aq qs.length cq).ownBlock ≠ some e.1
theorem Tr.later (h : Tr w0 w X Y P Q A c x B d y xs ys Ap cp rs Aq cq qs K ox oy) (hb : Below w.heap.size w w') : Tr w0 w' X Y P Q A c x B d y xs ys Ap cp rs Aq cq qs K ox oy :=
  ⟨(hb.block _ h.wx.lt).trans h.ex, (hb.block _ h.wy.lt).trans h.ey, h.wx.kept (hb.block _ h.wx.lt), h.wy.kept (hb.block _ h.wy.lt), h.bp.later hb, h.bq.later hb, h.ne, h.ap, h.aq, h.apq, bThen h.b hb, fun e he => ⟨(hb.block _ (Array.getElem?_eq_some_iff.1 (h.k e he).1).1).trans (h.k e he).1, (h.k e he).2⟩⟩
/-- One more block is kept. -/
theorem Tr.note (h : Tr w0 w X Y P Q A c x B d y xs ys Ap cp rs Aq cq qs K ox oy) (o : Obj) : Tr w0 (w.alloc o) X Y P Q A c x B d y xs ys Ap cp rs Aq cq qs ((w.heap.size, o) :: K) ox oy := by
  have h1 := h.later (bAlloc (Below.refl _ _) o)
  refine ⟨h1.ex, h1.ey, h1.wx, h1.wy, h1.bp, h1.bq, h1.ne, h1.ap, h1.aq, h1.apq, h1.b, fun e he => ?_⟩
  rcases List.mem_cons.1 he with rfl | he
  · exact ⟨heap_alloc_new _ _, h.bq.lt, fun e => by have := (h.bp.lay _ e).2; omega, fun e => by have := (h.bq.lay _ e).2; omega⟩
  · exact h1.k e he
theorem Tr.drop (h : Tr w0 w X Y P Q A c x B d y xs ys Ap cp rs Aq cq qs K ox oy) : Tr w0 w X Y P Q A c x B d y xs ys Ap cp rs Aq cq qs [] ox oy :=
  ⟨h.ex, h.ey, h.wx, h.wy, h.bp, h.bq, h.ne, h.ap, h.aq, h.apq, h.b, fun e he => by cases he⟩
/-- The first builder is turned. -/
theorem Tr.p {rs' : List PartD} (h : Tr w0 w X Y P Q A c x B d y xs ys Ap cp rs Aq cq qs K ox oy) (hto : BldTo w w0.heap.size P Ap rs.length cp rs' w') : ∃ A' c', Tr w0 w' X Y P Q A c x B d y xs ys A' c' rs' Aq cq qs K ox oy := by
  obtain ⟨A', c', hb, ht, hr⟩ := hto
  obtain ⟨⟨n0, n1⟩, n2, n3⟩ := h.ne
  have hQ := h.bq.lt
  have st : ∀ k, k < w.heap.size → k ≠ P → (Value.slice Ap rs.length cp).ownBlock ≠ some k → w'.heap[k]? = w.heap[k]? := fun k h1 h2 h3 => ht.block k h1 h2 (fun e => h3 e.symm)
  have hrow : ∀ g, (Value.slice A' rs'.length c').ownBlock = some g → Q < g := fun g hg => by
    rcases hr with e | e
    · exact h.ap g (e.symm.trans hg)
    · have := e g hg
      omega
  refine ⟨A', c', (st X h.wx.lt (by omega) fun e => by have := h.ap _ e; omega).trans h.ex, (st Y h.wy.lt (by omega) fun e => by have := h.ap _ e; omega).trans h.ey, h.wx.kept (st X h.wx.lt (by omega) fun e => by have := h.ap _ e; omega), h.wy.kept (st Y h.wy.lt (by omega) fun e => by have := h.ap _ e; omega), hb, h.bq.stay (st Q h.bq.lt (by omega) fun e => by have := h.ap _ e; omega) fun g hg => ?_, h.ne, hrow, h.aq, ?_, bOver h.b (ht.below (by omega) (fun g hg => (h.bp.lay g hg).1) h.b.size), fun e he => ?_⟩
  · refine st g (h.bq.lay g hg).2 (by have := h.aq g hg; omega) ?_
    rcases h.apq with q | q | q
    · rw [q]
      simp
    · rw [q] at hg
      cases hg
    · rw [← hg]
      exact q
  · rcases hr with e | e
    · rw [e]
      exact h.apq
    · cases hq : (Value.slice Aq qs.length cq).ownBlock with
      | none => exact .inr (.inl rfl)
      | some g =>
        refine .inr (.inr fun e2 => ?_)
        have h1 := e g e2
        have h2 := (h.bq.lay g hq).2
        omega
  · obtain ⟨k1, k2, k3, k4⟩ := h.k e he
    have hl := (Array.getElem?_eq_some_iff.1 k1).1
    refine ⟨(st _ hl (by omega) k3).trans k1, k2, fun e2 => ?_, k4⟩
    rcases hr with q | q
    · exact k3 (q.symm.trans e2)
    · have := q _ e2
      omega
/-- The second builder is turned. -/
theorem Tr.q {qs' : List PartD} (h : Tr w0 w X Y P Q A c x B d y xs ys Ap cp rs Aq cq qs K ox oy) (hto : BldTo w w0.heap.size Q Aq qs.length cq qs' w') : ∃ A' c', Tr w0 w' X Y P Q A c x B d y xs ys Ap cp rs A' c' qs' K ox oy := by
  obtain ⟨A', c', hb, ht, hr⟩ := hto
  obtain ⟨⟨n0, n1⟩, n2, n3⟩ := h.ne
  have hQ := h.bq.lt
  have st : ∀ k, k < w.heap.size → k ≠ Q → (Value.slice Aq qs.length cq).ownBlock ≠ some k → w'.heap[k]? = w.heap[k]? := fun k h1 h2 h3 => ht.block k h1 h2 (fun e => h3 e.symm)
  have hrow : ∀ g, (Value.slice A' qs'.length c').ownBlock = some g → Q < g := fun g hg => by
    rcases hr with e | e
    · exact h.aq g (e.symm.trans hg)
    · have := e g hg
      omega
  refine ⟨A', c', (st X h.wx.lt (by omega) fun e => by have := h.aq _ e; omega).trans h.ex, (st Y h.wy.lt (by omega) fun e => by have := h.aq _ e; omega).trans h.ey, h.wx.kept (st X h.wx.lt (by omega) fun e => by have := h.aq _ e; omega), h.wy.kept (st Y h.wy.lt (by omega) fun e => by have := h.aq _ e; omega), h.bp.stay (st P h.bp.lt (by omega) fun e => by have := h.aq _ e; omega) fun g hg => ?_, hb, h.ne, h.ap, hrow, ?_, bOver h.b (ht.below (by omega) (fun g hg => (h.bq.lay g hg).1) h.b.size), fun e he => ?_⟩
  · refine st g (h.bp.lay g hg).2 (by have := h.ap g hg; omega) ?_
    rcases h.apq with q | q | q
    · rw [q] at hg
      cases hg
    · rw [q]
      simp
    · rw [← hg]
      exact fun e => q e.symm
  · rcases hr with e | e
    · rw [e]
      exact h.apq
    · cases hq : (Value.slice Ap rs.length cp).ownBlock with
      | none => exact .inl rfl
      | some g =>
        refine .inr (.inr fun e2 => ?_)
        have h1 := e g e2.symm
        have h2 := (h.bp.lay g hq).2
        omega
  · obtain ⟨k1, k2, k3, k4⟩ := h.k e he
    have hl := (Array.getElem?_eq_some_iff.1 k1).1
    refine ⟨(st _ hl (by omega) k4).trans k1, k2, k3, fun e2 => ?_⟩
    rcases hr with q | q
    · exact k4 (q.symm.trans e2)
    · have := q _ e2
      omega
/-- The first walker goes on. -/
theorem Tr.goX {xs' : List (Int × Int)} (h : Tr w0 w X Y P Q A c x B d y xs ys Ap cp rs Aq cq qs K ox oy) (hw : Wk w' X A c x xs') (ho : Only X w w') : Tr w0 w' X Y P Q A c x B d y xs' ys Ap cp rs Aq cq qs K (w'.heap[X]?) oy := by
  obtain ⟨⟨n0, n1⟩, n2, n3⟩ := h.ne
  exact ⟨rfl, (ho.block Y h.wy.lt (by omega)).trans h.ey, hw, h.wy.kept (ho.block Y h.wy.lt (by omega)), h.bp.stay (ho.block P h.bp.lt (by omega)) fun g hg => ho.block g (h.bp.lay g hg).2 (by have := h.ap g hg; omega), h.bq.stay (ho.block Q h.bq.lt (by omega)) fun g hg => ho.block g (h.bq.lay g hg).2 (by have := h.aq g hg; omega),
    h.ne, h.ap, h.aq, h.apq, bOver h.b (ho.below (by omega) h.b.size), fun e he => ⟨(ho.block _ (Array.getElem?_eq_some_iff.1 (h.k e he).1).1 (by have := (h.k e he).2.1; omega)).trans (h.k e he).1, (h.k e he).2⟩⟩
/-- The second walker goes on. -/
theorem Tr.goY {ys' : List (Int × Int)} (h : Tr w0 w X Y P Q A c x B d y xs ys Ap cp rs Aq cq qs K ox oy) (hw : Wk w' Y B d y ys') (ho : Only Y w w') : Tr w0 w' X Y P Q A c x B d y xs ys' Ap cp rs Aq cq qs K ox (w'.heap[Y]?) := by
  obtain ⟨⟨n0, n1⟩, n2, n3⟩ := h.ne
  exact ⟨(ho.block X h.wx.lt (by omega)).trans h.ex, rfl, h.wx.kept (ho.block X h.wx.lt (by omega)), hw, h.bp.stay (ho.block P h.bp.lt (by omega)) fun g hg => ho.block g (h.bp.lay g hg).2 (by have := h.ap g hg; omega), h.bq.stay (ho.block Q h.bq.lt (by omega)) fun g hg => ho.block g (h.bq.lay g hg).2 (by have := h.aq g hg; omega),
    h.ne, h.ap, h.aq, h.apq, bOver h.b (ho.below (by omega) h.b.size), fun e he => ⟨(ho.block _ (Array.getElem?_eq_some_iff.1 (h.k e he).1).1 (by have := (h.k e he).2.1; omega)).trans (h.k e he).1, (h.k e he).2⟩⟩
theorem Tr.opx (h : Tr w0 w X Y P Q A c x B d y xs ys Ap cp rs Aq cq qs K ox oy) (hs : OpIn (· < w0.heap.size) w0 A x) : OpIn (· < w.heap.size) w A x := Sl.later hs h.b
end
/-- What the kept blocks hold, the last one first. -/
theorem Tr.k0 {w0 w : World} {X Y P Q : Nat} {A B : Option Addr} {c d : Nat} {x y : List PartD} {xs ys : List (Int × Int)} {Ap Aq : Option Addr} {cp cq : Nat} {rs qs : List PartD} {e : Nat × Obj} {K : List (Nat × Obj)} {ox oy : Option Obj} (h : Tr w0 w X Y P Q A c x B d y xs ys Ap cp rs Aq cq qs (e :: K) ox oy) : w.heap[e.1]? = some e.2 := (h.k e (List.mem_cons.2 (.inl rfl))).1
theorem Tr.k1 {w0 w : World} {X Y P Q : Nat} {A B : Option Addr} {c d : Nat} {x y : List PartD} {xs ys : List (Int × Int)} {Ap Aq : Option Addr} {cp cq : Nat} {rs qs : List PartD} {e f : Nat × Obj} {K : List (Nat × Obj)} {ox oy : Option Obj} (h : Tr w0 w X Y P Q A c x B d y xs ys Ap cp rs Aq cq qs (f :: e :: K) ox oy) : w.heap[e.1]? = some e.2 := (h.k e (List.mem_cons.2 (.inr (List.mem_cons.2 (.inl rfl))))).1
/-- The number that a cell holds. -/
def cellN (w : World) (X j : Nat) : Nat := match w.cell? ⟨X, j, none⟩ with
  | some (.int _ z) => z.toNat
  | _ => 0
/-- How many steps a walker has left. -/
def leftN (w : World) (X : Nat) (ps : List PartD) : Nat := (remS ps (cellN w X 1) (cellN w X 2)).length
theorem Wk.left {w : World} {X : Nat} {A : Option Addr} {c : Nat} {ps : List PartD} {l : List (Int × Int)} (h : Wk w X A c ps l) : leftN w X ps = l.length := by
  obtain ⟨k, m, h1, _, rfl⟩ := h
  obtain ⟨_, c1, c2, _⟩ := three_cell h1
  unfold leftN cellN
  rw [c1, c2]
  simp
end Go.Proofs.YtbmdepbmejnlkaaDoor
