/-
  Two walkers and a builder of the call's own, and what their methods leave (no program's run in sight).
-/
import Derived.Test.YtgcapkkgminidaaDoorRows
import Derived.Test.YtgcapkkgminidaaDoorTr
namespace Go.Proofs.YtgcapkkgminidaaDoor
open Go.ChangeShapes Go.WideShapes Go.ChangeAt Go.RowKit
set_option maxRecDepth 100000
section
variable {w0 w w' V : World} {X Y P : Nat} {A B : Option Addr} {c d : Nat} {x y : List PartD} {xs ys : List (Int × Int)} {Ap : Option Addr} {cp : Nat} {rs : List PartD} {e f : Nat × Obj} {K : List (Nat × Obj)} {ox oy : Option Obj} {o : Obj}
/-- Two walkers, a builder, and blocks that are kept. -/
structure Co (w0 w : World) (X Y P : Nat) (A : Option Addr) (c : Nat) (x : List PartD) (B : Option Addr) (d : Nat) (y : List PartD) (xs ys : List (Int × Int)) (Ap : Option Addr) (cp : Nat) (rs : List PartD) (K : List (Nat × Obj)) (ox oy : Option Obj) : Prop where
  ex : w.heap[X]? = ox
  ey : w.heap[Y]? = oy
  wx : Wk w X A c x xs
  wy : Wk w Y B d y ys
  bp : Bld w w0.heap.size P Ap cp rs
  ne : (w0.heap.size ≤ X ∧ X < Y) ∧ Y < P
  ap : ∀ g, (Value.slice Ap rs.length cp).ownBlock = some g → P < g
  b : Below w0.heap.size w0 w
  k : ∀ e ∈ K, w.heap[e.1]? = some e.2 ∧ P < e.1 ∧ (Value.slice Ap rs.length cp).ownBlock ≠ some e.1
theorem Co.later (h : Co w0 w X Y P A c x B d y xs ys Ap cp rs K ox oy) (hb : Below w.heap.size w w') : Co w0 w' X Y P A c x B d y xs ys Ap cp rs K ox oy :=
  ⟨(hb.block _ h.wx.lt).trans h.ex, (hb.block _ h.wy.lt).trans h.ey, h.wx.kept (hb.block _ h.wx.lt), h.wy.kept (hb.block _ h.wy.lt), h.bp.later hb, h.ne, h.ap, bThen h.b hb, fun e he => ⟨(hb.block _ (Array.getElem?_eq_some_iff.1 (h.k e he).1).1).trans (h.k e he).1, (h.k e he).2⟩⟩
/-- One more block is kept. -/
theorem Co.note (h : Co w0 w X Y P A c x B d y xs ys Ap cp rs K ox oy) (hV : V = w.alloc o) : Co w0 V X Y P A c x B d y xs ys Ap cp rs ((w.heap.size, o) :: K) ox oy := by
  subst hV
  have h1 := h.later (bAlloc (Below.refl _ _) o)
  refine ⟨h1.ex, h1.ey, h1.wx, h1.wy, h1.bp, h1.ne, h1.ap, h1.b, fun e he => ?_⟩
  rcases List.mem_cons.1 he with rfl | he
  · exact ⟨heap_alloc_new _ _, h.bp.lt, fun e => by have := (h.bp.lay _ e).2; omega⟩
  · exact h1.k e he
theorem Co.clean (h : Co w0 w X Y P A c x B d y xs ys Ap cp rs K ox oy) : Co w0 w X Y P A c x B d y xs ys Ap cp rs [] w.heap[X]? w.heap[Y]? :=
  ⟨rfl, rfl, h.wx, h.wy, h.bp, h.ne, h.ap, h.b, fun e he => by cases he⟩
/-- The builder is turned. -/
theorem Co.p {rs' : List PartD} (h : Co w0 w X Y P A c x B d y xs ys Ap cp rs K ox oy) (hto : BldTo w w0.heap.size P Ap rs.length cp rs' w') : ∃ A' c', Co w0 w' X Y P A c x B d y xs ys A' c' rs' K ox oy := by
  obtain ⟨A', c', hb, ht, hr⟩ := hto
  obtain ⟨⟨n0, n1⟩, n2⟩ := h.ne
  have hP := h.bp.lt
  have st : ∀ k, k < w.heap.size → k ≠ P → (Value.slice Ap rs.length cp).ownBlock ≠ some k → w'.heap[k]? = w.heap[k]? := fun k h1 h2 h3 => ht.block k h1 h2 (fun e => h3 e.symm)
  have hrow : ∀ g, (Value.slice A' rs'.length c').ownBlock = some g → P < g := fun g hg => by
    rcases hr with e | e
    · exact h.ap g (e.symm.trans hg)
    · have := e g hg
      omega
  refine ⟨A', c', (st X h.wx.lt (by omega) fun e => by have := h.ap _ e; omega).trans h.ex, (st Y h.wy.lt (by omega) fun e => by have := h.ap _ e; omega).trans h.ey, h.wx.kept (st X h.wx.lt (by omega) fun e => by have := h.ap _ e; omega), h.wy.kept (st Y h.wy.lt (by omega) fun e => by have := h.ap _ e; omega), hb, h.ne, hrow, bOver h.b (ht.below (by omega) (fun g hg => (h.bp.lay g hg).1) h.b.size), fun e he => ?_⟩
  obtain ⟨k1, k2, k3⟩ := h.k e he
  have hl := (Array.getElem?_eq_some_iff.1 k1).1
  refine ⟨(st _ hl (by omega) k3).trans k1, k2, fun e2 => ?_⟩
  rcases hr with q | q
  · exact k3 (q.symm.trans e2)
  · have := q _ e2
    omega
/-- The first walker goes on. -/
theorem Co.goX {xs' : List (Int × Int)} (h : Co w0 w X Y P A c x B d y xs ys Ap cp rs K ox oy) (hw : Wk w' X A c x xs') (ho : Only X w w') : Co w0 w' X Y P A c x B d y xs' ys Ap cp rs K (w'.heap[X]?) oy := by
  obtain ⟨⟨n0, n1⟩, n2⟩ := h.ne
  exact ⟨rfl, (ho.block Y h.wy.lt (by omega)).trans h.ey, hw, h.wy.kept (ho.block Y h.wy.lt (by omega)), h.bp.stay (ho.block P h.bp.lt (by omega)) fun g hg => ho.block g (h.bp.lay g hg).2 (by have := h.ap g hg; omega),
    h.ne, h.ap, bOver h.b (ho.below (by omega) h.b.size), fun e he => ⟨(ho.block _ (Array.getElem?_eq_some_iff.1 (h.k e he).1).1 (by have := (h.k e he).2.1; omega)).trans (h.k e he).1, (h.k e he).2⟩⟩
/-- The second walker goes on. -/
theorem Co.goY {ys' : List (Int × Int)} (h : Co w0 w X Y P A c x B d y xs ys Ap cp rs K ox oy) (hw : Wk w' Y B d y ys') (ho : Only Y w w') : Co w0 w' X Y P A c x B d y xs ys' Ap cp rs K ox (w'.heap[Y]?) := by
  obtain ⟨⟨n0, n1⟩, n2⟩ := h.ne
  exact ⟨(ho.block X h.wx.lt (by omega)).trans h.ex, rfl, h.wx.kept (ho.block X h.wx.lt (by omega)), hw, h.bp.stay (ho.block P h.bp.lt (by omega)) fun g hg => ho.block g (h.bp.lay g hg).2 (by have := h.ap g hg; omega),
    h.ne, h.ap, bOver h.b (ho.below (by omega) h.b.size), fun e he => ⟨(ho.block _ (Array.getElem?_eq_some_iff.1 (h.k e he).1).1 (by have := (h.k e he).2.1; omega)).trans (h.k e he).1, (h.k e he).2⟩⟩
theorem Co.opx (h : Co w0 w X Y P A c x B d y xs ys Ap cp rs K ox oy) (hs : OpIn (· < w0.heap.size) w0 A x) : OpIn (· < w.heap.size) w A x := Sl.later hs h.b
theorem Co.opy (h : Co w0 w X Y P A c x B d y xs ys Ap cp rs K ox oy) (hs : OpIn (· < w0.heap.size) w0 B y) : OpIn (· < w.heap.size) w B y := Sl.later hs h.b
theorem Co.k0 (h : Co w0 w X Y P A c x B d y xs ys Ap cp rs (e :: K) ox oy) : w.heap[e.1]? = some e.2 := (h.k e (List.mem_cons.2 (.inl rfl))).1
theorem Co.k1 (h : Co w0 w X Y P A c x B d y xs ys Ap cp rs (f :: e :: K) ox oy) : w.heap[e.1]? = some e.2 := (h.k e (List.mem_cons.2 (.inr (List.mem_cons.2 (.inl rfl))))).1
end
/-- How many runes steps end with. -/
def toS : List (Int × Int) → Nat
  | [] => 0
  | x :: l => (if x.1 = 3 then 0 else 1) + toS l
theorem toS_nil : toS [] = 0 := rfl
theorem toS_cons (x : Int × Int) (l : List (Int × Int)) : toS (x :: l) = (if x.1 = 3 then 0 else 1) + toS l := rfl
theorem toS_append (a b : List (Int × Int)) : toS (a ++ b) = toS a + toS b := by
  induction a with
  | nil => simp [toS]
  | cons x a ih =>
    rw [List.cons_append, toS_cons, toS_cons, ih]
    omega
theorem toS_ins (rs : List Int) : toS (insS rs) = rs.length := by
  induction rs with
  | nil => rfl
  | cons r rs ih =>
    show (if (2 : Int) = 3 then 0 else 1) + toS (insS rs) = _
    rw [ih, if_neg (by decide), List.length_cons]
    omega
theorem toS_oth (k : Int) (n : Nat) : toS (othS k n) = if k = 3 then 0 else n := by
  induction n with
  | zero => simp [othS, toS]
  | succ n ih =>
    rw [show othS k (n + 1) = (k, 0) :: othS k n from rfl, toS_cons, ih]
    split <;> omega
theorem toS_steps : ∀ {ps : List PartD}, okParts ps → toS (stepsOf ps) = toN ps
  | [], _ => rfl
  | p :: ps, ⟨hp, _, hps⟩ => by
    rw [stepsOf_cons, toS_append, toS_steps hps, show toN (p :: ps) = (if p.kind = 2 then Lib.runeCount p.text else if p.kind = 1 then p.n.toNat else 0) + toN ps from rfl]
    congr 1
    by_cases h2 : p.kind = 2
    · rw [partSteps_ins h2, toS_ins, if_pos h2, runesOf_length]
    · rw [partSteps_oth h2, toS_oth, if_neg h2]
      obtain ⟨hk, _⟩ := kind_other hp h2
      by_cases h1 : p.kind = 1
      · rw [if_pos h1, if_neg (by omega)]
      · rw [if_neg h1, if_pos (by omega)]
end Go.Proofs.YtgcapkkgminidaaDoor
