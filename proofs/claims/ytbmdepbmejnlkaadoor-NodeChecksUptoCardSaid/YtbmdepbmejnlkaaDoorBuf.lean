/-
  A struct of one slice in a block of the call's own, whose row the call owns: what its cell holds, and what a store into it leaves (no program in sight).
-/
import Derived.Test.YtbmdepbmejnlkaaDoorBase
import Derived.Laws.OwnMore
import Derived.Lib.AppendStr
namespace Go.Proofs.YtbmdepbmejnlkaaDoor
open Go.ChangeShapes Go.WideShapes Go.ChangeAt Go.RowKit
/-- The block B, of type T, holds a slice with the cells xs, n elements, whose row the call owns. -/
def Buf (T E : TypeId) (sz : Nat) (w : World) (base B n : Nat) (xs : List Value) : Prop :=
  base ≤ B ∧ ∃ A c, w.heap[B]? = some (.cells #[.slice A n c] T (0, 0)) ∧ w.ownsRow base E sz (.slice A n c) n xs
theorem own_apart {w : World} {base : Nat} {e T : TypeId} {size n B : Nat} {v : Value} {xs : List Value} {cs : Array Value} {m : Nat × Nat} (h : w.ownsRow base e size v n xs) (hB : w.heap[B]? = some (.cells cs T m)) (hT : T ≠ e) : v.ownBlock ≠ some B := by
  rcases h.2 with ⟨rfl, _⟩ | ⟨g, cap, cur, rfl, _, hg, _⟩
  · simp [Value.ownBlock]
  · intro q
    have hq : g = B := by simpa [Value.ownBlock] using q
    subst hq
    rw [hg] at hB
    injection hB with hB
    injection hB with _ h2 _
    exact hT h2.symm
theorem box_cell {w : World} {B : Nat} {v : Value} {t : TypeId} (h : w.heap[B]? = some (.cells #[v] t (0, 0))) : w.cell? ⟨B, 0, none⟩ = some v ∧ w.frozen? ⟨B, 0, none⟩ = false ∧ B < w.heap.size :=
  ⟨by simp [World.cell?, h], by simp [World.frozen?, h], (Array.getElem?_eq_some_iff.1 h).1⟩
theorem Buf.put {T E : TypeId} {sz : Nat} {w : World} {base B n : Nat} {A : Option Addr} {c : Nat} {v : Value} {xs : List Value} (hT : T ≠ E) (hlo : base ≤ B) (hobj : w.heap[B]? = some (.cells #[v] T (0, 0)))
    (hrow : w.ownsRow base E sz (.slice A n c) n xs) : Buf T E sz (w.setCell ⟨B, 0, none⟩ (.slice A n c)) base B n xs := by
  refine ⟨hlo, A, c, ?_, ?_⟩
  · rw [heap_setCell_same w B 0 _ _ _ hobj]
    rfl
  · exact hrow.kept (row := some B) ⟨rfl, rfl, rfl, by simp [World.setCell], fun x _ hx => Below.heap_setCell _ _ _ _ (fun e => hx (by simp [e]))⟩ (.inr (own_apart hrow hobj hT))
theorem Buf.later {T E : TypeId} {sz : Nat} {w w' : World} {base B n : Nat} {xs : List Value} (h : Buf T E sz w base B n xs) (hb : Below w.heap.size w w') : Buf T E sz w' base B n xs := by
  obtain ⟨h1, A, c, h2, h3⟩ := h
  exact ⟨h1, A, c, (hb.block B (box_cell h2).2.2).trans h2, h3.kept (row := none) ⟨hb.os, hb.tape, hb.output, hb.size, fun k hk _ => hb.block k hk⟩ (by cases (Value.slice A n c).ownBlock <;> simp)⟩
/-- The block behind an append onto its row. -/
theorem Buf.grown {T E : TypeId} {sz : Nat} {w w' : World} {base B n : Nat} {A : Option Addr} {c : Nat} {xs : List Value} (hT : T ≠ E) (hobj : w.heap[B]? = some (.cells #[.slice A n c] T (0, 0))) (hrow : w.ownsRow base E sz (.slice A n c) n xs)
    (hg : w.grownBy w' (Value.slice A n c).ownBlock) : w'.heap[B]? = some (.cells #[.slice A n c] T (0, 0)) :=
  (hg.block B (box_cell hobj).2.2 (fun e => own_apart hrow hobj hT e.symm)).trans hobj
theorem Buf.fresh {T E : TypeId} {sz : Nat} (w : World) (base : Nat) (h : base ≤ w.heap.size) : Buf T E sz (w.alloc (.cells #[.slice none 0 0] T)) base w.heap.size 0 [] :=
  ⟨h, none, 0, by show (w.heap.push _)[w.heap.size]? = _; simp, World.ownsRow_nil _ _ _ _⟩
theorem own_lower {w : World} {base base' : Nat} {e : TypeId} {size n : Nat} {v : Value} {xs : List Value} (h : w.ownsRow base e size v n xs) (hb : base' ≤ base) : w.ownsRow base' e size v n xs := by
  refine ⟨h.1, ?_⟩
  rcases h.2 with h0 | ⟨g, cap, cur, hv, hg, hrest⟩
  · exact .inl h0
  · exact .inr ⟨g, cap, cur, hv, Nat.le_trans hb hg, hrest⟩
theorem below_put {w wr w1 : World} {base B : Nat} {row : Option Nat} (o : Obj) (v : Value) (hbw : Below base w wr) (hs : base ≤ wr.heap.size) (hg : (wr.alloc o).grownBy w1 row) (hr : ∀ g, row = some g → base ≤ g) (hB : base ≤ B) : Below base w (w1.setCell ⟨B, 0, none⟩ v) :=
  ((hbw.alloc hs o).grown hg (by simp; omega) hr).setCell (p := ⟨B, 0, none⟩) hB v
theorem below_put0 {w wr w1 : World} {base B : Nat} {row : Option Nat} (v : Value) (hbw : Below base w wr) (hs : base ≤ wr.heap.size) (hg : wr.grownBy w1 row) (hr : ∀ g, row = some g → base ≤ g) (hB : base ≤ B) : Below base w (w1.setCell ⟨B, 0, none⟩ v) :=
  (hbw.grown hg hs hr).setCell (p := ⟨B, 0, none⟩) hB v
theorem heap_alloc_old (w : World) (o : Obj) (B : Nat) (h : B < w.heap.size) : (w.alloc o).heap[B]? = w.heap[B]? := (bAlloc (Below.refl w.heap.size w) o).block B h
/-! ### appending a string's bytes: and where the row lies then -/
section
variable {P : Program} (w : World)
theorem run_append_str (base : Nat) (t u ty e : TypeId) (i : TypeInfo) (ht : P.underlying t = some (.slice e)) (hu : P.underlying u = some .string) (hi : P.info? e = some i) (hz : i.zero = some (.int .u8 0)) (hsize : i.size = 1) (hby : i.bytes = 1)
    (v : Value) (n : Nat) (xs : List Value) (hown : w.ownsRow base e 1 v n xs) (s : ByteArray) (h63 : n + s.size ≤ maxLen) (hbytes : n + s.size ≤ 140737488355328) (hbase : base ≤ w.heap.size) :
    ∃ A' c' w', (Builtin.append_ #[t, u] ty #[v, .string s]).run P w = .ok (.slice A' (n + s.size) c') w' ∧ w'.ownsRow base e 1 (.slice A' (n + s.size) c') (n + s.size) (xs ++ Lib.strCells s) ∧ w.grownBy w' v.ownBlock ∧
      ((Value.slice A' (n + s.size) c').ownBlock = v.ownBlock ∨ (Value.slice A' (n + s.size) c').ownBlock = some w.heap.size) := by
  obtain ⟨v', w', hrun, h2, h3, h4⟩ := Lib.run_append_own_string (P := P) w base t u ty e i ht hu hi hz hsize hby v n xs hown s h63 hbytes hbase
  have hsmall : ((n + s.size : Nat) : Int) ≤ 9223372036854775807 := by unfold maxLen at h63; omega
  obtain ⟨A', c', rfl, _, _⟩ := own_form w' h2
  refine ⟨A', c', w', hrun, h2, h3, ?_⟩
  rcases hown.2 with ⟨rfl, rfl⟩ | ⟨g, cap, cur, rfl, hbg, hg, hnc, hcm, hcs, htake⟩
  · by_cases hm : s.size = 0
    · have := h4.2 ⟨rfl, hm⟩
      rw [this]
      exact .inl rfl
    · have hr := run_append_nil_string (P := P) w t u ty e i (.int .u8 0) ht hu hi hz s (by omega) (by omega) (by rw [hby]; omega)
      rw [hrun] at hr
      injection hr with hv _
      rw [hv]
      exact .inr rfl
  · by_cases hroom : n + s.size ≤ cap
    · have hcs' : cur.size = cap := by simpa using hcs
      have hr := Lib.run_append_room_string (P := P) w t u ty e i ht hu hi hsize g n cap cur hg s hroom (by omega)
      rw [hrun] at hr
      injection hr with hv _
      rw [hv]
      exact .inl rfl
    · have hxl : xs.length = n := by simpa using hown.1
      have holds : ∀ j u, xs[j]? = some u → w.cell? ((⟨g, 0, none⟩ : Addr).add j) = some u := hown.cells (g := g) rfl
      have hr := Lib.run_append_grow_string (P := P) w t u ty e i (.int .u8 0) ht hu hi hz ⟨g, 0, none⟩ n cap xs (by rw [hsize]; simpa using hxl) holds s (by omega) hsmall (by rw [hby]; exact growslice_fits (by omega) (by omega))
      rw [hrun] at hr
      injection hr with hv _
      rw [hv]
      exact .inr rfl
theorem wpList_append_str {ops : Array Oper} {rest : List Oper} {o : Oper} {a : Act} {Q : Exit → Act → World → Prop} (hgd : o.guard = none) (sl x : Operand) (t u : TypeId)
    (ho : o.op = .call { callee := .builtin .append, args := #[sl, x], argTypes := #[t, u] })
    (base : Nat) (e : TypeId) (i : TypeInfo) (ht : P.underlying t = some (.slice e)) (hu : P.underlying u = some .string) (hi : P.info? e = some i) (hz : i.zero = some (.int .u8 0)) (hsize : i.size = 1) (hby : i.bytes = 1)
    (v : Value) (n : Nat) (xs : List Value) (hs : a.eval sl = v) (hown : w.ownsRow base e 1 v n xs) (s : ByteArray) (hx : a.eval x = .string s) (h63 : n + s.size ≤ maxLen) (hbytes : n + s.size ≤ 140737488355328) (hbase : base ≤ w.heap.size)
    (h : ∀ A' c' w', w'.ownsRow base e 1 (.slice A' (n + s.size) c') (n + s.size) (xs ++ Lib.strCells s) → w.grownBy w' v.ownBlock → ((Value.slice A' (n + s.size) c').ownBlock = v.ownBlock ∨ (Value.slice A' (n + s.size) c').ownBlock = some w.heap.size) → wpList P ops Q rest (a.put o.dst (.slice A' (n + s.size) c')) w') : wpList P ops Q (o :: rest) a w := by
  refine wpList_plain hgd fun K hK => ?_
  obtain ⟨A', c', w', hrun, h2, h3, h4⟩ := run_append_str (P := P) w base t u o.type e i ht hu hi hz hsize hby v n xs hown s h63 hbytes hbase
  unfold Oper.wp execOp
  simp only [ho, resolve, invoke, builtin, Sem.run_bind, Sem.run_pure, Result.andThen_ok, List.map_toArray, List.map_cons, List.map_nil, hs, hx, hrun]
  exact hK _ _ (h A' c' w' h2 h3 h4)
end
/-! ### what a method of such a struct leaves as it was -/
/-- The block of the row of the slice in block B. -/
def rowOf (w : World) (B : Nat) : Option Nat :=
  match w.heap[B]? with
  | some (.cells cs _ _) => cs.toList.findSome? Value.ownBlock
  | _ => none
theorem rowOf_eq {w : World} {B : Nat} {v : Value} {T : TypeId} {m : Nat × Nat} (h : w.heap[B]? = some (.cells #[v] T m)) : rowOf w B = v.ownBlock := by
  unfold rowOf
  rw [h]
  show List.findSome? Value.ownBlock [v] = _
  rw [List.findSome?_cons]
  cases v.ownBlock <;> rfl
theorem rowOf_eq2 {w : World} {B : Nat} {p : Option Addr} {v : Value} {T : TypeId} {m : Nat × Nat} (h : w.heap[B]? = some (.cells #[.pointer p, v] T m)) : rowOf w B = v.ownBlock := by
  unfold rowOf
  rw [h]
  show List.findSome? Value.ownBlock [.pointer p, v] = _
  rw [List.findSome?_cons, List.findSome?_cons, show (Value.pointer p).ownBlock = none from rfl]
  cases v.ownBlock <;> rfl
/-- At most block B, its row and new blocks have turned; the row lies where it lay, or in a new block. -/
structure Kept (B : Nat) (w w' : World) : Prop where
  os : w'.os = w.os
  tape : w'.tape = w.tape
  output : w'.output = w.output
  size : w.heap.size ≤ w'.heap.size
  block : ∀ k, k < w.heap.size → k ≠ B → rowOf w B ≠ some k → w'.heap[k]? = w.heap[k]?
  row : rowOf w' B = rowOf w B ∨ ∀ x, rowOf w' B = some x → w.heap.size ≤ x
theorem Kept.refl (B : Nat) (w : World) : Kept B w w := ⟨rfl, rfl, rfl, Nat.le_refl _, fun _ _ _ _ => rfl, .inl rfl⟩
theorem Kept.trans {B : Nat} {w w1 w2 : World} (h : Kept B w w1) (k : Kept B w1 w2) : Kept B w w2 := by
  refine ⟨k.os.trans h.os, k.tape.trans h.tape, k.output.trans h.output, Nat.le_trans h.size k.size, fun x hx hb hr => ?_, ?_⟩
  · refine (k.block x (Nat.lt_of_lt_of_le hx h.size) hb ?_).trans (h.block x hx hb hr)
    rcases h.row with e | e
    · rw [e]; exact hr
    · intro q
      have := e x q
      omega
  · rcases k.row with e | e
    · rw [e]; exact h.row
    · exact .inr fun x hx => Nat.le_trans h.size (e x hx)
theorem Kept.of_below {B : Nat} {w w' : World} (h : Below w.heap.size w w') (hB : B < w.heap.size) : Kept B w w' :=
  ⟨h.os, h.tape, h.output, h.size, fun k hk _ _ => h.block k hk, .inl (by unfold rowOf; rw [h.block B hB])⟩
theorem Kept.cell {B : Nat} {w w' : World} (h : Kept B w w') {k j : Nat} (hk : k < w.heap.size) (hB : k ≠ B) (hr : rowOf w B ≠ some k) : w'.cell? ⟨k, j, none⟩ = w.cell? ⟨k, j, none⟩ :=
  World.cell?_of_block (w := w) (a := ⟨k, j, none⟩) (h.block k hk hB hr)
theorem Kept.below {B base : Nat} {w w' : World} (h : Kept B w w') (hB : base ≤ B) (hr : ∀ x, rowOf w B = some x → base ≤ x) (hb : base ≤ w.heap.size) : Below base w w' :=
  ⟨h.os, h.tape, h.output, h.size, fun x hx => h.block x (by omega) (by omega) (fun e => by have := hr x e; omega)⟩
theorem Buf.row {T E : TypeId} {sz : Nat} {w : World} {base B n : Nat} {xs : List Value} (h : Buf T E sz w base B n xs) : ∀ x, rowOf w B = some x → base ≤ x ∧ x < w.heap.size := by
  obtain ⟨_, A, c, h2, h3⟩ := h
  intro x hx
  rw [rowOf_eq h2] at hx
  exact h3.lt x hx
theorem Buf.lt {T E : TypeId} {sz : Nat} {w : World} {base B n : Nat} {xs : List Value} (h : Buf T E sz w base B n xs) : base ≤ B ∧ B < w.heap.size := by
  obtain ⟨h1, A, c, h2, h3⟩ := h
  exact ⟨h1, (box_cell h2).2.2⟩
theorem kept_put {w W2 w1 : World} {B x : Nat} {T : TypeId} {v v' : Value} (hobj : w.heap[B]? = some (.cells #[v] T (0, 0))) (hW : Below w.heap.size w W2) (hg : W2.grownBy w1 v.ownBlock) (hap : v.ownBlock ≠ some B)
    (hat : v'.ownBlock = v.ownBlock ∨ v'.ownBlock = some x) (hx : w.heap.size ≤ x) : Kept B w (w1.setCell ⟨B, 0, none⟩ v') := by
  have hlt := (box_cell hobj).2.2
  have hB2 : B < W2.heap.size := Nat.lt_of_lt_of_le hlt hW.size
  have hobj1 : w1.heap[B]? = some (.cells #[v] T (0, 0)) := (hg.block B hB2 (fun e => hap e.symm)).trans ((hW.block B hlt).trans hobj)
  refine ⟨hg.os.trans hW.os, hg.tape.trans hW.tape, hg.output.trans hW.output, ?_, fun k hk hb hr => ?_, ?_⟩
  · have := hg.size
    have := hW.size
    simp [World.setCell]
    omega
  · rw [rowOf_eq hobj] at hr
    rw [Below.heap_setCell _ _ _ _ hb, hg.block k (Nat.lt_of_lt_of_le hk hW.size) (fun e => hr e.symm), hW.block k hk]
  · have e1 : rowOf (w1.setCell ⟨B, 0, none⟩ v') B = v'.ownBlock := by
      refine rowOf_eq (T := T) (m := (0, 0)) ?_
      rw [heap_setCell_same w1 B 0 _ _ _ hobj1]
      rfl
    rw [e1, rowOf_eq hobj]
    rcases hat with e | e
    · exact .inl e
    · refine .inr fun y hy => ?_
      rw [e] at hy
      injection hy with hy
      omega
/-- A block's row, where a cell of it that is no slice is written. -/
theorem kept_set2 {w : World} {B : Nat} {T : TypeId} {p q : Option Addr} {v : Value} (hobj : w.heap[B]? = some (.cells #[.pointer p, v] T (0, 0))) : Kept B w (w.setCell ⟨B, 0, none⟩ (.pointer q)) := by
  refine ⟨rfl, rfl, rfl, by simp [World.setCell], fun k hk hb _ => Below.heap_setCell _ _ _ _ hb, .inl ?_⟩
  rw [rowOf_eq2 hobj]
  refine rowOf_eq2 (p := q) (T := T) (m := (0, 0)) ?_
  rw [heap_setCell_same w B 0 _ _ _ hobj]
  rfl
theorem kept_put2 {w W2 w1 : World} {B x : Nat} {T : TypeId} {p : Option Addr} {v v' : Value} (hobj : w.heap[B]? = some (.cells #[.pointer p, v] T (0, 0))) (hW : Below w.heap.size w W2) (hg : W2.grownBy w1 v.ownBlock) (hap : v.ownBlock ≠ some B)
    (hat : v'.ownBlock = v.ownBlock ∨ v'.ownBlock = some x) (hx : w.heap.size ≤ x) : Kept B w (w1.setCell ⟨B, 1, none⟩ v') := by
  have hlt : B < w.heap.size := (Array.getElem?_eq_some_iff.1 hobj).1
  have hB2 : B < W2.heap.size := Nat.lt_of_lt_of_le hlt hW.size
  have hobj1 : w1.heap[B]? = some (.cells #[.pointer p, v] T (0, 0)) := (hg.block B hB2 (fun e => hap e.symm)).trans ((hW.block B hlt).trans hobj)
  refine ⟨hg.os.trans hW.os, hg.tape.trans hW.tape, hg.output.trans hW.output, ?_, fun k hk hb hr => ?_, ?_⟩
  · have := hg.size
    have := hW.size
    simp [World.setCell]
    omega
  · rw [rowOf_eq2 hobj] at hr
    rw [Below.heap_setCell _ _ _ _ hb, hg.block k (Nat.lt_of_lt_of_le hk hW.size) (fun e => hr e.symm), hW.block k hk]
  · have e1 : rowOf (w1.setCell ⟨B, 1, none⟩ v') B = v'.ownBlock := by
      refine rowOf_eq2 (p := p) (T := T) (m := (0, 0)) ?_
      rw [heap_setCell_same w1 B 1 _ _ _ hobj1]
      rfl
    rw [e1, rowOf_eq2 hobj]
    rcases hat with e | e
    · exact .inl e
    · refine .inr fun y hy => ?_
      rw [e] at hy
      injection hy with hy
      omega
end Go.Proofs.YtbmdepbmejnlkaaDoor
