/-
  Rows of records: that came in, and that the call owns, each record's parts in blocks of their own.
-/
import Derived.Test.YtgcapkkgminidaaDoorRows
import Derived.Test.YtgcapkkgminidaaDoorEdgeOpen
import Derived.Test.YtgcapkkgminidaaDoorFlat
import Derived.Test.YtgcapkkgminidaaDoorEdgeOwn
namespace Go.Proofs.YtgcapkkgminidaaDoor
open Go.ChangeShapes Go.WideShapes Go.ChangeAt Go.RowKit
set_option maxRecDepth 100000
/-- A record as a slice's cells hold it. -/
structure RecV where
  ep : Int
  o : OpV
instance : Inhabited RecV := ⟨⟨0, ⟨none, 0, []⟩⟩⟩
def RecV.cells (r : RecV) : List Value := [.int .i64 r.ep, r.o.val]
theorem RecV.cells_len (r : RecV) : r.cells.length = 2 := rfl
structure RecsIn (w : World) (A : Option Addr) (L : List RecV) : Prop where
  row : Sl (· < w.heap.size) w 2 A L.length (L.flatMap RecV.cells)
  each : ∀ r ∈ L, OpIn (· < w.heap.size) w r.o.A r.o.ps
theorem RecsIn.later {w w' : World} {A : Option Addr} {L : List RecV} (h : RecsIn w A L) (hb : Below w.heap.size w w') : RecsIn w' A L := ⟨h.row.later hb, fun r hr => Sl.later (h.each r hr) hb⟩
theorem RecsIn.at_ {w : World} {A : Option Addr} {L : List RecV} (h : RecsIn w A L) {k : Nat} (hk : k < L.length) :
    ∃ b o, A = some ⟨b, o, none⟩ ∧ b < w.heap.size ∧ w.cell? ⟨b, o + k * 2, none⟩ = some (.int .i64 L[k].ep) ∧ w.cell? ⟨b, o + k * 2 + 1, none⟩ = some (.slice L[k].o.A L[k].o.ps.length L[k].o.c) ∧ OpIn (· < w.heap.size) w L[k].o.A L[k].o.ps := by
  obtain ⟨b, o, e, hb, hc⟩ := row_at RecV.cells 2 RecV.cells_len h.row hk
  exact ⟨b, o, e, hb, hc 0 _ rfl, hc 1 _ rfl, h.each _ (List.getElem_mem hk)⟩
theorem infoRec : (Tryd.prog.info? 174).map (fun i => (i.zero, i.size, i.bytes)) = some (some (.agg #[.int .i64 0, .slice none 0 0]), 2, 32) := by kernel_rfl
theorem rec_one (L : List RecV) : ∀ u ∈ L.flatMap RecV.cells, u.oneCell' = true := by
  intro u hu
  obtain ⟨r, _, h⟩ := List.mem_flatMap.1 hu
  simp only [RecV.cells, List.mem_cons, List.not_mem_nil, or_false] at h
  rcases h with rfl | rfl <;> rfl
/-- A row of elements that the call owns (n cells each), each element's operation in a block of its own. -/
structure RowOwn {α : Type} (t : TypeId) (n : Nat) (f : α → List Value) (op : α → OpV) (w : World) (base : Nat) (A : Option Addr) (c : Nat) (L : List α) : Prop where
  row : w.ownsRow base t n (.slice A L.length c) L.length (L.flatMap f)
  each : ∀ x ∈ L, OpIn (fun b => (base ≤ b ∧ b < w.heap.size) ∧ (Value.slice A L.length c).ownBlock ≠ some b) w (op x).A (op x).ps
section
variable {α : Type} {t : TypeId} {n : Nat} {f : α → List Value} {op : α → OpV}
theorem RowOwn.kept {w w' : World} {base : Nat} {A : Option Addr} {c : Nat} {L : List α} (h : RowOwn t n f op w base A c L) (hs : w.heap.size ≤ w'.heap.size) (hk : ∀ b, base ≤ b → b < w.heap.size → w'.heap[b]? = w.heap[b]?) : RowOwn t n f op w' base A c L := by
  refine ⟨⟨h.row.1, ?_⟩, fun o ho => (h.each o ho).moved fun b hb => ⟨⟨⟨hb.1.1, Nat.lt_of_lt_of_le hb.1.2 hs⟩, hb.2⟩, hk b hb.1.1 hb.1.2⟩⟩
  rcases h.row.2 with hn | ⟨g, cap, cur, e, hb, hg, rest⟩
  · exact .inl hn
  · exact .inr ⟨g, cap, cur, e, hb, (hk g hb (Array.getElem?_eq_some_iff.1 hg).1).trans hg, rest⟩
theorem RowOwn.later {w w' : World} {base : Nat} {A : Option Addr} {c : Nat} {L : List α} (h : RowOwn t n f op w base A c L) (hb : Below w.heap.size w w') : RowOwn t n f op w' base A c L := h.kept hb.size fun b _ hl => hb.block b hl
theorem RowOwn.nil (w : World) (base : Nat) : RowOwn t n f op w base none 0 [] := ⟨World.ownsRow_nil _ _ _ _, by simp⟩
theorem RowOwn.mono {w : World} {base base' : Nat} {A : Option Addr} {c : Nat} {L : List α} (h : RowOwn t n f op w base A c L) (hb : base' ≤ base) : RowOwn t n f op w base' A c L :=
  ⟨⟨h.row.1, h.row.2.imp id fun ⟨g, cap, cur, e, hg, rest⟩ => ⟨g, cap, cur, e, Nat.le_trans hb hg, rest⟩⟩, fun o ho => (h.each o ho).moved fun _ hx => ⟨⟨⟨Nat.le_trans hb hx.1.1, hx.1.2⟩, hx.2⟩, rfl⟩⟩
/-- One element more: its operation new, the row as it was or new. -/
theorem RowOwn.push {wr W2 w3 : World} {base : Nat} {Ao A' : Option Addr} {co c' : Nat} {L : List α} {x : α} {o : Obj} (hO : RowOwn t n f op wr base Ao co L) (hbs : base ≤ wr.heap.size) (hW : Below wr.heap.size wr W2)
    (hx : OpIn (fun b => wr.heap.size ≤ b ∧ b < W2.heap.size) W2 (op x).A (op x).ps) (hg : (W2.alloc o).grownBy w3 (Value.slice Ao L.length co).ownBlock)
    (hown : w3.ownsRow base t n (.slice A' (L.length + 1) c') (L.length + 1) (L.flatMap f ++ f x))
    (hat : (Value.slice A' (L.length + 1) c').ownBlock = (Value.slice Ao L.length co).ownBlock ∨ (Value.slice A' (L.length + 1) c').ownBlock = some (W2.alloc o).heap.size) : RowOwn t n f op w3 base A' c' (L ++ [x]) := by
  have hs2 := hW.size
  have hs3 := hg.size
  simp at hs3
  have hlen : (L ++ [x]).length = L.length + 1 := by simp
  have hold : ∀ b, b < W2.heap.size → (Value.slice Ao L.length co).ownBlock ≠ some b → w3.heap[b]? = W2.heap[b]? := fun b hb hne =>
    (hg.block b (by simp; omega) (fun e => hne e.symm)).trans (heap_alloc_old _ _ b hb)
  have hnew : ∀ b, b < W2.heap.size → (Value.slice Ao L.length co).ownBlock ≠ some b → (Value.slice A' (L.length + 1) c').ownBlock ≠ some b := fun b hb hne e => by
    rcases hat with h | h
    · exact hne (h.symm.trans e)
    · rw [h] at e
      simp at e
      omega
  refine ⟨by rw [hlen]; simpa using hown, fun p hp => ?_⟩
  rw [hlen]
  rcases List.mem_append.1 hp with hp | hp
  · refine (hO.each p hp).moved fun b hb => ⟨⟨⟨hb.1.1, by omega⟩, hnew b (by omega) hb.2⟩, (hold b (by omega) hb.2).trans (hW.block b hb.1.2)⟩
  · obtain rfl : p = x := by simpa using hp
    refine hx.moved fun b hb => ?_
    have hne : (Value.slice Ao L.length co).ownBlock ≠ some b := fun e => by have := (hO.row.lt b e).2; omega
    exact ⟨⟨⟨by omega, by omega⟩, hnew b (by omega) hne⟩, hold b hb.2 hne⟩
end
abbrev RecsOwn (w : World) (base : Nat) (A : Option Addr) (c : Nat) (L : List RecV) : Prop := RowOwn 174 2 RecV.cells RecV.o w base A c L
theorem RecsOwn.in_ {w : World} {base : Nat} {A : Option Addr} {c : Nat} {L : List RecV} (h : RecsOwn w base A c L) : RecsIn w A L :=
  ⟨(Sl.of_own _ h.row).moved fun _ hx => ⟨hx.2, rfl⟩, fun o ho => (h.each o ho).moved fun _ hx => ⟨hx.1.2, rfl⟩⟩
end Go.Proofs.YtgcapkkgminidaaDoor
