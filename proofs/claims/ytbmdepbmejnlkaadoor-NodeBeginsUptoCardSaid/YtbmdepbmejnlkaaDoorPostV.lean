/-
  Posts as the cells of a slice hold them (no walk).
-/
import Derived.Test.YtbmdepbmejnlkaaDoorRows
import Derived.Test.YtbmdepbmejnlkaaDoorTick
namespace Go.Proofs.YtbmdepbmejnlkaaDoor
open Go.ChangeShapes Go.WideShapes Go.ChangeAt Go.RowKit
set_option maxRecDepth 100000
/-- A post: to whom, and the packet. -/
structure PostV where
  who : Int
  p : PacketV
instance : Inhabited PostV := ⟨⟨0, default⟩⟩
def PostV.cells (x : PostV) : List Value := .int .i64 x.who :: x.p.cells
theorem PostV.cells_len (x : PostV) : x.cells.length = 10 := rfl
abbrev PostV.op (x : PostV) : OpV := x.p.f.o
structure PostD where
  who : Int
  p : PacketD
abbrev PostV.d (x : PostV) : PostD := ⟨x.who, x.p.d⟩
structure PostsIn (w : World) (A : Option Addr) (L : List PostV) : Prop where
  row : Sl (· < w.heap.size) w 10 A L.length (L.flatMap PostV.cells)
  each : ∀ x ∈ L, OpIn (· < w.heap.size) w x.p.f.o.A x.p.f.o.ps
theorem PostsIn.later {w w' : World} {A : Option Addr} {L : List PostV} (h : PostsIn w A L) (hb : Below w.heap.size w w') : PostsIn w' A L := ⟨h.row.later hb, fun r hr => Sl.later (h.each r hr) hb⟩
theorem PostsIn.nil (w : World) : PostsIn w none [] := ⟨Sl.nil, by simp⟩
theorem PostsIn.at_ {w : World} {A : Option Addr} {L : List PostV} (h : PostsIn w A L) {k : Nat} (hk : k < L.length) :
    ∃ b o, A = some ⟨b, o, none⟩ ∧ b < w.heap.size ∧ w.cell? ⟨b, o + k * 10, none⟩ = some (.int .i64 L[k].who) ∧ w.cell? ⟨b, o + k * 10 + 1, none⟩ = some (.int .i64 L[k].p.ep) ∧ w.cell? ⟨b, o + k * 10 + 2, none⟩ = some (.int .i64 L[k].p.nu) ∧ w.cell? ⟨b, o + k * 10 + 3, none⟩ = some (.bool L[k].p.b) ∧ w.cell? ⟨b, o + k * 10 + 4, none⟩ = some (.int .i64 L[k].p.ak) ∧
      w.cell? ⟨b, o + k * 10 + 5, none⟩ = some (.int .i64 L[k].p.f.k) ∧ w.cell? ⟨b, o + k * 10 + 6, none⟩ = some (.int .i64 L[k].p.f.h) ∧ w.cell? ⟨b, o + k * 10 + 7, none⟩ = some (.int .i64 L[k].p.f.e) ∧
      w.cell? ⟨b, o + k * 10 + 8, none⟩ = some (.slice L[k].p.f.o.A L[k].p.f.o.ps.length L[k].p.f.o.c) ∧ w.cell? ⟨b, o + k * 10 + 9, none⟩ = some (.string L[k].p.f.s) ∧ OpIn (· < w.heap.size) w L[k].p.f.o.A L[k].p.f.o.ps := by
  obtain ⟨b, o, e, hb, hc⟩ := row_at PostV.cells 10 PostV.cells_len h.row hk
  exact ⟨b, o, e, hb, hc 0 _ rfl, hc 1 _ rfl, hc 2 _ rfl, hc 3 _ rfl, hc 4 _ rfl, hc 5 _ rfl, hc 6 _ rfl, hc 7 _ rfl, hc 8 _ rfl, hc 9 _ rfl, h.each _ (List.getElem_mem hk)⟩
theorem infoPost : (Tryd.prog.info? 87).map (fun i => (i.zero, i.size, i.bytes)) = some (some (.agg #[.int .i64 0, .int .i64 0, .int .i64 0, .bool false, .int .i64 0, .int .i64 0, .int .i64 0, .int .i64 0, .slice none 0 0, .string ⟨#[]⟩]), 10, 104) := by kernel_rfl
abbrev PostsOwn (w : World) (base : Nat) (A : Option Addr) (c : Nat) (L : List PostV) : Prop := RowOwn 87 10 PostV.cells PostV.op w base A c L
theorem PostsOwn.in_ {w : World} {base : Nat} {A : Option Addr} {c : Nat} {L : List PostV} (h : PostsOwn w base A c L) : PostsIn w A L :=
  ⟨(Sl.of_own _ h.row).moved fun _ hx => ⟨hx.2, rfl⟩, fun o ho => (h.each o ho).moved fun _ hx => ⟨hx.1.2, rfl⟩⟩
/-- One element more, whose operation lies in what the row's owner owns already. -/
theorem RowOwn.push3 {α : Type} {t : TypeId} {n : Nat} {f : α → List Value} {op : α → OpV} {wr w3 : World} {base : Nat} {Ao A' : Option Addr} {co c' : Nat} {L : List α} {x : α} (hO : RowOwn t n f op wr base Ao co L)
    (hx : OpIn (fun b => (base ≤ b ∧ b < wr.heap.size) ∧ (Value.slice Ao L.length co).ownBlock ≠ some b) wr (op x).A (op x).ps) (hg : wr.grownBy w3 (Value.slice Ao L.length co).ownBlock)
    (hown : w3.ownsRow base t n (.slice A' (L.length + 1) c') (L.length + 1) (L.flatMap f ++ f x))
    (hat : (Value.slice A' (L.length + 1) c').ownBlock = (Value.slice Ao L.length co).ownBlock ∨ (Value.slice A' (L.length + 1) c').ownBlock = some wr.heap.size) : RowOwn t n f op w3 base A' c' (L ++ [x]) := by
  have hs3 := hg.size
  have hlen : (L ++ [x]).length = L.length + 1 := by simp
  have hnew : ∀ b, b < wr.heap.size → (Value.slice Ao L.length co).ownBlock ≠ some b → (Value.slice A' (L.length + 1) c').ownBlock ≠ some b := fun b hb hne e => by
    rcases hat with h | h
    · exact hne (h.symm.trans e)
    · rw [h] at e
      simp at e
      omega
  refine ⟨by rw [hlen]; simpa using hown, fun p hp => ?_⟩
  rw [hlen]
  have hall : ∀ p ∈ L ++ [x], OpIn (fun b => (base ≤ b ∧ b < wr.heap.size) ∧ (Value.slice Ao L.length co).ownBlock ≠ some b) wr (op p).A (op p).ps := fun p hp => by
    rcases List.mem_append.1 hp with hp | hp
    · exact hO.each p hp
    · obtain rfl : p = x := by simpa using hp
      exact hx
  refine (hall p hp).moved fun b hb => ?_
  exact ⟨⟨⟨hb.1.1, by omega⟩, hnew b hb.1.2 hb.2⟩, hg.block b hb.1.2 (fun e => hb.2 e.symm)⟩
end Go.Proofs.YtbmdepbmejnlkaaDoor
