/-
  Contract of link.fill: the window is filled from what waits.
-/
import Derived.Test.YtbmdepbmejnlkaaDoorRows
import Derived.Test.YtbmdepbmejnlkaaDoorOwnsAt
import Derived.Test.YtbmdepbmejnlkaaDoorTick
import Derived.Test.YtbmdepbmejnlkaaDoorBA
namespace Go.Proofs.YtbmdepbmejnlkaaDoor
open Go.ChangeShapes Go.WideShapes Go.ChangeAt Go.RowKit
set_option maxRecDepth 100000
/-- How many frames move from what waits to what is sent. -/
def fillN (x : LinkD) : Nat := min x.q.length (min (8 - x.s.length) (1048576 - x.n).toNat)
def fillL (x : LinkD) : LinkD := ⟨x.e, x.n + fillN x, x.s ++ x.q.take (fillN x), x.q.drop (fillN x), x.h⟩
instance : Inhabited FrameD := ⟨(default : FrameV).d⟩
def packetX (x : LinkD) (k : Nat) : PacketD := ⟨x.e, x.n - x.s.length + k, false, x.h, x.s.getD k default⟩
def fillP (x : LinkD) : List PacketD := (List.range (fillN x)).map fun i => packetX (fillL x) (x.s.length + i)
theorem packetX_d (l : LinkV) (k : Nat) : packetX l.d k = packetD l k := by
  unfold packetX packetD
  simp only [List.length_map, PacketD.mk.injEq, true_and]
  simp only [List.getD_eq_getElem?_getD, List.getElem?_map]
  cases l.s[k]? <;> rfl
/-- A link whose block is X; the row of what was sent is the call's own. -/
structure LinkSt (w : World) (base X : Nat) (l : LinkV) : Prop where
  at_ : LinkAt w X l
  own : OwnsAt w base 5 l.sA l.s.length l.sc (l.s.flatMap FrameV.cells)
  s : ∀ f ∈ l.s, OpIn (fun b => (base ≤ b ∧ b < w.heap.size) ∧ b ≠ X ∧ (Value.slice l.sA l.s.length l.sc).ownBlock ≠ some b) w f.o.A f.o.ps
  qr : Sl (fun b => (base ≤ b ∧ b < w.heap.size) ∧ b ≠ X ∧ (Value.slice l.sA l.s.length l.sc).ownBlock ≠ some b) w 5 l.qA l.q.length (l.q.flatMap FrameV.cells)
  q : ∀ f ∈ l.q, OpIn (fun b => (base ≤ b ∧ b < w.heap.size) ∧ b ≠ X ∧ (Value.slice l.sA l.s.length l.sc).ownBlock ≠ some b) w f.o.A f.o.ps
  qcap : l.q.length ≤ l.qc
  ne : (Value.slice l.sA l.s.length l.sc).ownBlock ≠ some X
/-- Below 'base' only block X was turned. -/
structure Upon (base X : Nat) (w w' : World) : Prop where
  os : w'.os = w.os
  tape : w'.tape = w.tape
  output : w'.output = w.output
  size : w.heap.size ≤ w'.heap.size
  block : ∀ k, k < base → k ≠ X → w'.heap[k]? = w.heap[k]?
theorem Upon.refl (base X : Nat) (w : World) : Upon base X w w := ⟨rfl, rfl, rfl, Nat.le_refl _, fun _ _ _ => rfl⟩
theorem Upon.trans {base X : Nat} {w w1 w2 : World} (h : Upon base X w w1) (k : Upon base X w1 w2) : Upon base X w w2 :=
  ⟨k.os.trans h.os, k.tape.trans h.tape, k.output.trans h.output, Nat.le_trans h.size k.size, fun x hx hb => (k.block x hx hb).trans (h.block x hx hb)⟩
theorem Upon.of_below {base X : Nat} {w w' : World} (h : Below w.heap.size w w') (hb : base ≤ w.heap.size) : Upon base X w w' := ⟨h.os, h.tape, h.output, h.size, fun k hk _ => h.block k (by omega)⟩
theorem Upon.set {base X : Nat} (w : World) (j : Nat) (v : Value) : Upon base X w (w.setCell ⟨X, j, none⟩ v) := ⟨rfl, rfl, rfl, by simp [World.setCell], fun _ _ hb => Below.heap_setCell _ _ _ _ hb⟩
theorem Upon.grown {base X : Nat} {w w' : World} {ob : Option Nat} (h : w.grownBy w' ob) (hb : base ≤ w.heap.size) (ho : ∀ g, ob = some g → base ≤ g) : Upon base X w w' :=
  ⟨h.os, h.tape, h.output, h.size, fun k hk _ => h.block k (by omega) (fun e => by have := ho k e.symm; omega)⟩
theorem LinkSt.later {w w' : World} {base X : Nat} {l : LinkV} (h : LinkSt w base X l) (hb : Below w.heap.size w w') : LinkSt w' base X l := by
  have hz := hb.size
  exact ⟨(hb.block _ (five_cell h.at_).2.2.2.2.2.2.2.2.2.2).trans h.at_, h.own.kept hb.size (fun g hg => hb.block g (h.own.lt hg).2), fun f hf => (h.s f hf).moved fun b hx => ⟨⟨⟨hx.1.1, by omega⟩, hx.2⟩, hb.block b hx.1.2⟩,
    h.qr.moved fun b hx => ⟨⟨⟨hx.1.1, by omega⟩, hx.2⟩, hb.block b hx.1.2⟩, fun f hf => (h.q f hf).moved fun b hx => ⟨⟨⟨hx.1.1, by omega⟩, hx.2⟩, hb.block b hx.1.2⟩, h.qcap, h.ne⟩
theorem LinkSt.in_ {w : World} {base X : Nat} {l : LinkV} (h : LinkSt w base X l) : l.In w :=
  ⟨⟨h.own.sl.moved fun _ hb => ⟨hb.2, rfl⟩, fun f hf => (h.s f hf).moved fun _ hb => ⟨hb.1.2, rfl⟩⟩, ⟨h.qr.moved fun _ hb => ⟨hb.1.2, rfl⟩, fun f hf => (h.q f hf).moved fun _ hb => ⟨hb.1.2, rfl⟩⟩⟩
/-- Such a link stays where block R is turned, that lies ahead of all. -/
theorem LinkSt.in_only {w w' : World} {base X R : Nat} {l : LinkV} (h : LinkSt w base X l) (ho : Only R w w') (hR : R < base) : l.In w' := by
  have hz := ho.size
  refine ⟨⟨h.own.sl.moved fun b hb => ⟨by omega, ho.block b hb.2 (fun e => ?_)⟩, fun f hf => (h.s f hf).moved fun b hb => ⟨by omega, ho.block b hb.1.2 (by omega)⟩⟩, ⟨h.qr.moved fun b hb => ⟨by omega, ho.block b hb.1.2 (by omega)⟩, fun f hf => (h.q f hf).moved fun b hb => ⟨by omega, ho.block b hb.1.2 (by omega)⟩⟩⟩
  have := (h.own.lt hb.1).1
  omega
def lenAt (w : World) (X : Nat) : Nat := match w.cell? ⟨X, 2, none⟩ with
  | some (.slice _ n _) => n
  | _ => 0
/-- Of what was there, only block X and block ob were turned. -/
def Spare (X : Nat) (ob : Option Nat) (w w' : World) : Prop := ∀ b, b < w.heap.size → b ≠ X → ob ≠ some b → w'.heap[b]? = w.heap[b]?
theorem Spare.set {X : Nat} {ob : Option Nat} {w w' : World} (h : Spare X ob w w') (j : Nat) (v : Value) : Spare X ob w (w'.setCell ⟨X, j, none⟩ v) := fun b hb hX hn => (Below.heap_setCell _ _ _ _ hX).trans (h b hb hX hn)
theorem Spare.below {X : Nat} {ob : Option Nat} {w w1 w2 : World} (h : Spare X ob w w1) (hz : w.heap.size ≤ w1.heap.size) (hb : Below w1.heap.size w1 w2) : Spare X ob w w2 := fun b hl hX hn => (hb.block b (by omega)).trans (h b hl hX hn)
/-- The row's block is the one that it was, or a new one. -/
def Moved (w : World) (ob ob' : Option Nat) : Prop := ob' = ob ∨ ∃ g, ob' = some g ∧ w.heap.size ≤ g
theorem Spare.grown {X : Nat} {ob ob' : Option Nat} {w w1 w2 : World} (h : Spare X ob w w1) (hm : Moved w ob ob') (hz : w.heap.size ≤ w1.heap.size) (hg : w1.grownBy w2 ob') : Spare X ob w w2 := fun b hl hX hn =>
  (hg.block b (by omega) (fun e => by
    rcases hm with h1 | ⟨g, h1, h2⟩
    · exact hn (by rw [← h1, ← e])
    · rw [h1] at e
      injection e with e
      omega)).trans (h b hl hX hn)
theorem Moved.next {w w1 : World} {ob ob' ob2 : Option Nat} (h : Moved w ob ob') (hz : w.heap.size ≤ w1.heap.size) (hat : ob2 = ob' ∨ ∃ g, ob2 = some g ∧ w1.heap.size ≤ g) : Moved w ob ob2 := by
  rcases hat with rfl | ⟨g, h1, h2⟩
  · exact h
  · exact .inr ⟨g, h1, by omega⟩
/-- What fill does. -/
def RetFill (w : World) (base X : Nat) (d : LinkD) (ob : Option Nat) (e : Ending) (w' : World) : Prop :=
  ∃ l A c L, e = .returned (.slice A L.length c) ∧ l.d = fillL d ∧ L.map PacketV.d = fillP d ∧ LinkSt w' base X l ∧ PacketsOwn w' w.heap.size A c L ∧ Upon base X w w' ∧ Spare X ob w w' ∧
    ∃ wm, LinkSt wm base X l ∧ Below wm.heap.size wm w' ∧ PacketsOwn w' wm.heap.size A c L ∧ w.heap.size ≤ wm.heap.size
/-- m frames moved. -/
def moveL (x : LinkD) (m : Nat) : LinkD := ⟨x.e, x.n + m, x.s ++ x.q.take m, x.q.drop m, x.h⟩
theorem OwnsAt.later {w w' : World} {base size n c : Nat} {A : Option Addr} {xs : List Value} (h : OwnsAt w base size A n c xs) (hb : Below w.heap.size w w') : OwnsAt w' base size A n c xs := h.kept hb.size fun _ hg => hb.block _ (h.lt hg).2
theorem LinkSt.after {w W2 w3 : World} {base X : Nat} {l : LinkV} (k : LinkSt w base X l) (hW : Below w.heap.size w W2) (hg : W2.grownBy w3 (Value.slice l.sA l.s.length l.sc).ownBlock) : LinkAt w3 X l := by
  have hXl : X < w.heap.size := (five_cell k.at_).2.2.2.2.2.2.2.2.2.2
  exact (hg.block X (Nat.lt_of_lt_of_le hXl hW.size) (fun e1 => k.ne e1.symm)).trans ((hW.block X hXl).trans k.at_)
/-- One frame more was sent: the row as it was or new. -/
theorem LinkSt.push {w W2 w3 : World} {base X : Nat} {e n h : Int} {sA qA A' : Option Addr} {sc qc c' : Nat} {s q : List FrameV} {f : FrameV} (k : LinkSt w base X ⟨e, n, sA, sc, s, qA, qc, q, h⟩) (hW : Below w.heap.size w W2)
    (hf : OpIn (fun b => (base ≤ b ∧ b < w.heap.size) ∧ b ≠ X ∧ (Value.slice sA s.length sc).ownBlock ≠ some b) w f.o.A f.o.ps) (hg : W2.grownBy w3 (Value.slice sA s.length sc).ownBlock)
    (hown : OwnsAt w3 base 5 A' (s.length + 1) c' (s.flatMap FrameV.cells ++ f.cells))
    (hat : (Value.slice A' (s.length + 1) c').ownBlock = (Value.slice sA s.length sc).ownBlock ∨ ∃ g, (Value.slice A' (s.length + 1) c').ownBlock = some g ∧ W2.heap.size ≤ g) :
    LinkSt (w3.setCell ⟨X, 2, none⟩ (.slice A' (s.length + 1) c')) base X ⟨e, n, A', c', s ++ [f], qA, qc, q, h⟩ := by
  have hs3 := hg.size
  have hs2 := hW.size
  have hXl : X < w.heap.size := (five_cell k.at_).2.2.2.2.2.2.2.2.2.2
  have hold : ∀ b, b < w.heap.size → b ≠ X → (Value.slice sA s.length sc).ownBlock ≠ some b → (w3.setCell ⟨X, 2, none⟩ (.slice A' (s.length + 1) c')).heap[b]? = w.heap[b]? := fun b hb hbX hne =>
    (Below.heap_setCell _ _ _ _ hbX).trans ((hg.block b (by omega) (fun e => hne e.symm)).trans (hW.block b hb))
  have hlen : (s ++ [f]).length = s.length + 1 := by simp
  have hne : ∀ b, b < w.heap.size → (Value.slice sA s.length sc).ownBlock ≠ some b → (Value.slice A' (s ++ [f]).length c').ownBlock ≠ some b := fun b hb hn1 e1 => by
    rw [hlen] at e1
    rcases hat with hh | ⟨g, hh, hl⟩
    · exact hn1 (hh.symm.trans e1)
    · rw [hh] at e1
      cases e1
      omega
  have hXo : (Value.slice sA s.length sc).ownBlock ≠ some X := k.ne
  have hXn := hne X hXl hXo
  have key : ∀ b, ((base ≤ b ∧ b < w.heap.size) ∧ b ≠ X ∧ (Value.slice sA s.length sc).ownBlock ≠ some b) → ((base ≤ b ∧ b < (w3.setCell ⟨X, 2, none⟩ (.slice A' (s.length + 1) c')).heap.size) ∧ b ≠ X ∧ (Value.slice A' (s ++ [f]).length c').ownBlock ≠ some b) ∧ (w3.setCell ⟨X, 2, none⟩ (.slice A' (s.length + 1) c')).heap[b]? = w.heap[b]? := fun b hb =>
    ⟨⟨⟨hb.1.1, by simp [World.setCell]; omega⟩, hb.2.1, hne b hb.1.2 hb.2.2⟩, hold b hb.1.2 hb.2.1 hb.2.2⟩
  refine ⟨?_, ?_, fun g hgm => ?_, k.qr.moved key, fun g hgm => (k.q g hgm).moved key, k.qcap, hXn⟩
  · show (w3.setCell ⟨X, 2, none⟩ (.slice A' (s.length + 1) c')).heap[X]? = _
    rw [show (LinkV.mk e n A' c' (s ++ [f]) qA qc q h).s.length = s.length + 1 from hlen]
    exact any_set 2 _ ((hg.block X (by omega) (fun e1 => hXo e1.symm)).trans ((hW.block X hXl).trans k.at_))
  · show OwnsAt _ base 5 A' (s ++ [f]).length c' ((s ++ [f]).flatMap FrameV.cells)
    rw [hlen, List.flatMap_append]
    simp only [List.flatMap_cons, List.flatMap_nil, List.append_nil]
    refine hown.kept (by simp [World.setCell]) fun g hg => Below.heap_setCell _ _ _ _ (fun e1 => hXn ?_)
    rw [hlen, hg]
    exact congrArg some e1
  · rcases List.mem_append.1 hgm with hgm | hgm
    · exact (k.s g hgm).moved key
    · obtain rfl : g = f := by simpa using hgm
      exact hf.moved key
theorem Sl.tail {S : Nat → Prop} {w : World} {n m : Nat} {A : Option Addr} {xs ys : List Value} (h : Sl S w n A (m + 1) (xs ++ ys)) (hx : xs.length = n) (hn : 0 < m + 1) : Sl S w n (A.map (fun x => x.add n)) m ys := by
  obtain ⟨b, o, rfl, hb, hc⟩ := h.2 hn
  refine ⟨?_, fun _ => ⟨b, o + n, by simp [Addr.add], hb, fun j u hu => ?_⟩⟩
  · have := h.1
    rw [List.length_append, hx, Nat.add_mul] at this
    omega
  · have := hc (n + j) u (by rw [List.getElem?_append_right (by omega), hx, Nat.add_sub_cancel_left]; exact hu)
    rwa [← Nat.add_assoc] at this
/-- The first of those that wait is gone. -/
theorem LinkSt.pop {w : World} {base X : Nat} {e n h : Int} {sA qA qA' : Option Addr} {sc qc qc' : Nat} {s q : List FrameV} {f : FrameV} (k : LinkSt w base X ⟨e, n, sA, sc, s, qA, qc, f :: q, h⟩) (hA : qA' = qA.map (fun x => x.add 5) ∨ q = []) (hc : qc' = qc - 1) :
    LinkSt ((w.setCell ⟨X, 3, none⟩ (.slice qA' q.length qc')).setCell ⟨X, 1, none⟩ (.int .i64 (n + 1))) base X ⟨e, n + 1, sA, sc, s, qA', qc', q, h⟩ := by
  have hb : ∀ b, b ≠ X → ((w.setCell ⟨X, 3, none⟩ (.slice qA' q.length qc')).setCell ⟨X, 1, none⟩ (.int .i64 (n + 1))).heap[b]? = w.heap[b]? := fun b hb => (Below.heap_setCell _ _ _ _ hb).trans (Below.heap_setCell _ _ _ _ hb)
  have key : ∀ b, ((base ≤ b ∧ b < w.heap.size) ∧ b ≠ X ∧ (Value.slice sA s.length sc).ownBlock ≠ some b) → ((base ≤ b ∧ b < ((w.setCell ⟨X, 3, none⟩ (.slice qA' q.length qc')).setCell ⟨X, 1, none⟩ (.int .i64 (n + 1))).heap.size) ∧ b ≠ X ∧ (Value.slice sA s.length sc).ownBlock ≠ some b) ∧ ((w.setCell ⟨X, 3, none⟩ (.slice qA' q.length qc')).setCell ⟨X, 1, none⟩ (.int .i64 (n + 1))).heap[b]? = w.heap[b]? := fun b hx =>
    ⟨⟨⟨hx.1.1, by simp [World.setCell]; omega⟩, hx.2⟩, hb b hx.2.1⟩
  refine ⟨any_set 1 _ (any_set 3 _ k.at_), k.own.kept (by simp [World.setCell]) (fun g hg => hb g (fun e1 => ?_)), fun g hg => (k.s g hg).moved key, ?_, fun g hg => (k.q g (List.mem_cons_of_mem _ hg)).moved key, by have := k.qcap; simp at this; show q.length ≤ qc'; omega, k.ne⟩
  · subst e1
    exact k.ne hg
  · have hq : Sl (fun b => (base ≤ b ∧ b < w.heap.size) ∧ b ≠ X ∧ (Value.slice sA s.length sc).ownBlock ≠ some b) w 5 qA (q.length + 1) (f.cells ++ q.flatMap FrameV.cells) := k.qr
    rcases hA with rfl | rfl
    · exact (hq.tail rfl (by omega)).moved key
    · exact ⟨by simp, fun h => absurd h (by simp)⟩
theorem moveL_succ {x : LinkD} {m : Nat} {e n h : Int} {s q : List FrameD} {f : FrameD} (hd : (⟨e, n, s, f :: q, h⟩ : LinkD) = moveL x m) : (⟨e, n + 1, s ++ [f], q, h⟩ : LinkD) = moveL x (m + 1) := by
  unfold moveL at hd ⊢
  simp only [LinkD.mk.injEq] at hd ⊢
  obtain ⟨h1, h2, h3, h4, h5⟩ := hd
  have hlt : m < x.q.length := by
    have := congrArg List.length h4
    simp at this
    omega
  have hc := List.drop_eq_getElem_cons hlt
  rw [← h4] at hc
  injection hc with hc1 hc2
  refine ⟨h1, by omega, ?_, hc2, h5⟩
  rw [List.take_succ_eq_append_getElem hlt, ← List.append_assoc, ← h3, hc1]
theorem lenAt_of {w : World} {X n c : Nat} {A : Option Addr} (h : w.cell? ⟨X, 2, none⟩ = some (.slice A n c)) : lenAt w X = n := by
  unfold lenAt
  rw [h]
set_option maxHeartbeats 1000000 in
theorem fill_c (w : World) (base X : Nat) (l : LinkV) (h : LinkSt w base X l) (hbs : base ≤ w.heap.size) (hs : l.s.length ≤ 8) (hn : 1 ≤ l.n ∧ l.n ≤ 1048576) (hq : l.q.length ≤ 1048577) (hm : (∀ f ∈ l.s, f.o.ps.length ≤ 1048576) ∧ ∀ f ∈ l.q, f.o.ps.length ≤ 1048576) :
    Calls Tryd.prog 107 #[.pointer (some ⟨X, 0, none⟩)] w (RetFill w base X l.d (Value.slice l.sA l.s.length l.sc).ownBlock) := by
  obtain ⟨i0, hi0, hz0, hz1, hz2⟩ := info_parts infoPacket
  obtain ⟨j0, hj0, hy0, hy1, hy2⟩ := info_parts infoFrame
  have HL := Lib.hid h
  obtain ⟨x0, x1, x2, x3, x4, f0, f1, f2, f3, f4, hxz⟩ := five_cell h.at_
  have HM := Lib.hid hm
  have hxe := h.at_
  clear h hm hxe
  go_enter Tryd.func107, Tryd.ntmps107
  go_wp2_with fail
  go_loopw [] (fun wr => ∃ (m : Nat) (lm : LinkV), lm.d = moveL l.d m ∧ m ≤ l.q.length ∧ l.s.length + m ≤ 8 ∧ l.n + m ≤ 1048576 ∧ LinkSt wr base X lm ∧ ((∀ f ∈ lm.s, f.o.ps.length ≤ 1048576) ∧ ∀ f ∈ lm.q, f.o.ps.length ≤ 1048576) ∧ Upon base X w wr ∧ (Spare X (Value.slice l.sA l.s.length l.sc).ownBlock w wr ∧ Moved w (Value.slice l.sA l.s.length l.sc).ownBlock (Value.slice lm.sA lm.s.length lm.sc).ownBlock)) (fun wr => 8 - lenAt wr X)
  case atStart => exact ⟨0, l, by unfold moveL; simp, Nat.zero_le _, by omega, by omega, HL.out, HM.out, Upon.refl _ _ _, fun _ _ _ _ => rfl, .inl rfl⟩
  case round =>
    obtain ⟨m, lm, hd, hm1, hm2, hm3, hL, hM, hU, hSP, hMV⟩ := hrel
    clear x0 x1 x2 x3 x4 f0 f1 f2 f3 f4 hxz
    obtain ⟨e, n, sA, sc, s, qA, qc, q, hh⟩ := lm
    obtain ⟨x0, x1, x2, x3, x4, f0, f1, f2, f3, f4, hxz⟩ := five_cell hL.at_
    have hd' := hd
    simp only [LinkV.d, moveL, LinkD.mk.injEq] at hd'
    obtain ⟨d1, d2, d3, d4, d5⟩ := hd'
    have hsl : s.length = l.s.length + m := by
      have := congrArg List.length d3
      simp at this
      omega
    have hql : q.length = l.q.length - m := by
      have := congrArg List.length d4
      simpa using this
    dsimp only at x0 x1 x2 x3 x4 hM
    have HD := Lib.hid hd
    have HL := Lib.hid hL
    have HU := Lib.hid hU
    have HSP := Lib.hid hSP
    have HMV := Lib.hid hMV
    have HM := Lib.hid hM
    have hsz := hU.size
    have HSL := Lib.hid hsl
    have HQL := Lib.hid hql
    have HN := Lib.hid d2
    clear hd hL hU hM hsl hql d1 d2 d3 d4 d5 hSP hMV
    by_cases hgo : 0 < q.length ∧ s.length < 8 ∧ n < 1048576
    · obtain ⟨c1, c2, c3⟩ := hgo
      cases q with
      | nil => simp at c1
      | cons fr q =>
      obtain ⟨b, o, rfl, hbs, hcq⟩ := row_at FrameV.cells 5 FrameV.cells_len HL.out.qr (k := 0) c1
      have g0 := hcq 0 _ rfl
      have g1 := hcq 1 _ rfl
      have g2 := hcq 2 _ rfl
      have g3 := hcq 3 _ rfl
      have g4 := hcq 4 _ rfl
      simp only [List.getElem_cons_zero, Nat.zero_mul, Nat.add_zero] at g0 g1 g2 g3 g4
      have HOP := Lib.hid (HL.out.q fr (by simp))
      obtain ⟨fk, fh, fe, ⟨fA, fc, fp⟩, fs⟩ := fr
      dsimp only [FrameV.o, OpV.val] at g0 g1 g2 g3 g4
      clear hcq
      go_wp2_with (refine stop_at ?_)
      refine ⟨?_⟩
      go_region_law (first
        | (refine step_append_at _ rfl _ _ 61 rfl base 83 j0 (.agg #[.int .i64 0, .int .i64 0, .int .i64 0, .slice none 0 0, .string ⟨#[]⟩]) 5 64 Tryd.underlying61 hj0 hy0 hy1 hy2 rfl (by decide) _ _ _ _ rfl (HL.out.own.later (by repeat (first | exact Below.refl _ _ | apply bGrow | apply bAlloc | apply Below.drew | apply bDrewN | apply bIter))) (fun _ => True) _ _ _ _ rfl (by first | exact row_top (by rfl) (by simp) | exact Sl.moved (row_top (W := wr) (by rfl) rfl) (fun _ _ => ⟨trivial, rfl⟩)) ?_ ?_ ?_ ?_ ?_ ?_; (intro u hu; simp at hu; rcases hu with rfl | rfl | rfl | rfl | rfl <;> rfl); (decide); (unfold maxLen; omega); omega; (simp; omega); intro A' c' w3 hown' hgrow hat; obtain ⟨y0, y1, y2, y3, y4, z0, z1, z2, z3, z4, yz⟩ := five_cell (HL.out.after (show Below wr.heap.size wr _ from (by repeat (first | exact Below.refl _ _ | apply bGrow | apply bAlloc | apply Below.drew | apply bDrewN | apply bIter))) hgrow)))
      all_goals (
        have hbW : Below wr.heap.size wr _ := (show Below wr.heap.size wr (wr.alloc (.cells #[.int .i64 fk, .int .i64 fh, .int .i64 fe, .slice fA fp.length fc, .string fs] 83)).drew from (by repeat (first | exact Below.refl _ _ | apply bGrow | apply bAlloc | apply Below.drew | apply bDrewN | apply bIter)))
        refine post_hide (fun G => LinkSt G base X ⟨e, n, A', c', s ++ [⟨fk, fh, fe, ⟨fA, fc, fp⟩, fs⟩], some ⟨b, o, none⟩, qc, ⟨fk, fh, fe, ⟨fA, fc, fp⟩, fs⟩ :: q, hh⟩ ∧ Upon base X w G ∧ (Spare X (Value.slice l.sA l.s.length l.sc).ownBlock w G ∧ Moved w (Value.slice l.sA l.s.length l.sc).ownBlock (Value.slice A' (s.length + 1) c').ownBlock)) ⟨HL.out.push (f := ⟨fk, fh, fe, ⟨fA, fc, fp⟩, fs⟩) hbW HOP.out hgrow hown' hat, (HU.out.trans (Upon.of_below hbW (by omega))).trans ((Upon.grown hgrow (by have := hbW.size; omega) (fun g hg => (HL.out.own.lt hg).1)).trans (Upon.set _ _ _)), ((HSP.out.below hsz hbW).grown HMV.out (Nat.le_trans hsz hbW.size) hgrow).set 2 _, HMV.out.next (Nat.le_trans hsz hbW.size) hat⟩ ?_
        clear hown' hgrow hat y0 y1 y2 y3 y4 z0 z1 z2 z3 z4 yz hbW
        rintro G ⟨hL2, hU2, hSP2, hMV2⟩
        have HSP2 := Lib.hid hSP2
        have HMV2 := Lib.hid hMV2
        have hl0 := lenAt_of x2
        clear x0 x1 x2 x3 x4 f0 f1 f2 f3 f4 hxz
        obtain ⟨x0, x1, x2, x3, x4, f0, f1, f2, f3, f4, hxz⟩ := five_cell hL2.at_
        have HL2 := Lib.hid hL2
        have HU2 := Lib.hid hU2
        clear hL2 hU2 hSP2 hMV2
        have hw : wrap64 (n + 1) = n + 1 := by have := HN.out; unfold wrap64; omega
        have HS := Lib.hid (show s.length = l.s.length + m from HSL.out)
        go_wp2_with fail
        have hqc : q.length + 1 ≤ qc := HL2.out.qcap
        have hql : q.length + 1 = l.q.length - m := HQL.out
        have hnn := HN.out
        (try rw [hw])
        have hP : ∀ qA', qA' = (if qc = 1 then some ⟨b, o, none⟩ else some ⟨b, o + 5, none⟩) → LinkSt ((G.setCell ⟨X, 3, none⟩ (.slice qA' q.length (qc - 1))).setCell ⟨X, 1, none⟩ (.int .i64 (n + 1))) base X ⟨e, n + 1, A', c', s ++ [⟨fk, fh, fe, ⟨fA, fc, fp⟩, fs⟩], qA', qc - 1, q, hh⟩ := fun qA' hq => by
          refine HL2.out.pop ?_ rfl
          by_cases h1 : qc = 1
          · exact .inr (List.eq_nil_of_length_eq_zero (by omega))
          · exact .inl (by rw [hq, if_neg h1]; rfl)
        have hP' := hP _ rfl
        go_roundw
        case rel => exact ⟨m + 1, ⟨e, n + 1, A', c', s ++ [⟨fk, fh, fe, ⟨fA, fc, fp⟩, fs⟩], _, qc - 1, q, hh⟩, (show LinkD.mk e (n + 1) ((s ++ [(⟨fk, fh, fe, ⟨fA, fc, fp⟩, fs⟩ : FrameV)]).map FrameV.d) (q.map FrameV.d) hh = _ by rw [List.map_append]; exact moveL_succ HD.out), by omega, by have := HS.out; omega, by push_cast; omega, hP', ⟨fun f hf => by
            rcases List.mem_append.1 hf with hf | hf
            · exact HM.out.1 f hf
            · obtain rfl := List.mem_singleton.1 hf
              exact HM.out.2 _ (List.mem_cons_self ..), fun f hf => HM.out.2 f (List.mem_cons_of_mem _ hf)⟩, HU2.out.trans ((Upon.set _ _ _).trans (Upon.set _ _ _)), (HSP2.out.set 3 _).set 1 _, (by have h9 := HMV2.out; rw [← show (s ++ [(⟨fk, fh, fe, ⟨fA, fc, fp⟩, fs⟩ : FrameV)]).length = s.length + 1 by simp] at h9; exact h9)⟩
        case measure =>
          have h2 := lenAt_of (five_cell hP'.at_).2.2.1
          have := HS.out
          rw [h2, hl0]
          simp
          omega)
    · have hmN : m = fillN l.d := by
        have h1 := HSL.out
        have h2 := HQL.out
        have h3 := HN.out
        unfold fillN
        simp only [List.length_map]
        omega
      have HF := Lib.hid (show (⟨e, n, sA, sc, s, qA, qc, q, hh⟩ : LinkV).d = fillL l.d from HD.out.trans (by rw [hmN]; rfl))
      have HMN := Lib.hid (show s.length = l.s.length + fillN l.d by rw [← hmN]; exact HSL.out)
      have hn1 : 1 ≤ n ∧ n ≤ 1048576 ∧ s.length ≤ 8 := by have := HN.out; have := HSL.out; exact ⟨by omega, by omega, by omega⟩
      have hle : l.s.length ≤ s.length := by have := HSL.out; omega
      have HPK := Lib.hid (fun W k hk2 hs => packet_c W ⟨e, n, sA, sc, s, qA, qc, q, hh⟩ k hk2 hs HM.out.1 hn1)
      dsimp only at HPK
      obtain ⟨w1, hw1⟩ : ∃ w1, w1 = wr := ⟨_, rfl⟩
      subst hw1
      clear hmN
      go_wp2_with fail
      all_goals (
        go_loopw [4, 5] (fun out i wr => ∃ (j : Nat) (L' : List PacketV) (Ao : Option Addr) (co : Nat), i = .int .i64 j ∧ Hid (j = l.s.length + L'.length) ∧ j ≤ s.length ∧ out = .slice Ao L'.length co ∧ Hid (L'.map PacketV.d = (List.range L'.length).map (fun i => packetX (fillL l.d) (l.s.length + i))) ∧ PacketsOwn wr w1.heap.size Ao co L' ∧ Below w1.heap.size w1 wr) (fun _ i _ => s.length - (intOf i).toNat)
        case atStart => exact ⟨l.s.length, [], none, 0, rfl, rfl, hle, rfl, rfl, RowOwn.nil _ _, Below.refl _ _⟩
        case round =>
          obtain ⟨j, L', Ao, co, rfl, hj, hjs, rfl, hps, hown, hbw⟩ := hrel
          clear x0 x1 x2 x3 x4 f0 f1 f2 f3 f4 hxz
          have HLR := Lib.hid (HL.out.later hbw)
          obtain ⟨x0, x1, x2, x3, x4, f0, f1, f2, f3, f4, hxz⟩ := five_cell HLR.out.at_
          have hsz2 := hbw.size
          dsimp only at x0 x1 x2 x3 x4
          by_cases hlt : j < s.length
          · have HT := Lib.hid (show (List.range (L'.length + 1)).map (fun i => packetX (fillL l.d) (l.s.length + i)) = (List.range L'.length).map (fun i => packetX (fillL l.d) (l.s.length + i)) ++ [packetD ⟨e, n, sA, sc, s, qA, qc, q, hh⟩ j] by rw [List.range_succ, List.map_append, ← packetX_d, HF.out, hj.out]; rfl)
            have HP := Lib.hid (fun W hs => HPK.out W j hlt hs)
            have HO := Lib.hid hown
            have hL8 : L'.length ≤ 8 := by have := hj.out; omega
            clear hown
            generalize packetD ⟨e, n, sA, sc, s, qA, qc, q, hh⟩ j = pk at *
            obtain ⟨pe, pn, pb, pa, ⟨fk, fh, fe, fp, fs⟩⟩ := pk
            unfold RetPacket at HP
            dsimp only at HP
            go_wp2_with fail
            refine (HP.out _ HLR.out.in_.s).mono ?_
            rintro r w2 ⟨A2, c2, rfl, ho2, hb2⟩
            have HX := Lib.hid ((HO.out.later hb2).row.alloc (.cells #[.int .i64 pe, .int .i64 pn, .bool pb, .int .i64 pa, .int .i64 fk, .int .i64 fh, .int .i64 fe, .slice A2 fp.length c2, .string fs] 85))
            have HO2 := Lib.hid ho2
            have HB2 := Lib.hid hb2
            have hzw := hb2.size
            clear ho2 hb2
            go_wp2_with (refine stop_append rfl ?_)
            refine ⟨?_⟩
            refine wpList_append_sl _ rfl _ _ 100 rfl w1.heap.size 85 i0 (.agg #[.int .i64 0, .int .i64 0, .bool false, .int .i64 0, .int .i64 0, .int .i64 0, .int .i64 0, .slice none 0 0, .string ⟨#[]⟩]) 9 96 Tryd.underlying100 hi0 hz0 hz1 hz2 rfl (by decide) _ _ _ rfl HX.out (fun _ => True) _ _ _ _ rfl (row_top (by rfl) (by simp)) ?c1 ?c2 ?c3 ?c4 ?_
            case c1 => intro u hu; simp at hu; rcases hu with rfl | rfl | rfl | rfl | rfl | rfl | rfl | rfl | rfl <;> rfl
            case c2 => unfold maxLen; omega
            case c3 => omega
            case c4 => simp; omega
            intro A' c' w3 hown' hgrow hat
            have hP := RowOwn.push (f := PacketV.cells) (op := PacketV.op) (x := ⟨pe, pn, pb, pa, ⟨fk, fh, fe, ⟨A2, c2, fp⟩, fs⟩⟩) HO.out hsz2 HB2.out HO2.out hgrow hown' hat
            have hF := push_frame hbw HB2.out hgrow (fun g hg => (HO.out.row.lt g hg).1)
            clear hown' hgrow hat
            go_wp2_with fail
            go_roundw
            case rel =>
              have hll : (L' ++ [(⟨pe, pn, pb, pa, ⟨fk, fh, fe, ⟨A2, c2, fp⟩, fs⟩⟩ : PacketV)]).length = L'.length + 1 := by simp
              have HJ := Lib.hid (show j + 1 = l.s.length + (L' ++ [(⟨pe, pn, pb, pa, ⟨fk, fh, fe, ⟨A2, c2, fp⟩, fs⟩⟩ : PacketV)]).length by have := hj.out; omega)
              have HPS := Lib.hid (show (L' ++ [(⟨pe, pn, pb, pa, ⟨fk, fh, fe, ⟨A2, c2, fp⟩, fs⟩⟩ : PacketV)]).map PacketV.d = (List.range (L' ++ [(⟨pe, pn, pb, pa, ⟨fk, fh, fe, ⟨A2, c2, fp⟩, fs⟩⟩ : PacketV)]).length).map (fun i => packetX (fillL l.d) (l.s.length + i)) by rw [hll, HT.out, List.map_append, hps.out]; rfl)
              exact ⟨j + 1, L' ++ [(⟨pe, pn, pb, pa, ⟨fk, fh, fe, ⟨A2, c2, fp⟩, fs⟩⟩ : PacketV)], A', c', by go_num, HJ, by omega, by rw [hll], HPS, hP, hF⟩
            case measure => simp [intOf]; omega
          · have HK := Lib.hid (show L'.length = fillN l.d by have := hj.out; have := HMN.out; omega)
            go_wp2_with fail
            go_ret
            refine ⟨⟨e, n, sA, sc, s, qA, qc, q, hh⟩, Ao, co, L', rfl, HF.out, ?_, HLR.out, hown.mono hsz, HU.out.trans (Upon.of_below hbw (by omega)), HSP.out.below (by omega) hbw, w1, HL.out, hbw, hown, hsz⟩
            rw [hps.out, HK.out]
            unfold fillP
            simp only [List.length_map])
end Go.Proofs.YtbmdepbmejnlkaaDoor
