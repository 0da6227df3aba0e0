/- A part of the proof of NodeUndoes. -/
import Derived.Test.YtacacoklddogmaaGreatDoorKEB
import Derived.Test.YtacacoklddogmaaGreatDoorKEA
namespace Go.Proofs.YtacacoklddogmaaGreatDoor
set_option maxHeartbeats 4000000
open Go.ChangeShapes Go.WideShapes Go.ChangeAt Go.RowKit
set_option maxRecDepth 100000
def fillN (x : LinkD) : Nat := min x.q.length (min (8 - x.s.length) (1048576 - x.n).toNat)
def fillL (x : LinkD) : LinkD := ⟨x.e, x.n + fillN x, x.s ++ x.q.take (fillN x), x.q.drop (fillN x), x.h⟩
instance : Inhabited FrameD := ⟨(default : FrameV).d⟩
def packetX (x : LinkD) (k : Nat) : PacketD := ⟨x.e, x.n - x.s.length + k, false, x.h, x.s.getD k default⟩
def fillP (x : LinkD) : List PacketD := (List.range (fillN x)).map fun i => packetX (fillL x) (x.s.length + i)
theorem nx_ (l : LinkV) (k : Nat) : packetX l.d k = packetD l k := by
 unfold packetX packetD
 simp only [List.length_map, PacketD.mk.injEq, true_and]
 simp only [List.getD_eq_getElem?_getD, List.getElem?_map]
 cases l.s[k]? <;> rfl
structure LinkSt (w : World) (base X : Nat) (l : LinkV) : Prop where
 at_ : LinkAt w X l
 own : OwnsAt w base 5 l.sA l.s.length l.sc (l.s.flatMap FrameV.cells)
 s : ∀ f ∈ l.s, OpIn (fun b => (base ≤ b ∧ b < w.heap.size) ∧ b ≠ X ∧ (Value.slice l.sA l.s.length l.sc).ownBlock ≠ some b) w f.o.A f.o.ps
 qr : Sl (fun b => (base ≤ b ∧ b < w.heap.size) ∧ b ≠ X ∧ (Value.slice l.sA l.s.length l.sc).ownBlock ≠ some b) w 5 l.qA l.q.length (l.q.flatMap FrameV.cells)
 q : ∀ f ∈ l.q, OpIn (fun b => (base ≤ b ∧ b < w.heap.size) ∧ b ≠ X ∧ (Value.slice l.sA l.s.length l.sc).ownBlock ≠ some b) w f.o.A f.o.ps
 qcap : l.q.length ≤ l.qc
 ne : (Value.slice l.sA l.s.length l.sc).ownBlock ≠ some X
structure Upon (base X : Nat) (w w' : World) : Prop where
 os : w'.os = w.os
 tape : w'.tape = w.tape
 output : w'.output = w.output
 size : w.heap.size ≤ w'.heap.size
 block : ∀ k, k < base → k ≠ X → w'.heap[k]? = w.heap[k]?
theorem Upon.refl (base X : Nat) (w : World) : Upon base X w w := ⟨rfl, rfl, rfl, Nat.le_refl _, fun _ _ _ => rfl⟩
theorem Upon.trans {base X : Nat} {w w1 w2 : World} (h : Upon base X w w1) (k : Upon base X w1 w2) : Upon base X w w2 :=
 ⟨k.os.trans h.os, k.tape.trans h.tape, k.output.trans h.output, Nat.le_trans h.size k.size, fun x hx hb => (k.block x hx hb).trans (h.block x hx hb)⟩
theorem Upon.of_below {base X : Nat} {w w' : World} (h : Below w.heap.size w w') (hb : base ≤ w.heap.size) : Upon base X w w' := ⟨h.os, h.tape, h.output, h.size, fun k hk _ => h.block k (by omega)⟩
theorem Upon.set {base X : Nat} (w : World) (j : Nat) (v : Value) : Upon base X w (w.setCell ⟨X, j, none⟩ v) := ⟨rfl, rfl, rfl, by simp [World.setCell], fun _ _ hb => bH_ hb⟩
theorem Upon.grown {base X : Nat} {w w' : World} {ob : Option Nat} (h : w.grownBy w' ob) (hb : base ≤ w.heap.size) (ho : ∀ g, ob = some g → base ≤ g) : Upon base X w w' :=
 ⟨h.os, h.tape, h.output, h.size, fun k hk _ => h.block k (by omega) (fun e => by have := ho k e.symm; omega)⟩
theorem LinkSt.later {w w' : World} {base X : Nat} {l : LinkV} (h : LinkSt w base X l) (hb : Below w.heap.size w w') : LinkSt w' base X l := by
 have hz := hb.size
 exact ⟨(hb.block _ (i_ h.at_).2.2.2.2.2.2.2.2.2.2).trans h.at_, h.own.kept hb.size (fun g hg => hb.block g (h.own.lt hg).2), fun f hf => (h.s f hf).moved fun b hx => ⟨⟨⟨hx.1.1, by omega⟩, hx.2⟩, hb.block b hx.1.2⟩,
  h.qr.moved fun b hx => ⟨⟨⟨hx.1.1, by omega⟩, hx.2⟩, hb.block b hx.1.2⟩, fun f hf => (h.q f hf).moved fun b hx => ⟨⟨⟨hx.1.1, by omega⟩, hx.2⟩, hb.block b hx.1.2⟩, h.qcap, h.ne⟩
theorem LinkSt.in_ {w : World} {base X : Nat} {l : LinkV} (h : LinkSt w base X l) : l.In w :=
 ⟨⟨h.own.sl.moved fun _ hb => ⟨hb.2, rfl⟩, fun f hf => (h.s f hf).moved fun _ hb => ⟨hb.1.2, rfl⟩⟩, ⟨h.qr.moved fun _ hb => ⟨hb.1.2, rfl⟩, fun f hf => (h.q f hf).moved fun _ hb => ⟨hb.1.2, rfl⟩⟩⟩
def lenAt (w : World) (X : Nat) : Nat := match w.cell? ⟨X, 2, none⟩ with
 | some (.slice _ n _) => n
 | _ => 0
def Spare (X : Nat) (ob : Option Nat) (w w' : World) : Prop := ∀ b, b < w.heap.size → b ≠ X → ob ≠ some b → w'.heap[b]? = w.heap[b]?
theorem Spare.set {X : Nat} {ob : Option Nat} {w w' : World} (h : Spare X ob w w') (j : Nat) (v : Value) : Spare X ob w (w'.setCell ⟨X, j, none⟩ v) := fun b hb hX hn => (bH_ hX).trans (h b hb hX hn)
theorem Spare.below {X : Nat} {ob : Option Nat} {w w1 w2 : World} (h : Spare X ob w w1) (hz : w.heap.size ≤ w1.heap.size) (hb : Below w1.heap.size w1 w2) : Spare X ob w w2 := fun b hl hX hn => (hb.block b (by omega)).trans (h b hl hX hn)
def Moved (w : World) (ob ob' : Option Nat) : Prop := ob' = ob ∨ ∃ g, ob' = some g ∧ w.heap.size ≤ g
theorem Spare.grown {X : Nat} {ob ob' : Option Nat} {w w1 w2 : World} (h : Spare X ob w w1) (hm : Moved w ob ob') (hz : w.heap.size ≤ w1.heap.size) (hg : w1.grownBy w2 ob') : Spare X ob w w2 := fun b hl hX hn =>
 (hg.block b (by omega) (fun e => by
   rcases hm with h1 | ⟨g, h1, h2⟩
   · exact hn (by rw [← h1, ← e])
   · rw [h1] at e
     injection e with e
     omega)).trans (h b hl hX hn)
theorem Moved.next {w w1 : World} {ob ob' ob2 : Option Nat} (h : Moved w ob ob') (hz : w.heap.size ≤ w1.heap.size) (hat : ob2 = ob' ∨ ∃ g, ob2 = some g ∧ w1.heap.size ≤ g) : Moved w ob ob2 := by
 rcases hat with rfl | ⟨g, h1, h2⟩
 · exact h
 · exact .inr ⟨g, h1, by omega⟩
def RetFill (w : World) (base X : Nat) (d : LinkD) (ob : Option Nat) (e : Ending) (w' : World) : Prop :=
 ∃ l A c L, e = .returned (.slice A L.length c) ∧ l.d = fillL d ∧ L.map PacketV.d = fillP d ∧ LinkSt w' base X l ∧ PacketsOwn w' w.heap.size A c L ∧ Upon base X w w' ∧ Spare X ob w w' ∧
  ∃ wm, LinkSt wm base X l ∧ Below wm.heap.size wm w' ∧ PacketsOwn w' wm.heap.size A c L ∧ w.heap.size ≤ wm.heap.size
def moveL (x : LinkD) (m : Nat) : LinkD := ⟨x.e, x.n + m, x.s ++ x.q.take m, x.q.drop m, x.h⟩
theorem OwnsAt.later {w w' : World} {base size n c : Nat} {A : Option Addr} {xs : List Value} (h : OwnsAt w base size A n c xs) (hb : Below w.heap.size w w') : OwnsAt w' base size A n c xs := h.kept hb.size fun _ hg => hb.block _ (h.lt hg).2
theorem LinkSt.after {w W2 w3 : World} {base X : Nat} {l : LinkV} (k : LinkSt w base X l) (hW : Below w.heap.size w W2) (hg : W2.grownBy w3 (Value.slice l.sA l.s.length l.sc).ownBlock) : LinkAt w3 X l := by
 have hXl : X < w.heap.size := (i_ k.at_).2.2.2.2.2.2.2.2.2.2
 exact (hg.block X (Nat.lt_of_lt_of_le hXl hW.size) (fun e1 => k.ne e1.symm)).trans ((hW.block X hXl).trans k.at_)
theorem LinkSt.push {w W2 w3 : World} {base X : Nat} {e n h : Int} {sA qA A' : Option Addr} {sc qc c' : Nat} {s q : List FrameV} {f : FrameV} (k : LinkSt w base X ⟨e, n, sA, sc, s, qA, qc, q, h⟩) (hW : Below w.heap.size w W2)
 (hf : OpIn (fun b => (base ≤ b ∧ b < w.heap.size) ∧ b ≠ X ∧ (Value.slice sA s.length sc).ownBlock ≠ some b) w f.o.A f.o.ps) (hg : W2.grownBy w3 (Value.slice sA s.length sc).ownBlock)
 (hown : OwnsAt w3 base 5 A' (s.length + 1) c' (s.flatMap FrameV.cells ++ f.cells))
 (hat : (Value.slice A' (s.length + 1) c').ownBlock = (Value.slice sA s.length sc).ownBlock ∨ ∃ g, (Value.slice A' (s.length + 1) c').ownBlock = some g ∧ W2.heap.size ≤ g) :
 LinkSt (w3.setCell ⟨X, 2, none⟩ (.slice A' (s.length + 1) c')) base X ⟨e, n, A', c', s ++ [f], qA, qc, q, h⟩ := by
 have hs3 := hg.size
 have hs2 := hW.size
 have hXl : X < w.heap.size := (i_ k.at_).2.2.2.2.2.2.2.2.2.2
 have hold : ∀ b, b < w.heap.size → b ≠ X → (Value.slice sA s.length sc).ownBlock ≠ some b → (w3.setCell ⟨X, 2, none⟩ (.slice A' (s.length + 1) c')).heap[b]? = w.heap[b]? := fun b hb hbX hne =>
  (bH_ hbX).trans ((hg.block b (by omega) (fun e => hne e.symm)).trans (hW.block b hb))
 have hlen : (s ++ [f]).length = s.length + 1 := by simp
 have hne : ∀ b, b < w.heap.size → (Value.slice sA s.length sc).ownBlock ≠ some b → (Value.slice A' (s ++ [f]).length c').ownBlock ≠ some b := fun b hb hn1 e1 => by
  rw [hlen] at e1
  rcases hat with hh | ⟨g, hh, hl⟩
  · exact hn1 (hh.symm.trans e1)
  · rw [hh] at e1
    cases e1
    omega
 have hXo : (Value.slice sA s.length sc).ownBlock ≠ some X := k.ne
 have hXn := hne X hXl hXo
 have key : ∀ b, ((base ≤ b ∧ b < w.heap.size) ∧ b ≠ X ∧ (Value.slice sA s.length sc).ownBlock ≠ some b) → ((base ≤ b ∧ b < (w3.setCell ⟨X, 2, none⟩ (.slice A' (s.length + 1) c')).heap.size) ∧ b ≠ X ∧ (Value.slice A' (s ++ [f]).length c').ownBlock ≠ some b) ∧ (w3.setCell ⟨X, 2, none⟩ (.slice A' (s.length + 1) c')).heap[b]? = w.heap[b]? := fun b hb =>
  ⟨⟨⟨hb.1.1, by simp [World.setCell]; omega⟩, hb.2.1, hne b hb.1.2 hb.2.2⟩, hold b hb.1.2 hb.2.1 hb.2.2⟩
 refine ⟨?_, ?_, fun g hgm => ?_, k.qr.moved key, fun g hgm => (k.q g hgm).moved key, k.qcap, hXn⟩
 · show (w3.setCell ⟨X, 2, none⟩ (.slice A' (s.length + 1) c')).heap[X]? = _
   rw [show (LinkV.mk e n A' c' (s ++ [f]) qA qc q h).s.length = s.length + 1 from hlen]
   exact e_ 2 _ ((hg.block X (by omega) (fun e1 => hXo e1.symm)).trans ((hW.block X hXl).trans k.at_))
 · show OwnsAt _ base 5 A' (s ++ [f]).length c' ((s ++ [f]).flatMap FrameV.cells)
   rw [hlen, List.flatMap_append]
   simp only [List.flatMap_cons, List.flatMap_nil, List.append_nil]
   refine hown.kept (by simp [World.setCell]) fun g hg => bH_ (fun e1 => hXn ?_)
   rw [hlen, hg]
   exact congrArg some e1
 · rcases List.mem_append.1 hgm with hgm | hgm
   · exact (k.s g hgm).moved key
   · obtain rfl : g = f := by simpa using hgm
     exact hf.moved key
theorem Sl.tail {S : Nat → Prop} {w : World} {n m : Nat} {A : Option Addr} {xs ys : List Value} (h : Sl S w n A (m + 1) (xs ++ ys)) (hx : xs.length = n) (hn : 0 < m + 1) : Sl S w n (A.map (fun x => x.add n)) m ys := by
 obtain ⟨b, o, rfl, hb, hc⟩ := h.2 hn
 refine ⟨?_, fun _ => ⟨b, o + n, by simp [Addr.add], hb, fun j u hu => ?_⟩⟩
 · have := h.1
   rw [List.length_append, hx, Nat.add_mul] at this
   omega
 · have := hc (n + j) u (by rw [List.getElem?_append_right (by omega), hx, Nat.add_sub_cancel_left]; exact hu)
   rwa [← Nat.add_assoc] at this
theorem LinkSt.pop {w : World} {base X : Nat} {e n h : Int} {sA qA qA' : Option Addr} {sc qc qc' : Nat} {s q : List FrameV} {f : FrameV} (k : LinkSt w base X ⟨e, n, sA, sc, s, qA, qc, f :: q, h⟩) (hA : qA' = qA.map (fun x => x.add 5) ∨ q = []) (hc : qc' = qc - 1) :
 LinkSt ((w.setCell ⟨X, 3, none⟩ (.slice qA' q.length qc')).setCell ⟨X, 1, none⟩ (.int .i64 (n + 1))) base X ⟨e, n + 1, sA, sc, s, qA', qc', q, h⟩ := by
 have hb : ∀ b, b ≠ X → ((w.setCell ⟨X, 3, none⟩ (.slice qA' q.length qc')).setCell ⟨X, 1, none⟩ (.int .i64 (n + 1))).heap[b]? = w.heap[b]? := fun b hb => (bH_ hb).trans (bH_ hb)
 have key : ∀ b, ((base ≤ b ∧ b < w.heap.size) ∧ b ≠ X ∧ (Value.slice sA s.length sc).ownBlock ≠ some b) → ((base ≤ b ∧ b < ((w.setCell ⟨X, 3, none⟩ (.slice qA' q.length qc')).setCell ⟨X, 1, none⟩ (.int .i64 (n + 1))).heap.size) ∧ b ≠ X ∧ (Value.slice sA s.length sc).ownBlock ≠ some b) ∧ ((w.setCell ⟨X, 3, none⟩ (.slice qA' q.length qc')).setCell ⟨X, 1, none⟩ (.int .i64 (n + 1))).heap[b]? = w.heap[b]? := fun b hx =>
  ⟨⟨⟨hx.1.1, by simp [World.setCell]; omega⟩, hx.2⟩, hb b hx.2.1⟩
 refine ⟨e_ 1 _ (e_ 3 _ k.at_), k.own.kept (by simp [World.setCell]) (fun g hg => hb g (fun e1 => ?_)), fun g hg => (k.s g hg).moved key, ?_, fun g hg => (k.q g (List.mem_cons_of_mem _ hg)).moved key, by have := k.qcap; simp at this; show q.length ≤ qc'; omega, k.ne⟩
 · subst e1
   exact k.ne hg
 · have hq : Sl (fun b => (base ≤ b ∧ b < w.heap.size) ∧ b ≠ X ∧ (Value.slice sA s.length sc).ownBlock ≠ some b) w 5 qA (q.length + 1) (f.cells ++ q.flatMap FrameV.cells) := k.qr
   rcases hA with rfl | rfl
   · exact (hq.tail rfl (by omega)).moved key
   · exact ⟨by simp, fun h => absurd h (by simp)⟩
theorem lq_ {x : LinkD} {m : Nat} {e n h : Int} {s q : List FrameD} {f : FrameD} (hd : (⟨e, n, s, f :: q, h⟩ : LinkD) = moveL x m) : (⟨e, n + 1, s ++ [f], q, h⟩ : LinkD) = moveL x (m + 1) := by
 unfold moveL at hd ⊢
 simp only [LinkD.mk.injEq] at hd ⊢
 obtain ⟨h1, h2, h3, h4, h5⟩ := hd
 have hlt : m < x.q.length := by
  have := congrArg List.length h4
  simp at this
  omega
 have hc := List.drop_eq_getElem_cons hlt
 rw [← h4] at hc
 injection hc with hc1 hc2
 refine ⟨h1, by omega, ?_, hc2, h5⟩
 rw [List.take_succ_eq_append_getElem hlt, ← List.append_assoc, ← h3, hc1]
theorem gw_ {w : World} {X n c : Nat} {A : Option Addr} (h : w.cell? ⟨X, 2, none⟩ = some (.slice A n c)) : lenAt w X = n := by
 unfold lenAt
 rw [h]
theorem zs_ (w : World) (base X : Nat) (l : LinkV) (h : LinkSt w base X l) (hbs : base ≤ w.heap.size) (hs : l.s.length ≤ 8) (hn : 1 ≤ l.n ∧ l.n ≤ 1048576) (hq : l.q.length ≤ 1048577) (hm : (∀ f ∈ l.s, f.o.ps.length ≤ 1048576) ∧ ∀ f ∈ l.q, f.o.ps.length ≤ 1048576) :
 Calls Tryz.prog 113 #[.pointer (some ⟨X, 0, none⟩)] w (RetFill w base X l.d (Value.slice l.sA l.s.length l.sc).ownBlock) := by
 obtain ⟨i0, hi0, hz0, hz1, hz2⟩ := info_parts infoPacket
 obtain ⟨j0, hj0, hy0, hy1, hy2⟩ := info_parts infoFrame
 have HL := h_ h
 obtain ⟨x0, x1, x2, x3, x4, f0, f1, f2, f3, f4, hxz⟩ := i_ h.at_
 have HM := h_ hm
 have hxe := h.at_
 clear h hm hxe
 go_enter Tryz.func113, Tryz.ntmps113
 go_wp2_with fail
 go_loopw [] (fun wr => ∃ (m : Nat) (lm : LinkV), lm.d = moveL l.d m ∧ m ≤ l.q.length ∧ l.s.length + m ≤ 8 ∧ l.n + m ≤ 1048576 ∧ LinkSt wr base X lm ∧ ((∀ f ∈ lm.s, f.o.ps.length ≤ 1048576) ∧ ∀ f ∈ lm.q, f.o.ps.length ≤ 1048576) ∧ Upon base X w wr ∧ (Spare X (Value.slice l.sA l.s.length l.sc).ownBlock w wr ∧ Moved w (Value.slice l.sA l.s.length l.sc).ownBlock (Value.slice lm.sA lm.s.length lm.sc).ownBlock)) (fun wr => 8 - lenAt wr X)
 case atStart => exact ⟨0, l, by unfold moveL; simp, Nat.zero_le _, by omega, by omega, HL.out, HM.out, Upon.refl _ _ _, fun _ _ _ _ => rfl, .inl rfl⟩
 case round =>
  obtain ⟨m, lm, hd, hm1, hm2, hm3, hL, hM, hU, hSP, hMV⟩ := hrel
  clear x0 x1 x2 x3 x4 f0 f1 f2 f3 f4 hxz
  obtain ⟨e, n, sA, sc, s, qA, qc, q, hh⟩ := lm
  obtain ⟨x0, x1, x2, x3, x4, f0, f1, f2, f3, f4, hxz⟩ := i_ hL.at_
  have hd' := hd
  simp only [LinkV.d, moveL, LinkD.mk.injEq] at hd'
  obtain ⟨d1, d2, d3, d4, d5⟩ := hd'
  have hsl : s.length = l.s.length + m := by
   have := congrArg List.length d3
   simp at this
   omega
  have hql : q.length = l.q.length - m := by
   have := congrArg List.length d4
   simpa using this
  dsimp only at x0 x1 x2 x3 x4 hM
  have HD := h_ hd
  have HL := h_ hL
  have HU := h_ hU
  have HSP := h_ hSP
  have HMV := h_ hMV
  have HM := h_ hM
  have hsz := hU.size
  have HSL := h_ hsl
  have HQL := h_ hql
  have HN := h_ d2
  clear hd hL hU hM hsl hql d1 d2 d3 d4 d5 hSP hMV
  by_cases hgo : 0 < q.length ∧ s.length < 8 ∧ n < 1048576
  · obtain ⟨c1, c2, c3⟩ := hgo
    cases q with
    | nil => simp at c1
    | cons fr q =>
    obtain ⟨b, o, rfl, hbs, hcq⟩ := x_ FrameV.cells 5 FrameV.cells_len HL.out.qr (k := 0) c1
    have g0 := hcq 0 _ rfl
    have g1 := hcq 1 _ rfl
    have g2 := hcq 2 _ rfl
    have g3 := hcq 3 _ rfl
    have g4 := hcq 4 _ rfl
    simp only [List.getElem_cons_zero, Nat.zero_mul, Nat.add_zero] at g0 g1 g2 g3 g4
    have HOP := h_ (HL.out.q fr (by simp))
    obtain ⟨fk, fh, fe, ⟨fA, fc, fp⟩, fs⟩ := fr
    dsimp only [FrameV.o, OpV.val] at g0 g1 g2 g3 g4
    clear hcq
    go_wp2_with (refine r_ ?_)
    refine ⟨?_⟩
    go_region_law (first
     | (refine mv_ _ rfl _ _ 56 rfl base 46 j0 (.agg #[.int .i64 0, .int .i64 0, .int .i64 0, .slice none 0 0, .string ⟨#[]⟩]) 5 64 Tryz.underlying56 hj0 hy0 hy1 hy2 rfl (by decide) _ _ _ _ rfl (HL.out.own.later bz_) (fun _ => True) _ _ _ _ rfl (by first | exact bl_ (by rfl) (by simp) | exact Sl.moved (bl_ (W := wr) (by rfl) rfl) (fun _ _ => ⟨trivial, rfl⟩)) ?_ ?_ ?_ ?_ ?_ ?_; (intro u hu; simp at hu; rcases hu with rfl | rfl | rfl | rfl | rfl <;> rfl); (decide); (unfold maxLen; omega); omega; (simp; omega); intro A' c' w3 hown' hgrow hat; obtain ⟨y0, y1, y2, y3, y4, z0, z1, z2, z3, z4, yz⟩ := i_ (HL.out.after (show Below wr.heap.size wr _ from bz_) hgrow)))
    all_goals (
     have hbW : Below wr.heap.size wr _ := (show Below wr.heap.size wr (wr.alloc (.cells #[.int .i64 fk, .int .i64 fh, .int .i64 fe, .slice fA fp.length fc, .string fs] 46)).drew from bz_)
     refine n_ (fun G => LinkSt G base X ⟨e, n, A', c', s ++ [⟨fk, fh, fe, ⟨fA, fc, fp⟩, fs⟩], some ⟨b, o, none⟩, qc, ⟨fk, fh, fe, ⟨fA, fc, fp⟩, fs⟩ :: q, hh⟩ ∧ Upon base X w G ∧ (Spare X (Value.slice l.sA l.s.length l.sc).ownBlock w G ∧ Moved w (Value.slice l.sA l.s.length l.sc).ownBlock (Value.slice A' (s.length + 1) c').ownBlock)) ⟨HL.out.push (f := ⟨fk, fh, fe, ⟨fA, fc, fp⟩, fs⟩) hbW HOP.out hgrow hown' hat, (HU.out.trans (Upon.of_below hbW (by omega))).trans ((Upon.grown hgrow (by have := hbW.size; omega) (fun g hg => (HL.out.own.lt hg).1)).trans (Upon.set _ _ _)), ((HSP.out.below hsz hbW).grown HMV.out (Nat.le_trans hsz hbW.size) hgrow).set 2 _, HMV.out.next (Nat.le_trans hsz hbW.size) hat⟩ ?_
     clear hown' hgrow hat y0 y1 y2 y3 y4 z0 z1 z2 z3 z4 yz hbW
     rintro G ⟨hL2, hU2, hSP2, hMV2⟩
     have HSP2 := h_ hSP2
     have HMV2 := h_ hMV2
     have hl0 := gw_ x2
     clear x0 x1 x2 x3 x4 f0 f1 f2 f3 f4 hxz
     obtain ⟨x0, x1, x2, x3, x4, f0, f1, f2, f3, f4, hxz⟩ := i_ hL2.at_
     have HL2 := h_ hL2
     have HU2 := h_ hU2
     clear hL2 hU2 hSP2 hMV2
     have hw : wrap64 (n + 1) = n + 1 := by have := HN.out; unfold wrap64; omega
     have HS := h_ (show s.length = l.s.length + m from HSL.out)
     go_wp2_with fail
     have hqc : q.length + 1 ≤ qc := HL2.out.qcap
     have hql : q.length + 1 = l.q.length - m := HQL.out
     have hnn := HN.out
     (try rw [hw])
     have hP : ∀ qA', qA' = (if qc = 1 then some ⟨b, o, none⟩ else some ⟨b, o + 5, none⟩) → LinkSt ((G.setCell ⟨X, 3, none⟩ (.slice qA' q.length (qc - 1))).setCell ⟨X, 1, none⟩ (.int .i64 (n + 1))) base X ⟨e, n + 1, A', c', s ++ [⟨fk, fh, fe, ⟨fA, fc, fp⟩, fs⟩], qA', qc - 1, q, hh⟩ := fun qA' hq => by
      refine HL2.out.pop ?_ rfl
      by_cases h1 : qc = 1
      · exact .inr (List.eq_nil_of_length_eq_zero (by omega))
      · exact .inl (by rw [hq, if_neg h1]; rfl)
     have hP' := hP _ rfl
     go_roundw
     case rel => exact ⟨m + 1, ⟨e, n + 1, A', c', s ++ [⟨fk, fh, fe, ⟨fA, fc, fp⟩, fs⟩], _, qc - 1, q, hh⟩, (show LinkD.mk e (n + 1) ((s ++ [(⟨fk, fh, fe, ⟨fA, fc, fp⟩, fs⟩ : FrameV)]).map FrameV.d) (q.map FrameV.d) hh = _ by rw [List.map_append]; exact lq_ HD.out), by omega, by have := HS.out; omega, by push_cast; omega, hP', ⟨fun f hf => by
      rcases List.mem_append.1 hf with hf | hf
      · exact HM.out.1 f hf
      · obtain rfl := List.mem_singleton.1 hf
        exact HM.out.2 _ (List.mem_cons_self ..), fun f hf => HM.out.2 f (List.mem_cons_of_mem _ hf)⟩, HU2.out.trans ((Upon.set _ _ _).trans (Upon.set _ _ _)), (HSP2.out.set 3 _).set 1 _, (by have h9 := HMV2.out; rw [← show (s ++ [(⟨fk, fh, fe, ⟨fA, fc, fp⟩, fs⟩ : FrameV)]).length = s.length + 1 by simp] at h9; exact h9)⟩
     case measure =>
      have h2 := gw_ (i_ hP'.at_).2.2.1
      have := HS.out
      rw [h2, hl0]
      simp
      omega)
  · have hmN : m = fillN l.d := by
     have h1 := HSL.out
     have h2 := HQL.out
     have h3 := HN.out
     unfold fillN
     simp only [List.length_map]
     omega
    have HF := h_ (show (⟨e, n, sA, sc, s, qA, qc, q, hh⟩ : LinkV).d = fillL l.d from HD.out.trans (by rw [hmN]; rfl))
    have HMN := h_ (show s.length = l.s.length + fillN l.d by rw [← hmN]; exact HSL.out)
    have hn1 : 1 ≤ n ∧ n ≤ 1048576 ∧ s.length ≤ 8 := by have := HN.out; have := HSL.out; exact ⟨by omega, by omega, by omega⟩
    have hle : l.s.length ≤ s.length := by have := HSL.out; omega
    have HPK := h_ (fun W k hk2 hs => yh_ W ⟨e, n, sA, sc, s, qA, qc, q, hh⟩ k hk2 hs HM.out.1 hn1)
    dsimp only at HPK
    obtain ⟨w1, hw1⟩ : ∃ w1, w1 = wr := ⟨_, rfl⟩
    subst hw1
    clear hmN
    go_wp2_with fail
    all_goals (
     go_loopw [4, 5] (fun out i wr => ∃ (j : Nat) (L' : List PacketV) (Ao : Option Addr) (co : Nat), i = .int .i64 j ∧ Hid (j = l.s.length + L'.length) ∧ j ≤ s.length ∧ out = .slice Ao L'.length co ∧ Hid (L'.map PacketV.d = (List.range L'.length).map (fun i => packetX (fillL l.d) (l.s.length + i))) ∧ PacketsOwn wr w1.heap.size Ao co L' ∧ Below w1.heap.size w1 wr) (fun _ i _ => s.length - (intOf i).toNat)
     case atStart => exact ⟨l.s.length, [], none, 0, rfl, rfl, hle, rfl, rfl, RowOwn.nil _ _, Below.refl _ _⟩
     case round =>
      obtain ⟨j, L', Ao, co, rfl, hj, hjs, rfl, hps, hown, hbw⟩ := hrel
      clear x0 x1 x2 x3 x4 f0 f1 f2 f3 f4 hxz
      have HLR := h_ (HL.out.later hbw)
      obtain ⟨x0, x1, x2, x3, x4, f0, f1, f2, f3, f4, hxz⟩ := i_ HLR.out.at_
      have hsz2 := hbw.size
      dsimp only at x0 x1 x2 x3 x4
      by_cases hlt : j < s.length
      · have HT := h_ (show (List.range (L'.length + 1)).map (fun i => packetX (fillL l.d) (l.s.length + i)) = (List.range L'.length).map (fun i => packetX (fillL l.d) (l.s.length + i)) ++ [packetD ⟨e, n, sA, sc, s, qA, qc, q, hh⟩ j] by rw [List.range_succ, List.map_append, ← nx_, HF.out, hj.out]; rfl)
        have HP := h_ (fun W hs => HPK.out W j hlt hs)
        have HO := h_ hown
        have hL8 : L'.length ≤ 8 := by have := hj.out; omega
        clear hown
        generalize packetD ⟨e, n, sA, sc, s, qA, qc, q, hh⟩ j = pk at *
        obtain ⟨pe, pn, pb, pa, ⟨fk, fh, fe, fp, fs⟩⟩ := pk
        unfold RetPacket at HP
        dsimp only at HP
        go_wp2_with fail
        refine (HP.out _ HLR.out.in_.s).mono ?_
        rintro r w2 ⟨A2, c2, rfl, ho2, hb2⟩
        have HX := h_ ((HO.out.later hb2).row.alloc (.cells #[.int .i64 pe, .int .i64 pn, .bool pb, .int .i64 pa, .int .i64 fk, .int .i64 fh, .int .i64 fe, .slice A2 fp.length c2, .string fs] 48))
        have HO2 := h_ ho2
        have HB2 := h_ hb2
        have hzw := hb2.size
        clear ho2 hb2
        go_wp2_with (refine bg_ rfl ?_)
        refine ⟨?_⟩
        refine j_ _ rfl _ _ 90 rfl w1.heap.size 48 i0 (.agg #[.int .i64 0, .int .i64 0, .bool false, .int .i64 0, .int .i64 0, .int .i64 0, .int .i64 0, .slice none 0 0, .string ⟨#[]⟩]) 9 96 Tryz.underlying90 hi0 hz0 hz1 hz2 rfl (by decide) _ _ _ rfl HX.out (fun _ => True) _ _ _ _ rfl (bl_ (by rfl) (by simp)) ?c1 ?c2 ?c3 ?c4 ?_
        case c1 => intro u hu; simp at hu; rcases hu with rfl | rfl | rfl | rfl | rfl | rfl | rfl | rfl | rfl <;> rfl
        case c2 => unfold maxLen; omega
        case c3 => omega
        case c4 => simp; omega
        intro A' c' w3 hown' hgrow hat
        have hP := RowOwn.push (f := PacketV.cells) (op := PacketV.op) (x := ⟨pe, pn, pb, pa, ⟨fk, fh, fe, ⟨A2, c2, fp⟩, fs⟩⟩) HO.out hsz2 HB2.out HO2.out hgrow hown' hat
        have hF := bs_ hbw HB2.out hgrow (fun g hg => (HO.out.row.lt g hg).1)
        clear hown' hgrow hat
        go_wp2_with fail
        go_roundw
        case rel =>
         have hll : (L' ++ [(⟨pe, pn, pb, pa, ⟨fk, fh, fe, ⟨A2, c2, fp⟩, fs⟩⟩ : PacketV)]).length = L'.length + 1 := by simp
         have HJ := h_ (show j + 1 = l.s.length + (L' ++ [(⟨pe, pn, pb, pa, ⟨fk, fh, fe, ⟨A2, c2, fp⟩, fs⟩⟩ : PacketV)]).length by have := hj.out; omega)
         have HPS := h_ (show (L' ++ [(⟨pe, pn, pb, pa, ⟨fk, fh, fe, ⟨A2, c2, fp⟩, fs⟩⟩ : PacketV)]).map PacketV.d = (List.range (L' ++ [(⟨pe, pn, pb, pa, ⟨fk, fh, fe, ⟨A2, c2, fp⟩, fs⟩⟩ : PacketV)]).length).map (fun i => packetX (fillL l.d) (l.s.length + i)) by rw [hll, HT.out, List.map_append, hps.out]; rfl)
         exact ⟨j + 1, L' ++ [(⟨pe, pn, pb, pa, ⟨fk, fh, fe, ⟨A2, c2, fp⟩, fs⟩⟩ : PacketV)], A', c', by go_num, HJ, by omega, by rw [hll], HPS, hP, hF⟩
        case measure => simp [intOf]; omega
      · have HK := h_ (show L'.length = fillN l.d by have := hj.out; have := HMN.out; omega)
        go_wp2_with fail
        go_ret
        refine ⟨⟨e, n, sA, sc, s, qA, qc, q, hh⟩, Ao, co, L', rfl, HF.out, ?_, HLR.out, hown.mono hsz, HU.out.trans (Upon.of_below hbw (by omega)), HSP.out.below (by omega) hbw, w1, HL.out, hbw, hown, hsz⟩
        rw [hps.out, HK.out]
        unfold fillP
        simp only [List.length_map])
theorem RowOwn.push2 {α : Type} {t : TypeId} {n : Nat} {f : α → List Value} {op : α → OpV} {wr W2 w3 : World} {base : Nat} {Ao A' : Option Addr} {co c' : Nat} {L : List α} {x : α} (hO : RowOwn t n f op wr base Ao co L) (hbs : base ≤ wr.heap.size) (hW : Below wr.heap.size wr W2)
 (hx : OpIn (fun b => wr.heap.size ≤ b ∧ b < W2.heap.size) W2 (op x).A (op x).ps) (hg : W2.grownBy w3 (Value.slice Ao L.length co).ownBlock)
 (hown : w3.ownsRow base t n (.slice A' (L.length + 1) c') (L.length + 1) (L.flatMap f ++ f x))
 (hat : (Value.slice A' (L.length + 1) c').ownBlock = (Value.slice Ao L.length co).ownBlock ∨ (Value.slice A' (L.length + 1) c').ownBlock = some W2.heap.size) : RowOwn t n f op w3 base A' c' (L ++ [x]) := by
 have hs2 := hW.size
 have hs3 := hg.size
 have hlen : (L ++ [x]).length = L.length + 1 := by simp
 have hold : ∀ b, b < W2.heap.size → (Value.slice Ao L.length co).ownBlock ≠ some b → w3.heap[b]? = W2.heap[b]? := fun b hb hne => hg.block b hb (fun e => hne e.symm)
 have hnew : ∀ b, b < W2.heap.size → (Value.slice Ao L.length co).ownBlock ≠ some b → (Value.slice A' (L.length + 1) c').ownBlock ≠ some b := fun b hb hne e => by
  rcases hat with h | h
  · exact hne (h.symm.trans e)
  · rw [h] at e
    simp at e
    omega
 refine ⟨by rw [hlen]; simpa using hown, fun p hp => ?_⟩
 rw [hlen]
 rcases List.mem_append.1 hp with hp | hp
 · refine (hO.each p hp).moved fun b hb => ⟨⟨⟨hb.1.1, by omega⟩, hnew b (by omega) hb.2⟩, (hold b (by omega) hb.2).trans (hW.block b hb.1.2)⟩
 · obtain rfl : p = x := by simpa using hp
   refine hx.moved fun b hb => ?_
   have hne : (Value.slice Ao L.length co).ownBlock ≠ some b := fun e => by have := (hO.row.lt b e).2; omega
   exact ⟨⟨⟨by omega, by omega⟩, hnew b (by omega) hne⟩, hold b hb.2 hne⟩
theorem dk_ {wr wr0 w2 W2 : World} {A : Option Addr} {ps : List PartD} (h : OpIn (fun b => wr0.heap.size ≤ b ∧ b < w2.heap.size) w2 A ps) (h0 : wr.heap.size ≤ wr0.heap.size) (hb : Below w2.heap.size w2 W2) : OpIn (fun b => wr.heap.size ≤ b ∧ b < W2.heap.size) W2 A ps :=
 h.moved fun b hx => ⟨⟨Nat.le_trans h0 hx.1, Nat.lt_of_lt_of_le hx.2 hb.size⟩, hb.block b hx.2⟩
abbrev zeroL : LinkV := ⟨0, 0, none, 0, [], none, 0, [], 0⟩
structure OutAt (w0 w : World) (R X base : Nat) (l lx : LinkV) : Prop where
 p : LinkAt w w0.heap.size l
 r : LinkAt w R zeroL
 x : LinkAt w X lx
 b : Below w0.heap.size w0 w
 s : base ≤ w.heap.size
theorem OutAt.later {w0 w w' : World} {R X base : Nat} {l lx : LinkV} (k : OutAt w0 w R X base l lx) (hb : Below w.heap.size w w') : OutAt w0 w' R X base l lx :=
 ⟨(hb.block _ (i_ k.p).2.2.2.2.2.2.2.2.2.2).trans k.p, (hb.block _ (i_ k.r).2.2.2.2.2.2.2.2.2.2).trans k.r, (hb.block _ (i_ k.x).2.2.2.2.2.2.2.2.2.2).trans k.x, bThen k.b hb, Nat.le_trans k.s hb.size⟩
theorem OutAt.grown {w0 w w3 : World} {R X base : Nat} {l lx : LinkV} {ob : Option Nat} (k : OutAt w0 w R X base l lx) (hP : w0.heap.size < R ∧ R < X ∧ X < base) (hg : w.grownBy w3 ob) (hob : ∀ g, ob = some g → base ≤ g) : OutAt w0 w3 R X base l lx := by
 have hs := k.s
 have hn : ∀ b, b < base → some b ≠ ob := fun b hb e => by have := hob b e.symm; omega
 exact ⟨(hg.block _ (by omega) (hn _ (by omega))).trans k.p, (hg.block _ (by omega) (hn _ (by omega))).trans k.r, (hg.block _ (by omega) (hn _ (by omega))).trans k.x, k.b.grown hg (by omega) (fun g h => by have := hob g h; omega), Nat.le_trans k.s hg.size⟩
theorem OutAt.sent {w0 w : World} {R X base : Nat} {l : LinkV} {e n h : Int} {sA qA A : Option Addr} {sc qc c : Nat} {s q L : List FrameV} (k : OutAt w0 w R X base l ⟨e, n, sA, sc, s, qA, qc, q, h⟩) (hP : w0.heap.size < R ∧ R < X ∧ X < base) {m : Nat} (hm : L.length = m) : OutAt w0 (w.setCell ⟨X, 2, none⟩ (.slice A m c)) R X base l ⟨e, n, A, c, L, qA, qc, q, h⟩ :=
 ⟨(bH_ (by show w0.heap.size ≠ X; omega)).trans k.p, (bH_ (by show R ≠ X; omega)).trans k.r, by subst hm; exact e_ 2 _ k.x, bSet k.b (p := ⟨X, 2, none⟩) (by show w0.heap.size ≤ X; omega) _, by simpa [World.setCell] using k.s⟩
theorem OutAt.queue {w0 w : World} {R X base : Nat} {l : LinkV} {e n h : Int} {sA qA A : Option Addr} {sc qc c : Nat} {s q L : List FrameV} (k : OutAt w0 w R X base l ⟨e, n, sA, sc, s, qA, qc, q, h⟩) (hP : w0.heap.size < R ∧ R < X ∧ X < base) {m : Nat} (hm : L.length = m) : OutAt w0 (w.setCell ⟨X, 3, none⟩ (.slice A m c)) R X base l ⟨e, n, sA, sc, s, A, c, L, h⟩ :=
 ⟨(bH_ (by show w0.heap.size ≠ X; omega)).trans k.p, (bH_ (by show R ≠ X; omega)).trans k.r, by subst hm; exact e_ 3 _ k.x, bSet k.b (p := ⟨X, 3, none⟩) (by show w0.heap.size ≤ X; omega) _, by simpa [World.setCell] using k.s⟩
structure FramesTo (w : World) (base mid : Nat) (A : Option Addr) (c : Nat) (L : List FrameV) : Prop where
 own : FramesOwn w base A c L
 low : ∀ g, (Value.slice A L.length c).ownBlock = some g → g < mid
 ops : ∀ f ∈ L, OpIn (fun b => (base ≤ b ∧ b < mid) ∧ (Value.slice A L.length c).ownBlock ≠ some b) w f.o.A f.o.ps
theorem FramesTo.of {w : World} {base : Nat} {A : Option Addr} {c : Nat} {L : List FrameV} (h : FramesOwn w base A c L) : FramesTo w base w.heap.size A c L := ⟨h, fun g hg => (h.row.lt g hg).2, h.each⟩
theorem FramesTo.kept {w w' : World} {base mid : Nat} {A : Option Addr} {c : Nat} {L : List FrameV} (h : FramesTo w base mid A c L) (hm : mid ≤ w'.heap.size) (hk : ∀ b, base ≤ b → b < mid → w'.heap[b]? = w.heap[b]?) : FramesTo w' base mid A c L := by
 refine ⟨⟨⟨h.own.row.1, ?_⟩, fun f hf => (h.ops f hf).moved fun b hb => ⟨⟨⟨hb.1.1, by omega⟩, hb.2⟩, hk b hb.1.1 hb.1.2⟩⟩, h.low, fun f hf => (h.ops f hf).moved fun b hb => ⟨hb, hk b hb.1.1 hb.1.2⟩⟩
 rcases h.own.row.2 with hn | ⟨g, cap, cur, e, hb, hg, rest⟩
 · exact .inl hn
 · have hlt := h.low g (by rw [e]; rfl)
   exact .inr ⟨g, cap, cur, e, hb, (hk g hb hlt).trans hg, rest⟩
theorem FramesTo.mono {w : World} {base base' mid : Nat} {A : Option Addr} {c : Nat} {L : List FrameV} (h : FramesTo w base mid A c L) (hb : base' ≤ base) : FramesTo w base' mid A c L :=
 ⟨h.own.mono hb, h.low, fun f hf => (h.ops f hf).moved fun _ hx => ⟨⟨⟨Nat.le_trans hb hx.1.1, hx.1.2⟩, hx.2⟩, rfl⟩⟩
def RetOwn (w : World) (d : LinkD) (e : Ending) (w' : World) : Prop :=
 ∃ (l : LinkV) (mid : Nat), e = .returned l.val ∧ l.d = d ∧ (w.heap.size ≤ mid ∧ mid ≤ w'.heap.size) ∧ FramesTo w' w.heap.size mid l.sA l.sc l.s ∧ FramesOwn w' mid l.qA l.qc l.q ∧ Below w.heap.size w w'
theorem wb_ (w : World) (l : LinkV) (hi : l.In w) (hm : l.Small) : Calls Tryz.prog 111 #[l.val] w (RetOwn w l.d) := by
 obtain ⟨j0, hj0, hy0, hy1, hy2⟩ := info_parts infoFrame
 obtain ⟨e, n, sA, sc, s, qA, qc, q, h⟩ := l
 obtain ⟨W1, hW1⟩ : ∃ W1, W1 = w.alloc (.cells #[.int .i64 e, .int .i64 n, .slice sA s.length sc, .slice qA q.length qc, .int .i64 h] 58) := ⟨_, rfl⟩
 obtain ⟨W2, hW2⟩ : ∃ W2, W2 = W1.alloc (.cells #[.int .i64 0, .int .i64 0, .slice none 0 0, .slice none 0 0, .int .i64 0] 58) := ⟨_, rfl⟩
 obtain ⟨WA, hWA⟩ : ∃ WA, WA = W2.alloc (.cells #[.int .i64 e, .int .i64 n, .slice none 0 0, .slice none 0 0, .int .i64 h] 58) := ⟨_, rfl⟩
 have g1 : W1.heap.size = w.heap.size + 1 := by rw [hW1]; simp
 have g2 : W2.heap.size = W1.heap.size + 1 := by rw [hW2]; simp
 have g3 : WA.heap.size = W2.heap.size + 1 := by rw [hWA]; simp
 have k1 : Below w.heap.size w W1 := by rw [hW1]; exact bA_
 have k2 : Below W1.heap.size W1 W2 := by rw [hW2]; exact bA_
 have k3 : Below W2.heap.size W2 WA := by rw [hWA]; exact bA_
 have HOA := h_ (show OutAt w WA W1.heap.size W2.heap.size WA.heap.size ⟨e, n, sA, sc, s, qA, qc, q, h⟩ ⟨e, n, none, 0, [], none, 0, [], h⟩ from
  ⟨(k3.block _ (by omega)).trans ((k2.block _ (by omega)).trans (by rw [hW1]; exact heap_alloc_new _ _)), (k3.block _ (by omega)).trans (by rw [hW2]; exact heap_alloc_new _ _), by rw [hWA]; exact heap_alloc_new _ _, bThen k1 (bThen k2 k3), Nat.le_refl _⟩)
 have HW := h_ (show ((w.alloc (.cells #[.int .i64 e, .int .i64 n, .slice sA s.length sc, .slice qA q.length qc, .int .i64 h] 58)).alloc (.cells #[.int .i64 0, .int .i64 0, .slice none 0 0, .slice none 0 0, .int .i64 0] 58)).alloc (.cells #[.int .i64 e, .int .i64 n, .slice none 0 0, .slice none 0 0, .int .i64 h] 58) = WA by rw [hWA, hW2, hW1])
 obtain ⟨R, hR⟩ : ∃ R, R = W1.heap.size := ⟨_, rfl⟩
 obtain ⟨X, hX⟩ : ∃ X, X = W2.heap.size := ⟨_, rfl⟩
 have HE1 := h_ (show w.heap.size + 1 + 1 = X by omega)
 have HE2 := h_ (show w.heap.size + 1 = R by omega)
 have hP : w.heap.size < R ∧ R < X ∧ X < WA.heap.size := by omega
 rw [← hR, ← hX] at HOA
 have HI := h_ hi
 have HM := h_ hm
 have hsl := hm.sl
 have hql := hm.ql
 clear hR hX k1 k2 k3 g1 g2 g3 hWA hW2 hW1 hi hm
 go_enter Tryz.func111, Tryz.ntmps111
 go_wp2_with fail
 rw [HW.out, HE1.out, HE2.out]
 go_loopw [18] (fun i wr => ∃ (k : Nat) (L' : List FrameV) (Ao : Option Addr) (co : Nat), i = .int .i64 k ∧ k ≤ s.length ∧ L'.length = k ∧ Hid (L'.map FrameV.d = (s.take k).map FrameV.d) ∧ OutAt w wr R X WA.heap.size ⟨e, n, sA, sc, s, qA, qc, q, h⟩ ⟨e, n, Ao, co, L', none, 0, [], h⟩ ∧ FramesOwn wr WA.heap.size Ao co L') (fun i _ => s.length - (intOf i).toNat)
 case atStart => exact ⟨0, [], none, 0, rfl, Nat.zero_le _, rfl, rfl, HOA.out, RowOwn.nil _ _⟩
 case round =>
  obtain ⟨k, L', Ao, co, rfl, hk, hL', hps, hout, hown⟩ := hrel
  subst hL'
  have HOUT := h_ hout
  have hsz := hout.s
  obtain ⟨x0, x1, x2, x3, x4, f0, f1, f2, f3, f4, hxz⟩ := i_ hout.x
  have hbw := h_ hout.b
  have HO := h_ hown
  (try dsimp only at x0 x1 x2 x3 x4)
  clear hout hown
  by_cases hlt : L'.length < s.length
  · obtain ⟨b, o, rfl, hbs, g0, g1, g2, g3, g4, hop⟩ := (FramesIn.later HI.out.s hbw.out).at_ hlt
    have hsm := (HM.out.s _ (List.getElem_mem hlt)).op.len
    have HT := h_ (show (s.take (L'.length + 1)).map FrameV.d = (s.take L'.length).map FrameV.d ++ [s[L'.length].d] by rw [List.take_succ_eq_append_getElem hlt, List.map_append]; rfl)
    (try dsimp only at hsm)
    generalize s[L'.length] = f at *
    obtain ⟨fk, fh, fe, ⟨fA, fc, fp⟩, fs⟩ := f
    (try dsimp only at *)
    have HC := h_ (fun W hs => ep_ W fk fh fe fA fc fp fs hs hsm)
    have HOP := h_ hop
    clear hop hsm
    go_wp2_with (refine r_ ?_)
    refine ⟨?_⟩
    go_region_law (first
     | (refine w_ _ rfl _ _ 56 rfl WA.heap.size 46 j0 (.agg #[.int .i64 0, .int .i64 0, .int .i64 0, .slice none 0 0, .string ⟨#[]⟩]) 5 64 Tryz.underlying56 hj0 hy0 hy1 hy2 rfl (by decide) _ _ _ rfl (HO.out.later bz_).row (fun _ => True) _ _ _ _ rfl (bl_ (by rfl) (by simp)) ?_ ?_ ?_ ?_ ?_; (intro u hu; simp at hu; rcases hu with rfl | rfl | rfl | rfl | rfl <;> rfl); (unfold maxLen; omega); omega; (simp; omega); intro A' c' w3 hown' hgrow hat; obtain ⟨y0, y1, y2, y3, y4, z0, z1, z2, z3, z4, yz⟩ := i_ ((HOUT.out.later (show Below wr.heap.size wr _ from bz_)).grown hP hgrow (fun g hg => (HO.out.row.lt g hg).1)).x)
     | (go_simp; go_at_call 112; refine (HC.out _ ?_).mono ?_; exact Sl.later HOP.out bz_; rintro r w2 ⟨A2, c2, rfl, ho2, hb2⟩; obtain ⟨⟨d2, os2⟩, rfl⟩ := a_ hb2))
    all_goals (
     have hll : (L' ++ [(⟨fk, fh, fe, ⟨A2, c2, fp⟩, fs⟩ : FrameV)]).length = L'.length + 1 := by simp
     have hP3 := RowOwn.push2 (x := (⟨fk, fh, fe, ⟨A2, c2, fp⟩, fs⟩ : FrameV)) HO.out (by omega) (show Below wr.heap.size wr _ from bz_) (dk_ ho2 (by simp) bz_) hgrow hown' hat
     have hO3 := ((HOUT.out.later (show Below wr.heap.size wr _ from bz_)).grown hP hgrow (fun g hg => (HO.out.row.lt g hg).1)).sent (A := A') (c := c') hP hll
     refine n_ (fun G => OutAt w G R X WA.heap.size ⟨e, n, some ⟨b, o, none⟩, sc, s, qA, qc, q, h⟩ ⟨e, n, A', c', (L' ++ [(⟨fk, fh, fe, ⟨A2, c2, fp⟩, fs⟩ : FrameV)]), none, 0, [], h⟩ ∧ FramesOwn G WA.heap.size A' c' (L' ++ [(⟨fk, fh, fe, ⟨A2, c2, fp⟩, fs⟩ : FrameV)])) ⟨hO3, hP3.kept (by simp [World.setCell]) (fun g hg _ => bH_ (by show g ≠ X; omega))⟩ ?_
     clear hP3 hO3 hown' hgrow hat ho2 hb2 y0 y1 y2 y3 y4 z0 z1 z2 z3 z4 yz
     rintro G ⟨hO4, hP4⟩
     go_wp2_with fail
     go_roundw
     case rel => exact ⟨L'.length + 1, L' ++ [(⟨fk, fh, fe, ⟨A2, c2, fp⟩, fs⟩ : FrameV)], A', c', by go_num, by omega, hll, by rw [List.map_append, hps.out, HT.out]; rfl, hO4, hP4⟩
     case measure => simp [intOf]; omega)
  · obtain hk' : L'.length = s.length := by omega
    rw [hk', List.take_length] at hps
    have HLS := h_ hk'
    obtain ⟨wm, hwm⟩ : ∃ wm, wm = wr := ⟨_, rfl⟩
    subst hwm
    have hmid := hsz
    have HS1 := h_ (FramesTo.of HO.out)
    have HD1 := h_ hps.out
    have HOM := HOUT
    clear hk' hps
    obtain ⟨p0, p1, p2, p3, p4, _, _, _, _, _, _⟩ := i_ HOUT.out.p
    (try dsimp only at p0 p1 p2 p3 p4)
    go_wp2_with fail
    go_loopw [33] (fun i wr => ∃ (k : Nat) (Lq : List FrameV) (Bo : Option Addr) (cq : Nat), i = .int .i64 k ∧ k ≤ q.length ∧ Lq.length = k ∧ Hid (Lq.map FrameV.d = (q.take k).map FrameV.d) ∧ OutAt w wr R X WA.heap.size ⟨e, n, sA, sc, s, qA, qc, q, h⟩ ⟨e, n, Ao, co, L', Bo, cq, Lq, h⟩ ∧ FramesOwn wr wm.heap.size Bo cq Lq ∧ Upon wm.heap.size X wm wr) (fun i _ => q.length - (intOf i).toNat)
    case atStart => exact ⟨0, [], none, 0, rfl, Nat.zero_le _, rfl, rfl, HOM.out, RowOwn.nil _ _, Upon.refl _ _ _⟩
    case round =>
     obtain ⟨k, Lq, Bo, cq, rfl, hk, hL', hps, hout, hown, hup⟩ := hrel
     subst hL'
     have HOUT := h_ hout
     have hsz := hout.s
     obtain ⟨x0, x1, x2, x3, x4, f0, f1, f2, f3, f4, hxz⟩ := i_ hout.x
     have hbw := h_ hout.b
     have hszm := hup.size
     have HUP := h_ hup
     have HO := h_ hown
     (try dsimp only at x0 x1 x2 x3 x4)
     clear hout hown hup
     by_cases hlt : Lq.length < q.length
     · obtain ⟨b, o, rfl, hbs, g0, g1, g2, g3, g4, hop⟩ := (FramesIn.later HI.out.q hbw.out).at_ hlt
       have hsm := (HM.out.q _ (List.getElem_mem hlt)).op.len
       have HT := h_ (show (q.take (Lq.length + 1)).map FrameV.d = (q.take Lq.length).map FrameV.d ++ [q[Lq.length].d] by rw [List.take_succ_eq_append_getElem hlt, List.map_append]; rfl)
       (try dsimp only at hsm)
       generalize q[Lq.length] = f at *
       obtain ⟨fk, fh, fe, ⟨fA, fc, fp⟩, fs⟩ := f
       (try dsimp only at *)
       have HC := h_ (fun W hs => ep_ W fk fh fe fA fc fp fs hs hsm)
       have HOP := h_ hop
       clear hop hsm
       go_wp2_with (refine r_ ?_)
       refine ⟨?_⟩
       go_region_law (first
        | (refine w_ _ rfl _ _ 56 rfl wm.heap.size 46 j0 (.agg #[.int .i64 0, .int .i64 0, .int .i64 0, .slice none 0 0, .string ⟨#[]⟩]) 5 64 Tryz.underlying56 hj0 hy0 hy1 hy2 rfl (by decide) _ _ _ rfl (HO.out.later bz_).row (fun _ => True) _ _ _ _ rfl (bl_ (by rfl) (by simp)) ?_ ?_ ?_ ?_ ?_; (intro u hu; simp at hu; rcases hu with rfl | rfl | rfl | rfl | rfl <;> rfl); (unfold maxLen; omega); omega; (simp; omega); intro A' c' w3 hown' hgrow hat; obtain ⟨y0, y1, y2, y3, y4, z0, z1, z2, z3, z4, yz⟩ := i_ ((HOUT.out.later (show Below wr.heap.size wr _ from bz_)).grown hP hgrow (fun g hg => Nat.le_trans hmid (HO.out.row.lt g hg).1)).x)
        | (go_simp; go_at_call 112; refine (HC.out _ ?_).mono ?_; exact Sl.later HOP.out bz_; rintro r w2 ⟨A2, c2, rfl, ho2, hb2⟩; obtain ⟨⟨d2, os2⟩, rfl⟩ := a_ hb2))
       all_goals (
        have hll : (Lq ++ [(⟨fk, fh, fe, ⟨A2, c2, fp⟩, fs⟩ : FrameV)]).length = Lq.length + 1 := by simp
        have hP3 := RowOwn.push2 (x := (⟨fk, fh, fe, ⟨A2, c2, fp⟩, fs⟩ : FrameV)) HO.out (by omega) (show Below wr.heap.size wr _ from bz_) (dk_ ho2 (by simp) bz_) hgrow hown' hat
        have hO3 := ((HOUT.out.later (show Below wr.heap.size wr _ from bz_)).grown hP hgrow (fun g hg => Nat.le_trans hmid (HO.out.row.lt g hg).1)).queue (A := A') (c := c') hP hll
        have hU3 := (HUP.out.trans (Upon.of_below (show Below wr.heap.size wr _ from bz_) (by omega))).trans (Upon.grown (X := X) hgrow (by simp; omega) (fun g hg => (HO.out.row.lt g hg).1))
        refine n_ (fun G => OutAt w G R X WA.heap.size ⟨e, n, sA, sc, s, some ⟨b, o, none⟩, qc, q, h⟩ ⟨e, n, Ao, co, L', A', c', (Lq ++ [(⟨fk, fh, fe, ⟨A2, c2, fp⟩, fs⟩ : FrameV)]), h⟩ ∧ FramesOwn G wm.heap.size A' c' (Lq ++ [(⟨fk, fh, fe, ⟨A2, c2, fp⟩, fs⟩ : FrameV)]) ∧ Upon wm.heap.size X wm G) ⟨hO3, hP3.kept (by simp [World.setCell]) (fun g hg _ => bH_ (by show g ≠ X; omega)), hU3.trans (Upon.set _ _ _)⟩ ?_
        clear hP3 hO3 hU3 hown' hgrow hat ho2 hb2 y0 y1 y2 y3 y4 z0 z1 z2 z3 z4 yz
        rintro G ⟨hO4, hP4, hU4⟩
        go_wp2_with fail
        go_roundw
        case rel => exact ⟨Lq.length + 1, Lq ++ [(⟨fk, fh, fe, ⟨A2, c2, fp⟩, fs⟩ : FrameV)], A', c', by go_num, by omega, hll, by rw [List.map_append, hps.out, HT.out]; rfl, hO4, hP4, hU4⟩
        case measure => simp [intOf]; omega)
     · obtain hk' : Lq.length = q.length := by omega
       rw [hk', List.take_length] at hps
       have HOUT3 := HOUT
       obtain ⟨r0, r1, r2, r3, r4, s0, s1, s2, s3, s4, hrz⟩ := i_ HOUT.out.r
       have n1 : ¬ R = X := by omega
       have n2 : ¬ X = R := by omega
       have HDQ := h_ hps.out
       clear hk' hps
       go_wp2_with fail
       obtain ⟨W5, hW5⟩ : ∃ W5, W5 = (((((wr.setCell ⟨R, 0, none⟩ (.int .i64 e)).setCell ⟨R, 1, none⟩ (.int .i64 n)).setCell ⟨R, 2, none⟩ (.slice Ao L'.length co)).setCell ⟨R, 3, none⟩ (.slice Bo Lq.length cq)).setCell ⟨R, 4, none⟩ (.int .i64 h)) := ⟨_, rfl⟩
       rw [← hW5]
       have hO : Only R wr W5 := by rw [hW5]; exact ((((Only.set _ _ _).trans (Only.set _ _ _)).trans (Only.set _ _ _)).trans (Only.set _ _ _)).trans (Only.set _ _ _)
       have hR5 : LinkAt W5 R ⟨e, n, Ao, co, L', Bo, cq, Lq, h⟩ := by
        have h1 := e_ 4 (.int .i64 h) (e_ 3 (.slice Bo Lq.length cq) (e_ 2 (.slice Ao L'.length co) (e_ 1 (.int .i64 n) (e_ 0 (.int .i64 e) HOUT.out.r))))
        show W5.heap[R]? = some (Obj.cells #[.int .i64 e, .int .i64 n, .slice Ao L'.length co, .slice Bo Lq.length cq, .int .i64 h] 58 (0, 0))
        rw [hW5]
        exact h1
       clear hW5
       have hzO := hO.size
       refine n_ (fun G => LinkAt G R ⟨e, n, Ao, co, L', Bo, cq, Lq, h⟩ ∧ FramesTo G w.heap.size wm.heap.size Ao co L' ∧ FramesOwn G wm.heap.size Bo cq Lq ∧ Below w.heap.size w G ∧ wm.heap.size ≤ G.heap.size) ⟨hR5, ?_, HO.out.kept hO.size (fun b hb hl => hO.block b hl (by omega)), HOUT.out.b.trans (hO.below (by omega) (by omega)), by omega⟩ ?_
       · refine ((HS1.out.kept (w' := wr) hszm (fun b hb hl => HUP.out.block b hl (by omega))).kept (by omega) (fun b hb hl => hO.block b (by omega) (by omega))).mono (by omega)
       rintro G ⟨hR6, hS6, hQ6, hB6, hz6⟩
       have hwm : w.heap.size ≤ wm.heap.size := by omega
       clear hR5 hO hzO r0 r1 r2 r3 r4 s0 s1 s2 s3 s4 hrz
       obtain ⟨r0, r1, r2, r3, r4, _, _, _, _, _, _⟩ := i_ hR6
       refine bodyPost_ret (v := (⟨e, n, Ao, co, L', Bo, cq, Lq, h⟩ : LinkV).val) (by simp [results, Tryz.results111, go_sem, r0, r1, r2, r3, r4]) rfl ?_
       exact ⟨⟨e, n, Ao, co, L', Bo, cq, Lq, h⟩, wm.heap.size, rfl, by simp only [LinkV.d, HD1.out, HDQ.out], ⟨hwm, hz6⟩, hS6, hQ6, hB6⟩
theorem LinkSt.plain {w3 W : World} {B0 mid : Nat} {l : LinkV} (hS : FramesTo w3 B0 mid l.sA l.sc l.s) (hQ : FramesOwn w3 mid l.qA l.qc l.q) (hm : B0 ≤ mid ∧ mid ≤ w3.heap.size) (hW : Below w3.heap.size w3 W) (hX : LinkAt W w3.heap.size l) : LinkSt W B0 w3.heap.size l := by
 have hz := hW.size
 have hq : ∀ b, b < w3.heap.size → mid ≤ b → (Value.slice l.sA l.s.length l.sc).ownBlock ≠ some b := fun b _ h e1 => by have := hS.low b e1; omega
 refine ⟨hX, (OwnsAt.of_row hS.own.row).later hW, fun f hf => (hS.ops f hf).moved fun b hb => ⟨⟨⟨by omega, by omega⟩, by omega, hb.2⟩, hW.block b (by omega)⟩, ?_, fun f hf => (hQ.each f hf).moved fun b hb => ⟨⟨⟨by omega, by omega⟩, by omega, hq b hb.1.2 hb.1.1⟩, hW.block b hb.1.2⟩, (gm_ hQ.row).1, fun e1 => ?_⟩
 · exact (Sl.of_own _ hQ.row).moved fun b hb => ⟨⟨⟨by omega, by omega⟩, by omega, hq b hb.2 hb.1⟩, hW.block b hb.2⟩
 · have := hS.low _ e1
   omega
theorem LinkSt.make {w3 W2 w5 : World} {B0 mid : Nat} {e n h : Int} {sA qA A' : Option Addr} {sc qc c' : Nat} {s q : List FrameV} {f : FrameV} (hS : FramesTo w3 B0 mid sA sc s) (hQ : FramesOwn w3 mid qA qc q) (hm : B0 ≤ mid ∧ mid ≤ w3.heap.size) (hW : Below w3.heap.size w3 W2) (hX : LinkAt W2 w3.heap.size ⟨e, n, sA, sc, s, qA, qc, q, h⟩)
 (hf : OpIn (fun b => w3.heap.size < b ∧ b < W2.heap.size) W2 f.o.A f.o.ps) (hg : W2.grownBy w5 (Value.slice qA q.length qc).ownBlock)
 (hown : w5.ownsRow mid 46 5 (.slice A' (q.length + 1) c') (q.length + 1) (q.flatMap FrameV.cells ++ f.cells))
 (hat : (Value.slice A' (q.length + 1) c').ownBlock = (Value.slice qA q.length qc).ownBlock ∨ (Value.slice A' (q.length + 1) c').ownBlock = some W2.heap.size) :
 LinkSt (w5.setCell ⟨w3.heap.size, 3, none⟩ (.slice A' (q.length + 1) c')) B0 w3.heap.size ⟨e, n, sA, sc, s, A', c', q ++ [f], h⟩ := by
 have hz := hW.size
 have hXl : w3.heap.size < W2.heap.size := (i_ hX).2.2.2.2.2.2.2.2.2.2
 have hz5 := hg.size
 have hlen : (q ++ [f]).length = q.length + 1 := by simp
 have hqX : (Value.slice qA q.length qc).ownBlock ≠ some w3.heap.size := fun e1 => by have := (hQ.row.lt _ e1).2; omega
 have hold : ∀ b, b < W2.heap.size → b ≠ w3.heap.size → (Value.slice qA q.length qc).ownBlock ≠ some b → (w5.setCell ⟨w3.heap.size, 3, none⟩ (.slice A' (q.length + 1) c')).heap[b]? = W2.heap[b]? := fun b hb hbX hne =>
  (bH_ hbX).trans (hg.block b hb (fun e1 => hne e1.symm))
 have hsn : ∀ b, b < mid → (Value.slice qA q.length qc).ownBlock ≠ some b := fun b hb e1 => by have := (hQ.row.lt b e1).1; omega
 have hss : ∀ b, mid ≤ b → (Value.slice sA s.length sc).ownBlock ≠ some b := fun b hb e1 => by have := hS.low b e1; omega
 have hA5 : ∀ b, (Value.slice A' (q.length + 1) c').ownBlock = some b → mid ≤ b ∧ b < w5.heap.size := fun b e1 => hown.lt b e1
 have hzs : (w5.setCell ⟨w3.heap.size, 3, none⟩ (.slice A' (q.length + 1) c')).heap.size = w5.heap.size := by simp [World.setCell]
 have hAX : (Value.slice A' (q.length + 1) c').ownBlock ≠ some w3.heap.size := fun e1 => by
  rcases hat with h1 | h1
  · exact hqX (h1.symm.trans e1)
  · rw [h1] at e1
    injection e1 with e1
    omega
 refine ⟨?_, ?_, fun g hgm => ?_, ?_, fun g hgm => ?_, ?_, ?_⟩
 · show (w5.setCell ⟨w3.heap.size, 3, none⟩ (.slice A' (q.length + 1) c')).heap[w3.heap.size]? = _
   rw [show (LinkV.mk e n sA sc s A' c' (q ++ [f]) h).q.length = q.length + 1 from hlen]
   exact e_ 3 _ ((hg.block _ hXl (fun e1 => hqX e1.symm)).trans hX)
 · refine ((OwnsAt.of_row hS.own.row).later hW).kept (by rw [hzs]; exact hz5) fun g hgo => hold g ?_ ?_ (hsn g (hS.low g hgo))
   · have := hS.low g hgo
     omega
   · have := hS.low g hgo
     omega
 · exact (hS.ops g hgm).moved fun b hb => ⟨⟨⟨by omega, by rw [hzs]; omega⟩, by omega, hb.2⟩, (hold b (by omega) (by omega) (hsn b hb.1.2)).trans (hW.block b (by omega))⟩
 · show Sl _ _ 5 A' (q ++ [f]).length ((q ++ [f]).flatMap FrameV.cells)
   rw [hlen, List.flatMap_append]
   simp only [List.flatMap_cons, List.flatMap_nil, List.append_nil]
   have h1 := (OwnsAt.of_row hown).sl
   refine h1.moved fun b hb => ⟨⟨⟨by have := (hA5 b hb.1).1; omega, by rw [hzs]; exact hb.2⟩, fun e1 => hAX (by rw [← e1]; exact hb.1), hss b (hA5 b hb.1).1⟩, bH_ (fun e1 => hAX ?_)⟩
   rw [hb.1]
   exact congrArg some e1
 · rcases List.mem_append.1 hgm with hgm | hgm
   · exact (hQ.each g hgm).moved fun b hb => ⟨⟨⟨by omega, by rw [hzs]; omega⟩, by omega, hss b hb.1.1⟩, (hold b (by omega) (by omega) hb.2).trans (hW.block b hb.1.2)⟩
   · obtain rfl : g = f := by simpa using hgm
     refine hf.moved fun b hb => ⟨⟨⟨by omega, by rw [hzs]; omega⟩, by omega, hss b (by omega)⟩, hold b hb.2 (by omega) (fun e1 => ?_)⟩
     have := (hQ.row.lt b e1).2
     omega
 · show (q ++ [f]).length ≤ c'
   rw [hlen]
   exact (gm_ hown).1
 · exact hss _ hm.2
theorem gf_ {w0 W w3 : World} {ob : Option Nat} (hg : W.grownBy w3 ob) (hb : Below w0.heap.size w0 W) (ho : ∀ g, ob = some g → w0.heap.size ≤ g) : Below w0.heap.size w0 w3 := Below.grown hb hg hb.size ho
theorem fb_ {W w5 W4 : World} {ob : Option Nat} (hg : W.grownBy w5 ob) (hb : Below W4.heap.size W4 W) : ∃ WQ, WQ = W ∧ WQ.grownBy w5 ob ∧ Below W4.heap.size W4 WQ := ⟨W, rfl, hg, hb⟩
def RetSend (w : World) (d : LinkD) (D : List PacketD) (er : Int) (e : Ending) (w' : World) : Prop :=
 ∃ (l : LinkV) (A : Option Addr) (c : Nat) (L : List PacketV), e = .returned (.tuple #[l.val, .slice A L.length c, .int .i64 er]) ∧ l.d = d ∧ L.map PacketV.d = D ∧ l.In w' ∧ PacketsIn w' A L ∧ Below w.heap.size w w'
theorem dy_ (w : World) : zeroL.In w := ⟨FramesIn.nil _, FramesIn.nil _⟩
def sendE (l : LinkV) (f : FrameD) : Int := if ¬ linkMay l then 9 else if l.e = 0 then 12 else if frameFault f ≠ 0 then frameFault f else if l.n = 1048576 then 8 else 0
def waitL (x : LinkD) (f : FrameD) : LinkD := ⟨x.e, x.n, x.s, x.q ++ [f], x.h⟩
section
variable (w : World) (l : LinkV) (f : FrameV) (hT : Tabs w) (hi : l.In w) (hm : l.Small) (hf : OpIn (· < w.heap.size) w f.o.A f.o.ps) (hfm : f.Small)
include hT hi hm
theorem tj_ (hk : ¬ linkMay l) : Calls Tryz.prog 116 #[l.val, frameV f.k f.h f.e f.o.A f.o.ps.length f.o.c f.s] w (RetSend w zeroL.d [] 9) := by
 have HC := h_ (fun W hT hi => cy_ W l hT hi hm)
 rw [if_neg hk] at HC
 have HI := h_ hi
 have HT := h_ hT
 clear hi hT hm
 obtain ⟨e, n, sA, sc, s, qA, qc, q, h⟩ := l
 obtain ⟨fk, fh, fe, ⟨fA, fc, fp⟩, fs⟩ := f
 go_enter Tryz.func116, Tryz.ntmps116
 go_wp2_with fail
 refine (HC.out _ (HT.out.later bz_) (HI.out.later bz_)).mono ?_
 rintro r w1 ⟨rfl, hb1⟩
 obtain ⟨⟨d1, os1⟩, rfl⟩ := a_ hb1
 go_wp2_with fail
 refine bodyPost_ret (v := .tuple #[zeroL.val, .slice none 0 0, .int .i64 9]) (by simp [results, Tryz.results116, go_sem]) rfl ?_
 exact ⟨zeroL, none, 0, [], rfl, rfl, rfl, dy_ _, PacketsIn.nil _, bz_⟩
theorem ut_ (hk : linkMay l) (h0 : l.e = 0) : Calls Tryz.prog 116 #[l.val, frameV f.k f.h f.e f.o.A f.o.ps.length f.o.c f.s] w (RetSend w zeroL.d [] 12) := by
 have HC := h_ (fun W hT hi => cy_ W l hT hi hm)
 rw [if_pos hk] at HC
 have HI := h_ hi
 have HT := h_ hT
 clear hi hT hm hk
 obtain ⟨e, n, sA, sc, s, qA, qc, q, h⟩ := l
 obtain ⟨fk, fh, fe, ⟨fA, fc, fp⟩, fs⟩ := f
 dsimp only at h0
 subst h0
 go_enter Tryz.func116, Tryz.ntmps116
 go_wp2_with fail
 refine (HC.out _ (HT.out.later bz_) (HI.out.later bz_)).mono ?_
 rintro r w1 ⟨rfl, hb1⟩
 obtain ⟨⟨d1, os1⟩, rfl⟩ := a_ hb1
 go_wp2_with fail
 refine bodyPost_ret (v := .tuple #[zeroL.val, .slice none 0 0, .int .i64 12]) (by simp [results, Tryz.results116, go_sem]) rfl ?_
 exact ⟨zeroL, none, 0, [], rfl, rfl, rfl, dy_ _, PacketsIn.nil _, bz_⟩
include hf hfm
theorem ti_ (hk : linkMay l) (h0 : l.e ≠ 0) (er : Int) (he : frameFault f.d = er) (h1 : er ≠ 0) : Calls Tryz.prog 116 #[l.val, frameV f.k f.h f.e f.o.A f.o.ps.length f.o.c f.s] w (RetSend w zeroL.d [] er) := by
 have HC := h_ (fun W hT hi => cy_ W l hT hi hm)
 rw [if_pos hk] at HC
 have HF := h_ (fun W hT hs => dz_ W f.k f.h f.e f.o.A f.o.c f.o.ps f.s hT hs hfm.op.len hfm.op.text hfm.text)
 rw [show frameFault ⟨f.k, f.h, f.e, f.o.ps, f.s⟩ = er from he] at HF
 have HI := h_ hi
 have HT := h_ hT
 have HO := h_ hf
 have e0 : (l.e == 0) = false := by simpa using h0
 have e1 : (er != 0) = true := by simpa using h1
 clear hi hT hm hk hf hfm he h0 h1
 obtain ⟨e, n, sA, sc, s, qA, qc, q, h⟩ := l
 obtain ⟨fk, fh, fe, ⟨fA, fc, fp⟩, fs⟩ := f
 dsimp only at *
 go_enter Tryz.func116, Tryz.ntmps116
 go_wp2_with fail
 refine (HC.out _ (HT.out.later bz_) (HI.out.later bz_)).mono ?_
 rintro r w1 ⟨rfl, hb1⟩
 obtain ⟨⟨d1, os1⟩, rfl⟩ := a_ hb1
 go_wp2_with fail
 refine (HF.out _ (HT.out.later bz_) (Sl.later HO.out bz_)).mono ?_
 rintro r w2 ⟨rfl, hb2⟩
 obtain ⟨⟨d2, os2⟩, rfl⟩ := a_ hb2
 go_wp2_with fail
 refine bodyPost_ret (v := .tuple #[zeroL.val, .slice none 0 0, .int .i64 er]) (by simp [results, Tryz.results116, go_sem]) rfl ?_
 exact ⟨zeroL, none, 0, [], rfl, rfl, rfl, dy_ _, PacketsIn.nil _, bz_⟩
theorem uv_ (hk : linkMay l) (h0 : l.e ≠ 0) (he : frameFault f.d = 0) (h1 : l.n = 1048576) : Calls Tryz.prog 116 #[l.val, frameV f.k f.h f.e f.o.A f.o.ps.length f.o.c f.s] w (RetSend w zeroL.d [] 8) := by
 have HC := h_ (fun W hT hi => cy_ W l hT hi hm)
 rw [if_pos hk] at HC
 have HF := h_ (fun W hT hs => dz_ W f.k f.h f.e f.o.A f.o.c f.o.ps f.s hT hs hfm.op.len hfm.op.text hfm.text)
 rw [show frameFault ⟨f.k, f.h, f.e, f.o.ps, f.s⟩ = 0 from he] at HF
 have HI := h_ hi
 have HT := h_ hT
 have HO := h_ hf
 have e0 : (l.e == 0) = false := by simpa using h0
 clear hi hT hm hk hf hfm he h0
 obtain ⟨e, n, sA, sc, s, qA, qc, q, h⟩ := l
 obtain ⟨fk, fh, fe, ⟨fA, fc, fp⟩, fs⟩ := f
 dsimp only at *
 subst h1
 go_enter Tryz.func116, Tryz.ntmps116
 go_wp2_with fail
 refine (HC.out _ (HT.out.later bz_) (HI.out.later bz_)).mono ?_
 rintro r w1 ⟨rfl, hb1⟩
 obtain ⟨⟨d1, os1⟩, rfl⟩ := a_ hb1
 go_wp2_with fail
 refine (HF.out _ (HT.out.later bz_) (Sl.later HO.out bz_)).mono ?_
 rintro r w2 ⟨rfl, hb2⟩
 obtain ⟨⟨d2, os2⟩, rfl⟩ := a_ hb2
 go_wp2_with fail
 refine bodyPost_ret (v := .tuple #[zeroL.val, .slice none 0 0, .int .i64 8]) (by simp [results, Tryz.results116, go_sem]) rfl ?_
 exact ⟨zeroL, none, 0, [], rfl, rfl, rfl, dy_ _, PacketsIn.nil _, bz_⟩
end
end Go.Proofs.YtacacoklddogmaaGreatDoor
