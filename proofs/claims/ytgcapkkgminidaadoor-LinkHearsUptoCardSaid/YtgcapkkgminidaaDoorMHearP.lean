/-
  What link.Hear answers, in plain words, and what stands in memory while it works (no walk).
-/
import Derived.Test.YtgcapkkgminidaaDoorRows
import Derived.Test.YtgcapkkgminidaaDoorLinkSend
import Derived.Test.YtgcapkkgminidaaDoorMSent
namespace Go.Proofs.YtgcapkkgminidaaDoor
open Go.ChangeShapes Go.WideShapes Go.ChangeAt Go.RowKit
set_option maxRecDepth 100000
/-- A number of moderate size wraps to itself. -/
theorem wrap_in {x : Int} (h : -4194304 ≤ x ∧ x ≤ 4194304) : wrap64 x = x := by
  unfold wrap64
  omega
abbrev zeroF : FrameV := ⟨0, 0, 0, ⟨none, 0, []⟩, ⟨#[]⟩⟩
/-- Is the packet's frame the next one? -/
def isNext (x : LinkD) (p : PacketD) : Prop := p.bare = false ∧ p.number = x.h + 1
instance (x : LinkD) (p : PacketD) : Decidable (isNext x p) := by
  unfold isNext
  exact inferInstance
/-- Does the acknowledgement fall into the window? -/
def inWin (x : LinkD) (a : Int) : Prop := x.n - x.s.length ≤ a ∧ a < x.n
instance (x : LinkD) (a : Int) : Decidable (inWin x a) := by
  unfold inWin
  exact inferInstance
def ackN (x : LinkD) (a : Int) : Nat := (a - (x.n - x.s.length) + 1).toNat
def ackS (x : LinkD) (a : Int) : List FrameD := if inWin x a then x.s.drop (ackN x a) else x.s
def nextH (x : LinkD) (p : PacketD) : Int := if isNext x p then x.h + 1 else x.h
def nextL (x : LinkD) (p : PacketD) : LinkD := ⟨x.e, x.n, ackS x p.ack, x.q, nextH x p⟩
def heardF (x : LinkD) (p : PacketD) : FrameD := if isNext x p then p.frame else zeroF.d
def bareX (x : LinkD) : PacketD := ⟨x.e, 0, true, x.h, zeroF.d⟩
def heardPk (x : LinkD) (p : PacketD) : List PacketD := if p.bare = true then fillP (nextL x p) else fillP (nextL x p) ++ [bareX (nextL x p)]
/-- A call that hands back a link, a frame that is told or not, packets and an error. -/
def RetHear (w : World) (d : LinkD) (fd : FrameD) (told : Bool) (D : List PacketD) (er : Int) (e : Ending) (w' : World) : Prop :=
  ∃ (l : LinkV) (fA : Option Addr) (fc : Nat) (A : Option Addr) (c : Nat) (L : List PacketV), e = .returned (.tuple #[l.val, frameV fd.kind fd.heard fd.epoch fA fd.op.length fc fd.text, .bool told, .slice A L.length c, .int .i64 er]) ∧
    l.d = d ∧ L.map PacketV.d = D ∧ l.In w' ∧ OpIn (· < w'.heap.size) w' fA fd.op ∧ PacketsIn w' A L ∧ Below w.heap.size w w'
/-- Of what was there, at most blocks R and F were turned. -/
structure Two (R F : Nat) (w w' : World) : Prop where
  os : w'.os = w.os
  tape : w'.tape = w.tape
  output : w'.output = w.output
  size : w.heap.size ≤ w'.heap.size
  block : ∀ k, k < w.heap.size → k ≠ R → k ≠ F → w'.heap[k]? = w.heap[k]?
theorem Two.below {R F base : Nat} {w w' : World} (h : Two R F w w') (hR : base ≤ R) (hF : base ≤ F) (hb : base ≤ w.heap.size) : Below base w w' := ⟨h.os, h.tape, h.output, h.size, fun k hk => h.block k (by omega) (by omega) (by omega)⟩
theorem Two.of {R F : Nat} {w w1 w' : World} (h : Only R w w1) (k : Only F w1 w') : Two R F w w' :=
  ⟨k.os.trans h.os, k.tape.trans h.tape, k.output.trans h.output, Nat.le_trans h.size k.size, fun x hx hR hF => (k.block x (Nat.lt_of_lt_of_le hx h.size) hF).trans (h.block x hx hR)⟩
theorem five_sets {w : World} {B : Nat} {v0 v1 v2 v3 v4 x0 x1 x2 x3 x4 : Value} {t : TypeId} (h : w.heap[B]? = some (.cells #[v0, v1, v2, v3, v4] t (0, 0))) :
    (((((w.setCell ⟨B, 0, none⟩ x0).setCell ⟨B, 1, none⟩ x1).setCell ⟨B, 2, none⟩ x2).setCell ⟨B, 3, none⟩ x3).setCell ⟨B, 4, none⟩ x4).heap[B]? = some (.cells #[x0, x1, x2, x3, x4] t (0, 0)) ∧
      Only B w (((((w.setCell ⟨B, 0, none⟩ x0).setCell ⟨B, 1, none⟩ x1).setCell ⟨B, 2, none⟩ x2).setCell ⟨B, 3, none⟩ x3).setCell ⟨B, 4, none⟩ x4) := by
  have h0 : (w.setCell ⟨B, 0, none⟩ x0).heap[B]? = some (.cells #[x0, v1, v2, v3, v4] t (0, 0)) := any_set 0 x0 h
  have h1 : ((w.setCell ⟨B, 0, none⟩ x0).setCell ⟨B, 1, none⟩ x1).heap[B]? = some (.cells #[x0, x1, v2, v3, v4] t (0, 0)) := any_set 1 x1 h0
  have h2 : (((w.setCell ⟨B, 0, none⟩ x0).setCell ⟨B, 1, none⟩ x1).setCell ⟨B, 2, none⟩ x2).heap[B]? = some (.cells #[x0, x1, x2, v3, v4] t (0, 0)) := any_set 2 x2 h1
  have h3 : ((((w.setCell ⟨B, 0, none⟩ x0).setCell ⟨B, 1, none⟩ x1).setCell ⟨B, 2, none⟩ x2).setCell ⟨B, 3, none⟩ x3).heap[B]? = some (.cells #[x0, x1, x2, x3, v4] t (0, 0)) := any_set 3 x3 h2
  have h4 : (((((w.setCell ⟨B, 0, none⟩ x0).setCell ⟨B, 1, none⟩ x1).setCell ⟨B, 2, none⟩ x2).setCell ⟨B, 3, none⟩ x3).setCell ⟨B, 4, none⟩ x4).heap[B]? = some (.cells #[x0, x1, x2, x3, x4] t (0, 0)) := any_set 4 x4 h3
  exact ⟨h4, ((((Only.set _ _ _).trans (Only.set _ _ _)).trans (Only.set _ _ _)).trans (Only.set _ _ _)).trans (Only.set _ _ _)⟩
/-- Both results are laid, the link's block first. -/
theorem ten_sets {W : World} {R F : Nat} {u0 u1 u2 u3 u4 v0 v1 v2 v3 v4 x0 x1 x2 x3 x4 y0 y1 y2 y3 y4 : Value} {t s : TypeId} (hR : W.heap[R]? = some (.cells #[u0, u1, u2, u3, u4] t (0, 0))) (hF : W.heap[F]? = some (.cells #[v0, v1, v2, v3, v4] s (0, 0))) (hne : R ≠ F) {W' : World}
    (hW : W' = ((((((((((W.setCell ⟨R, 0, none⟩ x0).setCell ⟨R, 1, none⟩ x1).setCell ⟨R, 2, none⟩ x2).setCell ⟨R, 3, none⟩ x3).setCell ⟨R, 4, none⟩ x4).setCell ⟨F, 0, none⟩ y0).setCell ⟨F, 1, none⟩ y1).setCell ⟨F, 2, none⟩ y2).setCell ⟨F, 3, none⟩ y3).setCell ⟨F, 4, none⟩ y4)) :
    W'.heap[R]? = some (.cells #[x0, x1, x2, x3, x4] t (0, 0)) ∧ W'.heap[F]? = some (.cells #[y0, y1, y2, y3, y4] s (0, 0)) ∧ Two R F W W' := by
  obtain ⟨a1, a2⟩ := five_sets (x0 := x0) (x1 := x1) (x2 := x2) (x3 := x3) (x4 := x4) hR
  obtain ⟨W1, hW1⟩ : ∃ W1, W1 = ((((W.setCell ⟨R, 0, none⟩ x0).setCell ⟨R, 1, none⟩ x1).setCell ⟨R, 2, none⟩ x2).setCell ⟨R, 3, none⟩ x3).setCell ⟨R, 4, none⟩ x4 := ⟨_, rfl⟩
  rw [← hW1] at a1 a2 hW
  have hRl : R < W.heap.size := (Array.getElem?_eq_some_iff.1 hR).1
  have hFl : F < W.heap.size := (Array.getElem?_eq_some_iff.1 hF).1
  obtain ⟨b1, b2⟩ := five_sets (x0 := y0) (x1 := y1) (x2 := y2) (x3 := y3) (x4 := y4) ((a2.block F hFl (fun e => hne e.symm)).trans hF)
  rw [← hW] at b1 b2
  exact ⟨(b2.block R (Nat.lt_of_lt_of_le hRl a2.size) hne).trans a1, b1, Two.of a2 b2⟩
theorem drew_sets {w W W' : World} {R F : Nat} {u v : Obj} (h : W.heap[R]? = some u ∧ W.heap[F]? = some v ∧ Two R F w W) (hW : W' = W.drew) : W'.heap[R]? = some u ∧ W'.heap[F]? = some v ∧ Two R F w W' := by
  subst hW
  exact ⟨h.1, h.2.1, ⟨h.2.2.os, h.2.2.tape, h.2.2.output, h.2.2.size, h.2.2.block⟩⟩
/-- The blocks of what came, and of what goes. -/
structure HearAt (w W : World) (Q R F : Nat) (l : LinkV) (p : PacketV) (f : FrameV) : Prop where
  l : LinkAt W w.heap.size l
  p : PacketAt W Q p.ep p.nu p.b p.ak p.f.k p.f.h p.f.e p.f.o.A p.f.o.ps.length p.f.o.c p.f.s
  r : LinkAt W R zeroL
  f : FrameAt W F f.k f.h f.e f.o.A f.o.ps.length f.o.c f.s
  b : Below w.heap.size w W
theorem HearAt.lt {w W : World} {Q R F : Nat} {l : LinkV} {p : PacketV} {f : FrameV} (h : HearAt w W Q R F l p f) : w.heap.size < W.heap.size ∧ Q < W.heap.size ∧ R < W.heap.size ∧ F < W.heap.size :=
  ⟨(Array.getElem?_eq_some_iff.1 h.l).1, (Array.getElem?_eq_some_iff.1 h.p).1, (Array.getElem?_eq_some_iff.1 h.r).1, (Array.getElem?_eq_some_iff.1 h.f).1⟩
theorem HearAt.later {w W W' : World} {Q R F : Nat} {l : LinkV} {p : PacketV} {f : FrameV} (h : HearAt w W Q R F l p f) (hb : Below W.heap.size W W') : HearAt w W' Q R F l p f := by
  obtain ⟨a, b, c, d⟩ := h.lt
  exact ⟨(hb.block _ a).trans h.l, (hb.block _ b).trans h.p, (hb.block _ c).trans h.r, (hb.block _ d).trans h.f, bThen h.b hb⟩
theorem HearAt.upon {w W W' : World} {Q R F base X : Nat} {l : LinkV} {p : PacketV} {f : FrameV} (h : HearAt w W Q R F l p f) (ho : (w.heap.size < Q ∧ Q < R ∧ R < F) ∧ F < base ∧ base ≤ X) (u : Upon base X W W') : HearAt w W' Q R F l p f :=
  ⟨(u.block _ (by omega) (by omega)).trans h.l, (u.block _ (by omega) (by omega)).trans h.p, (u.block _ (by omega) (by omega)).trans h.r, (u.block _ (by omega) (by omega)).trans h.f,
    ⟨u.os.trans h.b.os, u.tape.trans h.b.tape, u.output.trans h.b.output, Nat.le_trans h.b.size u.size, fun k hk => (u.block k (by omega) (by omega)).trans (h.b.block k hk)⟩⟩
theorem HearAt.told {w W : World} {Q R F : Nat} {l : LinkV} {p : PacketV} {f : FrameV} (h : HearAt w W Q R F l p f) (ho : w.heap.size < Q ∧ Q < R ∧ R < F) (g : FrameV) {W' : World}
    (hW : W' = (((((W.setCell ⟨F, 0, none⟩ (.int .i64 g.k)).setCell ⟨F, 1, none⟩ (.int .i64 g.h)).setCell ⟨F, 2, none⟩ (.int .i64 g.e)).setCell ⟨F, 3, none⟩ (.slice g.o.A g.o.ps.length g.o.c)).setCell ⟨F, 4, none⟩ (.string g.s))) : HearAt w W' Q R F l p g ∧ Only F W W' := by
  obtain ⟨a1, a2⟩ := five_sets (x0 := .int .i64 g.k) (x1 := .int .i64 g.h) (x2 := .int .i64 g.e) (x3 := .slice g.o.A g.o.ps.length g.o.c) (x4 := .string g.s) h.f
  rw [← hW] at a1 a2
  obtain ⟨b1, b2, b3, b4⟩ := h.lt
  exact ⟨⟨(a2.block _ b1 (by omega)).trans h.l, (a2.block _ b2 (by omega)).trans h.p, (a2.block _ b3 (by omega)).trans h.r, a1, h.b.trans (a2.below (by omega) (by omega))⟩, a2⟩
/-- The first K of what was sent are known to have come. -/
theorem LinkSt.ackd {w : World} {base X : Nat} {e n h : Int} {sA qA A' : Option Addr} {sc qc : Nat} {s q : List FrameV} (k : LinkSt w base X ⟨e, n, sA, sc, s, qA, qc, q, h⟩) (K m : Nat) (hK : K ≤ s.length) (hm : m = s.length - K) (hA : A' = if sc = K then sA else sA.map (fun x => x.add (K * 5))) :
    LinkSt (w.setCell ⟨X, 2, none⟩ (.slice A' m (sc - K))) base X ⟨e, n, A', sc - K, s.drop K, qA, qc, q, h⟩ := by
  have hlen : (s.drop K).length = m := by rw [List.length_drop, hm]
  have hob : ∀ n' c', (Value.slice A' n' c').ownBlock = (Value.slice sA s.length sc).ownBlock := fun n' c' => by
    rw [hA]
    by_cases h1 : sc = K
    · rw [if_pos h1]
      cases sA <;> rfl
    · rw [if_neg h1]
      rcases k.own.at_ with ⟨e1, _⟩ | ⟨g, o, e1, _⟩
      · dsimp only at e1
        rw [e1]
        rfl
      · dsimp only at e1
        rw [e1]
        simp only [Option.map_some, Addr.add]
        split <;> rfl
  have hz : (w.setCell ⟨X, 2, none⟩ (.slice A' m (sc - K))).heap.size = w.heap.size := by simp [World.setCell]
  have hold : ∀ b, b ≠ X → (w.setCell ⟨X, 2, none⟩ (.slice A' m (sc - K))).heap[b]? = w.heap[b]? := fun b hb => Below.heap_setCell _ _ _ _ hb
  have key : ∀ b, ((base ≤ b ∧ b < w.heap.size) ∧ b ≠ X ∧ (Value.slice sA s.length sc).ownBlock ≠ some b) → ((base ≤ b ∧ b < (w.setCell ⟨X, 2, none⟩ (.slice A' m (sc - K))).heap.size) ∧ b ≠ X ∧ (Value.slice A' (s.drop K).length (sc - K)).ownBlock ≠ some b) ∧ (w.setCell ⟨X, 2, none⟩ (.slice A' m (sc - K))).heap[b]? = w.heap[b]? := fun b hb =>
    ⟨⟨⟨hb.1.1, by rw [hz]; exact hb.1.2⟩, hb.2.1, by rw [hob]; exact hb.2.2⟩, hold b hb.2.1⟩
  have hdr : s.drop K = s.drop K := rfl
  refine ⟨?_, ?_, fun f hf => (k.s f (List.mem_of_mem_drop hf)).moved key, k.qr.moved key, fun f hf => (k.q f hf).moved key, k.qcap, by show (Value.slice A' (s.drop K).length (sc - K)).ownBlock ≠ some X; rw [hob]; exact k.ne⟩
  · show (w.setCell ⟨X, 2, none⟩ (.slice A' m (sc - K))).heap[X]? = _
    rw [show (LinkV.mk e n A' (sc - K) (s.drop K) qA qc q h).s.length = m from hlen]
    exact any_set 2 _ k.at_
  · show OwnsAt _ base 5 A' (s.drop K).length (sc - K) ((s.drop K).flatMap FrameV.cells)
    have ho : OwnsAt w base 5 A' (s.drop K).length (sc - K) ((s.drop K).flatMap FrameV.cells) := by
      have hcap := k.own.cap.1
      dsimp only at hcap
      by_cases h1 : sc = K
      · rw [hA, if_pos h1]
        have h2 : s.length = K := by omega
        have h3 : s.drop K = [] := List.drop_eq_nil_of_le (by omega)
        rw [h3, show sc - K = 0 by omega]
        exact k.own.gone
      · rw [hA, if_neg h1, hlen, hm]
        have h4 := k.own.drop (k := K) hK
        rwa [show (s.flatMap FrameV.cells).drop (K * 5) = (s.drop K).flatMap FrameV.cells from ?_] at h4
        clear h4 h1 hcap hold key hz hob hA hm hlen hdr k
        induction K generalizing s with
        | zero => simp
        | succ K ih =>
          cases s with
          | nil => simp
          | cons f s =>
            have h5 := ih (s := s) (by simpa using hK)
            rw [List.drop_succ_cons, ← h5, List.flatMap_cons, show (K + 1) * 5 = f.cells.length + K * 5 by rw [FrameV.cells_len]; omega, ← List.drop_drop, List.drop_left]
    refine ho.kept (by rw [hz]; exact Nat.le_refl _) fun g hg => hold g (fun e1 => k.ne ?_)
    rw [hob] at hg
    rw [← e1]
    exact hg
/-- One more was heard. -/
theorem LinkSt.heard {w : World} {base X : Nat} {e n h : Int} {sA qA : Option Addr} {sc qc : Nat} {s q : List FrameV} (k : LinkSt w base X ⟨e, n, sA, sc, s, qA, qc, q, h⟩) (h' : Int) :
    LinkSt (w.setCell ⟨X, 4, none⟩ (.int .i64 h')) base X ⟨e, n, sA, sc, s, qA, qc, q, h'⟩ := by
  have hz : (w.setCell ⟨X, 4, none⟩ (.int .i64 h')).heap.size = w.heap.size := by simp [World.setCell]
  have hold : ∀ b, b ≠ X → (w.setCell ⟨X, 4, none⟩ (.int .i64 h')).heap[b]? = w.heap[b]? := fun b hb => Below.heap_setCell _ _ _ _ hb
  have key : ∀ b, ((base ≤ b ∧ b < w.heap.size) ∧ b ≠ X ∧ (Value.slice sA s.length sc).ownBlock ≠ some b) → ((base ≤ b ∧ b < (w.setCell ⟨X, 4, none⟩ (.int .i64 h')).heap.size) ∧ b ≠ X ∧ (Value.slice sA s.length sc).ownBlock ≠ some b) ∧ (w.setCell ⟨X, 4, none⟩ (.int .i64 h')).heap[b]? = w.heap[b]? := fun b hb =>
    ⟨⟨⟨hb.1.1, by rw [hz]; exact hb.1.2⟩, hb.2⟩, hold b hb.2.1⟩
  exact ⟨any_set 4 _ k.at_, k.own.kept (by rw [hz]; exact Nat.le_refl _) fun g hg => hold g (fun e1 => k.ne (by rw [← e1]; exact hg)), fun f hf => (k.s f hf).moved key, k.qr.moved key, fun f hf => (k.q f hf).moved key, k.qcap, k.ne⟩
theorem fillP_len (x : LinkD) : (fillP x).length = fillN x ∧ fillN x ≤ 8 := by
  unfold fillP
  refine ⟨by simp, ?_⟩
  unfold fillN
  omega
/-- Such a link stays where a block is turned that lies ahead of all. -/
theorem LinkSt.low {w w' : World} {base X F : Nat} {l : LinkV} (h : LinkSt w base X l) (ho : Only F w w') (hF : F < base) (hX : F ≠ X) : LinkSt w' base X l := by
  have hz := ho.size
  have key : ∀ b, ((base ≤ b ∧ b < w.heap.size) ∧ b ≠ X ∧ (Value.slice l.sA l.s.length l.sc).ownBlock ≠ some b) → ((base ≤ b ∧ b < w'.heap.size) ∧ b ≠ X ∧ (Value.slice l.sA l.s.length l.sc).ownBlock ≠ some b) ∧ w'.heap[b]? = w.heap[b]? := fun b hb =>
    ⟨⟨⟨hb.1.1, by omega⟩, hb.2⟩, ho.block b hb.1.2 (by omega)⟩
  have hl := (Array.getElem?_eq_some_iff.1 h.at_).1
  exact ⟨(ho.block X hl (fun e => hX e.symm)).trans h.at_, h.own.kept hz fun g hg => ho.block g (h.own.lt hg).2 (by have := (h.own.lt hg).1; omega), fun f hf => (h.s f hf).moved key, h.qr.moved key, fun f hf => (h.q f hf).moved key, h.qcap, h.ne⟩
theorem LinkSt.in_two {w w' : World} {base X R F : Nat} {l : LinkV} (h : LinkSt w base X l) (ho : Two R F w w') (hR : R < base) (hF : F < base) : l.In w' := by
  have hz := ho.size
  refine ⟨⟨h.own.sl.moved fun b hb => ⟨by omega, ?_⟩, fun f hf => (h.s f hf).moved fun b hb => ⟨by omega, ho.block b hb.1.2 (by omega) (by omega)⟩⟩, ⟨h.qr.moved fun b hb => ⟨by omega, ho.block b hb.1.2 (by omega) (by omega)⟩, fun f hf => (h.q f hf).moved fun b hb => ⟨by omega, ho.block b hb.1.2 (by omega) (by omega)⟩⟩⟩
  have := (h.own.lt hb.1).1
  exact ho.block b hb.2 (by omega) (by omega)
theorem PacketsOwn.in_two {w w' : World} {base R F : Nat} {A : Option Addr} {c : Nat} {L : List PacketV} (h : PacketsOwn w base A c L) (ho : Two R F w w') (hR : R < base) (hF : F < base) : PacketsIn w' A L :=
  PacketsOwn.in_ (h.kept ho.size fun b hb hl => ho.block b hl (by omega) (by omega))
theorem calls_hide {P : Program} {f : FuncId} {args : Array Value} {W : World} {post : Ending → World → Prop} (Q : World → Prop) (hQ : Q W) (h : ∀ W', Q W' → Calls P f args W' post) : Calls P f args W post := h W hQ
theorem alloc_set2 (w : World) (v0 v1 v2 v3 v4 x : Value) (t : TypeId) : (w.alloc (.cells #[v0, v1, v2, v3, v4] t)).setCell ⟨w.heap.size, 2, none⟩ x = w.alloc (.cells #[v0, v1, x, v3, v4] t) := World.setCell_alloc_new #[v0, v1, v2, v3, v4] t 2 x
theorem alloc_set4 (w : World) (v0 v1 v2 v3 v4 x : Value) (t : TypeId) : (w.alloc (.cells #[v0, v1, v2, v3, v4] t)).setCell ⟨w.heap.size, 4, none⟩ x = w.alloc (.cells #[v0, v1, v2, v3, x] t) := World.setCell_alloc_new #[v0, v1, v2, v3, v4] t 4 x
theorem LinkSt.ackA {w : World} {base : Nat} {e n h : Int} {sA qA A' : Option Addr} {sc qc c' : Nat} {s q : List FrameV} (k : LinkSt (w.alloc (.cells #[.int .i64 e, .int .i64 n, .slice sA s.length sc, .slice qA q.length qc, .int .i64 h] 35)) base w.heap.size ⟨e, n, sA, sc, s, qA, qc, q, h⟩) (K : Nat) (hK : K ≤ s.length)
    (hA : (sc = K ∧ A' = sA ∧ c' = 0) ∨ (sc ≠ K ∧ A' = sA.map (fun x => x.add (K * 5)) ∧ c' = sc - K)) :
    LinkSt (w.alloc (.cells #[.int .i64 e, .int .i64 n, .slice A' (s.length - K) c', .slice qA q.length qc, .int .i64 h] 35)) base w.heap.size ⟨e, n, A', c', s.drop K, qA, qc, q, h⟩ := by
  have hc : c' = sc - K := by rcases hA with ⟨h1, _, h2⟩ | ⟨_, _, h2⟩ <;> omega
  have h5 := k.ackd (A' := A') K (s.length - K) hK rfl (by
    rcases hA with ⟨h1, h2, _⟩ | ⟨h1, h2, _⟩
    · rw [if_pos h1, h2]
    · rw [if_neg h1, h2])
  rw [alloc_set2] at h5
  rw [hc]
  exact h5
theorem LinkSt.heardA {w : World} {base m : Nat} {e n h : Int} {sA qA : Option Addr} {sc qc : Nat} {s q : List FrameV} (k : LinkSt (w.alloc (.cells #[.int .i64 e, .int .i64 n, .slice sA m sc, .slice qA q.length qc, .int .i64 h] 35)) base w.heap.size ⟨e, n, sA, sc, s, qA, qc, q, h⟩) (h' : Int) :
    LinkSt (w.alloc (.cells #[.int .i64 e, .int .i64 n, .slice sA m sc, .slice qA q.length qc, .int .i64 h'] 35)) base w.heap.size ⟨e, n, sA, sc, s, qA, qc, q, h'⟩ := by
  have h5 := k.heard h'
  rw [alloc_set4] at h5
  exact h5
end Go.Proofs.YtgcapkkgminidaaDoor
