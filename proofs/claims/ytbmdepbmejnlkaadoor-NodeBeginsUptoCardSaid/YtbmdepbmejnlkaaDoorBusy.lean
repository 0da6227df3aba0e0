/-
  Work on a node in memory of its own: the turn's block, its posts' row, its sides' row, and all that they hold, apart (no walk).
-/
import Derived.Test.YtbmdepbmejnlkaaDoorRows
import Derived.Test.YtbmdepbmejnlkaaDoorPostP
import Derived.Test.YtbmdepbmejnlkaaDoorLinkInS
namespace Go.Proofs.YtbmdepbmejnlkaaDoor
open Go.ChangeShapes Go.WideShapes Go.ChangeAt Go.RowKit
set_option maxRecDepth 100000
theorem flat_set (n : Nat) (u : Value) : ∀ (M : List (List Value)) (_ : ∀ r ∈ M, r.length = n) (k j : Nat) (hk : k < M.length) (_ : j < n), M.flatten.set (k * n + j) u = (M.set k (M[k].set j u)).flatten
  | [], _, k, _, hk, _ => absurd hk (by simp)
  | r :: M, h, 0, j, _, hj => by
    have hr := h r (by simp)
    simp only [List.flatten_cons, Nat.zero_mul, Nat.zero_add, List.set_cons_zero, List.getElem_cons_zero]
    rw [List.set_append_left _ _ (by omega)]
  | r :: M, h, k + 1, j, hk, hj => by
    have hr := h r (by simp)
    have ih := flat_set n u M (fun q hq => h q (by simp [hq])) k j (by simpa using hk) hj
    have he : (k + 1) * n + j = n + (k * n + j) := by rw [Nat.add_mul]; omega
    simp only [List.flatten_cons, List.set_cons_succ, List.getElem_cons_succ]
    rw [List.set_append_right _ _ (by omega), ← ih, he]
    congr 2
    omega
theorem flat_set2 (n : Nat) (u : Value) (M : List (List Value)) (h : ∀ r ∈ M, r.length = n) (k j : Nat) (hk : k < M.length) (hj : j < n) (r : List Value) (hr : r.length = n) : (M.set k r).flatten.set (k * n + j) u = (M.set k (r.set j u)).flatten := by
  rw [flat_set n u (M.set k r) (fun q hq => by
    rcases List.mem_or_eq_of_mem_set hq with hm | rfl
    · exact h q hm
    · exact hr) k j (by simpa using hk) hj]
  rw [List.set_set, List.getElem_set_self]
theorem SideV.InS.link {S : Nat → Prop} {w : World} {x : SideV} (h : x.InS S w) : x.k.InS S w := ⟨h.s, h.so, h.q, h.qo⟩
/-- Blocks from base on, beside the turn's block X, the posts' row and the sides' row. -/
def FreeB (W : World) (base X : Nat) (P Q : Option Nat) (b : Nat) : Prop := (base ≤ b ∧ b < W.heap.size) ∧ b ≠ X ∧ P ≠ some b ∧ Q ≠ some b
structure Busy (T : TypeId) (W : World) (base X : Nat) (n : NodeV) (A : Option Addr) (c : Nat) (L : List PostV) (R : Value) : Prop where
  lo : base ≤ X
  blk : W.heap[X]? = some (.cells (turnCells n (.slice A L.length c) R) T (0, 0))
  prow : W.ownsRow (X + 1) 87 10 (.slice A L.length c) L.length (L.flatMap PostV.cells)
  srow : W.ownsRow base 65 10 (.slice n.sA n.S.length n.sc) n.S.length (n.S.flatMap SideV.cells)
  pops : ∀ x ∈ L, OpIn (fun b => X + 1 ≤ b ∧ FreeB W base X (Value.slice A L.length c).ownBlock (Value.slice n.sA n.S.length n.sc).ownBlock b) W x.p.f.o.A x.p.f.o.ps
  side : ∀ x ∈ n.S, x.InS (FreeB W base X (Value.slice A L.length c).ownBlock (Value.slice n.sA n.S.length n.sc).ownBlock) W
  undo : OpsS (FreeB W base X (Value.slice A L.length c).ownBlock (Value.slice n.sA n.S.length n.sc).ownBlock) W n.uA n.U
  marks : Sl (FreeB W base X (Value.slice A L.length c).ownBlock (Value.slice n.sA n.S.length n.sc).ownBlock) W 2 n.mA n.M.length (n.M.flatMap markCells)
/-- Two rows of different elements lie in blocks of their own. -/
theorem own_two {w : World} {base base' : Nat} {e e' : TypeId} {size size' n n' : Nat} {v v' : Value} {xs xs' : List Value} (h : w.ownsRow base e size v n xs) (h' : w.ownsRow base' e' size' v' n' xs') (hT : e ≠ e') {b : Nat} (hb : v.ownBlock = some b) : v'.ownBlock ≠ some b := by
  rcases h.2 with ⟨rfl, _⟩ | ⟨g, cap, cur, rfl, _, hg, _⟩
  · simp [Value.ownBlock] at hb
  · simp only [Value.ownBlock, Option.some.injEq] at hb
    subst hb
    exact own_apart h' hg hT
section
variable {T : TypeId} {W W' : World} {base X : Nat} {n : NodeV} {A : Option Addr} {c : Nat} {L : List PostV} {R : Value}
theorem Busy.lt (h : Busy T W base X n A c L R) : X < W.heap.size := (Array.getElem?_eq_some_iff.1 h.blk).1
theorem FreeB.later {P Q : Option Nat} {b : Nat} (hb : Below W.heap.size W W') (h : FreeB W base X P Q b) : FreeB W' base X P Q b ∧ W'.heap[b]? = W.heap[b]? :=
  ⟨⟨⟨h.1.1, Nat.lt_of_lt_of_le h.1.2 hb.size⟩, h.2⟩, hb.block b h.1.2⟩
theorem own_belowS {base : Nat} {e : TypeId} {size k : Nat} {v : Value} {xs : List Value} (h : W.ownsRow base e size v k xs) (hb : Below W.heap.size W W') : W'.ownsRow base e size v k xs := by
  refine ⟨h.1, ?_⟩
  rcases h.2 with hn | ⟨g, cap, cur, e1, h1, hg, rest⟩
  · exact .inl hn
  · exact .inr ⟨g, cap, cur, e1, h1, (hb.block g (Array.getElem?_eq_some_iff.1 hg).1).trans hg, rest⟩
theorem Busy.later (h : Busy T W base X n A c L R) (hb : Below W.heap.size W W') : Busy T W' base X n A c L R :=
  ⟨h.lo, (hb.block _ h.lt).trans h.blk, own_belowS h.prow hb, own_belowS h.srow hb, fun x hx => (h.pops x hx).moved fun _ k => ⟨⟨k.1, (k.2.later hb).1⟩, (k.2.later hb).2⟩,
    fun x hx => (h.side x hx).moved fun _ k => k.later hb, h.undo.moved fun _ k => k.later hb, h.marks.moved fun _ k => k.later hb⟩
theorem Sl.of_own2 {base : Nat} {e : TypeId} {size k c : Nat} {A : Option Addr} {xs : List Value} (h : W.ownsRow base e size (.slice A k c) k xs) : Sl (fun b => (Value.slice A k c).ownBlock = some b ∧ base ≤ b ∧ b < W.heap.size) W size A k xs := by
  refine ⟨h.1, fun hn => ?_⟩
  obtain ⟨g, cap, hv, hb, hlt⟩ := h.form hn
  have hA : A = some ⟨g, 0, none⟩ := by injection hv
  subst hA
  refine ⟨g, 0, rfl, ⟨rfl, hb, hlt⟩, fun j u hu => ?_⟩
  have := h.cells (g := g) rfl j u hu
  rwa [Go.WideShapes.add_plain] at this
/-- The part that posting needs. -/
theorem Busy.work (hT : T ≠ 65) (h : Busy T W base X n A c L R) : WorkAt T W X n A c L R := by
  refine ⟨h.blk, ⟨h.prow, fun x hx => (h.pops x hx).moved fun b k => ⟨⟨⟨k.1, k.2.1.2⟩, k.2.2.2.1⟩, rfl⟩⟩, ?_⟩
  have hQX : (Value.slice n.sA n.S.length n.sc).ownBlock ≠ some X := own_apart h.srow h.blk hT
  refine (Sl.of_own2 h.srow).moved fun b k => ⟨⟨k.2.2, fun e => hQX (e ▸ k.1), own_two h.srow h.prow (by decide) k.1⟩, rfl⟩
/-- Behind posts: what was posted lies apart from the sides' row. -/
theorem Busy.posted (hT : T ≠ 65) (h : Busy T W base X n A c L R) {A' : Option Addr} {c' : Nat} {K : List PacketV} {who : Int} (hp : PostedTo T W X n A L.length c (L ++ K.map (PostV.mk who)) R A' c' W')
    (hK : ∀ p ∈ K, OpIn (fun b => X + 1 ≤ b ∧ FreeB W base X (Value.slice A L.length c).ownBlock (Value.slice n.sA n.S.length n.sc).ownBlock b) W p.f.o.A p.f.o.ps) : Busy T W' base X n A' c' (L ++ K.map (PostV.mk who)) R := by
  have hf : ∀ b, FreeB W base X (Value.slice A L.length c).ownBlock (Value.slice n.sA n.S.length n.sc).ownBlock b → FreeB W' base X (Value.slice A' (L ++ K.map (PostV.mk who)).length c').ownBlock (Value.slice n.sA n.S.length n.sc).ownBlock b ∧ W'.heap[b]? = W.heap[b]? := fun b k => by
    have q := hp.apart ⟨k.1.2, k.2.1, k.2.2.1⟩
    exact ⟨⟨⟨k.1.1, q.1.1⟩, k.2.1, q.1.2.2, k.2.2.2⟩, q.2⟩
  have hs : W'.ownsRow base 65 10 (.slice n.sA n.S.length n.sc) n.S.length (n.S.flatMap SideV.cells) := by
    refine ⟨h.srow.1, ?_⟩
    rcases h.srow.2 with hn | ⟨g, cap, cur, e1, h1, hg, rest⟩
    · exact .inl hn
    · have hQ : (Value.slice n.sA n.S.length n.sc).ownBlock = some g := by rw [e1]; rfl
      have hgX : g ≠ X := fun e => own_apart h.srow h.blk hT (by rw [hQ, e])
      exact .inr ⟨g, cap, cur, e1, h1, (hp.turned.block g (Array.getElem?_eq_some_iff.1 hg).1 hgX (fun e => own_two h.srow h.prow (by decide) hQ e.symm)).trans hg, rest⟩
  refine ⟨h.lo, hp.at_.blk, hp.at_.posts.row, hs, fun x hx => ?_, fun x hx => (h.side x hx).moved hf, h.undo.moved hf, h.marks.moved hf⟩
  rcases List.mem_append.1 hx with hx | hx
  · exact (h.pops x hx).moved fun b k => ⟨⟨k.1, (hf b k.2).1⟩, (hf b k.2).2⟩
  · obtain ⟨p, hp1, rfl⟩ := List.mem_map.1 hx
    exact (hK p hp1).moved fun b k => ⟨⟨k.1, (hf b k.2).1⟩, (hf b k.2).2⟩
end
/-- The side s with another link. -/
def NodeV.link (n : NodeV) (s : Nat) (l : LinkV) : NodeV := ⟨n.me, n.ep, n.up, n.rd, n.t, n.sA, n.sc, n.S.set s ⟨(n.S.getD s default).p, (n.S.getD s default).j, (n.S.getD s default).s, (n.S.getD s default).h, (n.S.getD s default).A, (n.S.getD s default).c, (n.S.getD s default).L, l⟩, n.uA, n.uc, n.U, n.mA, n.mc, n.M⟩
/-- Stores into the row of sides. -/
theorem Busy.setLink {T : TypeId} {W : World} {base X : Nat} {n : NodeV} {A : Option Addr} {c : Nat} {L : List PostV} {R : Value} (hT : T ≠ 65) (h : Busy T W base X n A c L R) {s : Nat} (hs : s < n.S.length) {g : Nat} (hg : n.sA = some ⟨g, 0, none⟩) (l : LinkV)
    (hl : l.InS (FreeB W base X (Value.slice A L.length c).ownBlock (Value.slice n.sA n.S.length n.sc).ownBlock) W) :
    Busy T (((((W.setCell ⟨g, s * 10 + 5, none⟩ (.int .i64 l.e)).setCell ⟨g, s * 10 + 6, none⟩ (.int .i64 l.n)).setCell ⟨g, s * 10 + 7, none⟩ (.slice l.sA l.s.length l.sc)).setCell ⟨g, s * 10 + 8, none⟩ (.slice l.qA l.q.length l.qc)).setCell ⟨g, s * 10 + 9, none⟩ (.int .i64 l.h)) base X (n.link s l) A c L R := by
  have hlen : (n.link s l).S.length = n.S.length := by simp [NodeV.link]
  have hQ : (Value.slice n.sA n.S.length n.sc).ownBlock = some g := by rw [hg]; rfl
  have hr := h.srow
  rw [hg] at hr
  obtain ⟨r1, t1⟩ := hr.stored (s * 10 + 5) (.int .i64 l.e)
  obtain ⟨r2, t2⟩ := r1.stored (s * 10 + 6) (.int .i64 l.n)
  obtain ⟨r3, t3⟩ := r2.stored (s * 10 + 7) (.slice l.sA l.s.length l.sc)
  obtain ⟨r4, t4⟩ := r3.stored (s * 10 + 8) (.slice l.qA l.q.length l.qc)
  obtain ⟨r5, t5⟩ := r4.stored (s * 10 + 9) (.int .i64 l.h)
  have tt := (((Turned.of_grown (B := g) t1).trans (Turned.of_grown t2) (.inl rfl)).trans (Turned.of_grown t3) (.inl rfl)).trans (Turned.of_grown t4) (.inl rfl) |>.trans (Turned.of_grown t5) (.inl rfl)
  have hz : ((((((W.setCell ⟨g, s * 10 + 5, none⟩ (.int .i64 l.e)).setCell ⟨g, s * 10 + 6, none⟩ (.int .i64 l.n)).setCell ⟨g, s * 10 + 7, none⟩ (.slice l.sA l.s.length l.sc)).setCell ⟨g, s * 10 + 8, none⟩ (.slice l.qA l.q.length l.qc)).setCell ⟨g, s * 10 + 9, none⟩ (.int .i64 l.h)).heap.size) = W.heap.size := by simp [World.setCell]
  generalize (((((W.setCell ⟨g, s * 10 + 5, none⟩ (.int .i64 l.e)).setCell ⟨g, s * 10 + 6, none⟩ (.int .i64 l.n)).setCell ⟨g, s * 10 + 7, none⟩ (.slice l.sA l.s.length l.sc)).setCell ⟨g, s * 10 + 8, none⟩ (.slice l.qA l.q.length l.qc)).setCell ⟨g, s * 10 + 9, none⟩ (.int .i64 l.h)) = W5 at *
  have hgX : g ≠ X := fun e => own_apart h.srow h.blk hT (by rw [hQ, e])
  have hgP : (Value.slice A L.length c).ownBlock ≠ some g := own_two h.srow h.prow (by decide) hQ
  have hf : ∀ b, FreeB W base X (Value.slice A L.length c).ownBlock (Value.slice n.sA n.S.length n.sc).ownBlock b → FreeB W5 base X (Value.slice A L.length c).ownBlock (Value.slice (n.link s l).sA (n.link s l).S.length (n.link s l).sc).ownBlock b ∧ W5.heap[b]? = W.heap[b]? := fun b k => by
    have hb : b ≠ g := fun e => k.2.2.2 (by rw [hQ, e])
    refine ⟨⟨⟨k.1.1, by rw [hz]; exact k.1.2⟩, k.2.1, k.2.2.1, ?_⟩, tt.block b k.1.2 hb (by simpa using hb)⟩
    rw [hlen]
    exact k.2.2.2
  have hrow : W5.ownsRow base 65 10 (.slice (n.link s l).sA (n.link s l).S.length (n.link s l).sc) (n.link s l).S.length ((n.link s l).S.flatMap SideV.cells) := by
    rw [hlen]
    show W5.ownsRow base 65 10 (.slice n.sA n.S.length n.sc) n.S.length ((n.link s l).S.flatMap SideV.cells)
    rw [hg]
    have e : (((((n.S.flatMap SideV.cells).set (s * 10 + 5) (.int .i64 l.e)).set (s * 10 + 6) (.int .i64 l.n)).set (s * 10 + 7) (.slice l.sA l.s.length l.sc)).set (s * 10 + 8) (.slice l.qA l.q.length l.qc)).set (s * 10 + 9) (.int .i64 l.h) = (n.link s l).S.flatMap SideV.cells := by
      have hM : ∀ r ∈ n.S.map SideV.cells, r.length = 10 := fun r hr => by
        obtain ⟨x, _, rfl⟩ := List.mem_map.1 hr
        exact SideV.cells_len x
      have hsM : s < (n.S.map SideV.cells).length := by simpa using hs
      rw [List.flatMap_def, List.flatMap_def, flat_set 10 _ _ hM s 5 hsM (by omega), flat_set2 10 _ _ hM s 6 hsM (by omega) _ (by simp [SideV.cells_len]), flat_set2 10 _ _ hM s 7 hsM (by omega) _ (by simp [SideV.cells_len]), flat_set2 10 _ _ hM s 8 hsM (by omega) _ (by simp [SideV.cells_len]), flat_set2 10 _ _ hM s 9 hsM (by omega) _ (by simp [SideV.cells_len])]
      unfold NodeV.link
      dsimp only
      rw [List.map_set]
      congr 2
      rw [List.getElem_map, List.getD_eq_getElem?_getD, List.getElem?_eq_getElem hs]
      rfl
    rw [← e]
    exact r5
  refine ⟨h.lo, ?_, ?_, hrow, fun x hx => (h.pops x hx).moved fun b k => ⟨⟨k.1, (hf b k.2).1⟩, (hf b k.2).2⟩, fun x hx => ?_, h.undo.moved hf, h.marks.moved hf⟩
  · have := (tt.block X h.lt (fun e => hgX e.symm) (by simpa using fun e => hgX e.symm)).trans h.blk
    rw [show turnCells (n.link s l) (.slice A L.length c) R = turnCells n (.slice A L.length c) R by simp only [turnCells, hlen]; rfl]
    exact this
  · refine ⟨h.prow.1, ?_⟩
    rcases h.prow.2 with hn | ⟨g', cap, cur, e1, h1, hg', rest⟩
    · exact .inl hn
    · have hne : g' ≠ g := fun e => hgP (by rw [e1, e]; rfl)
      exact .inr ⟨g', cap, cur, e1, h1, (tt.block g' (Array.getElem?_eq_some_iff.1 hg').1 hne (by simpa using hne)).trans hg', rest⟩
  · have hx' : x ∈ n.S.set s ⟨(n.S.getD s default).p, (n.S.getD s default).j, (n.S.getD s default).s, (n.S.getD s default).h, (n.S.getD s default).A, (n.S.getD s default).c, (n.S.getD s default).L, l⟩ := hx
    rcases List.mem_or_eq_of_mem_set hx' with hm | rfl
    · exact (h.side x hm).moved hf
    · have hd := h.side (n.S.getD s default) (by rw [List.getD_eq_getElem?_getD, List.getElem?_eq_getElem hs]; exact List.getElem_mem hs)
      have hl' := hl.moved hf
      exact ⟨hd.ops.moved hf, fun o ho => (hd.op o ho).moved hf, hl'.s, hl'.so, hl'.q, hl'.qo⟩
end Go.Proofs.YtbmdepbmejnlkaaDoor
