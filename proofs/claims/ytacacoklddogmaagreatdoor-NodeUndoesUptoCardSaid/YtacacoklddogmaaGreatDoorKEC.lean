/- A part of the proof of NodeUndoes. -/
import Derived.Test.YtacacoklddogmaaGreatDoorKEB
namespace Go.Proofs.YtacacoklddogmaaGreatDoor
set_option maxHeartbeats 4000000
open Go.ChangeShapes Go.WideShapes Go.ChangeAt Go.RowKit
set_option maxRecDepth 100000
structure LinkV.InS (S : Nat → Prop) (w : World) (l : LinkV) : Prop where
 s : Sl S w 5 l.sA l.s.length (l.s.flatMap FrameV.cells)
 so : ∀ f ∈ l.s, OpIn S w f.o.A f.o.ps
 q : Sl S w 5 l.qA l.q.length (l.q.flatMap FrameV.cells)
 qo : ∀ f ∈ l.q, OpIn S w f.o.A f.o.ps
theorem LinkV.InS.moved {S S' : Nat → Prop} {w w' : World} {l : LinkV} (h : l.InS S w) (k : ∀ b, S b → S' b ∧ w'.heap[b]? = w.heap[b]?) : l.InS S' w' :=
 ⟨h.s.moved k, fun f hf => (h.so f hf).moved k, h.q.moved k, fun f hf => (h.qo f hf).moved k⟩
theorem LinkV.InS.in_ {S : Nat → Prop} {w : World} {l : LinkV} (h : l.InS S w) (k : ∀ b, S b → b < w.heap.size) : l.In w := by
 have h' := h.moved (S' := (· < w.heap.size)) fun b hb => ⟨k b hb, rfl⟩
 exact ⟨⟨h'.s, h'.so⟩, ⟨h'.q, h'.qo⟩⟩
theorem LinkV.In.inS {w : World} {l : LinkV} (h : l.In w) : l.InS (· < w.heap.size) w := ⟨h.s.row, h.s.each, h.q.row, h.q.each⟩
structure PksS (S : Nat → Prop) (w : World) (A : Option Addr) (L : List PacketV) : Prop where
 row : Sl S w 9 A L.length (L.flatMap PacketV.cells)
 each : ∀ p ∈ L, OpIn S w p.f.o.A p.f.o.ps
theorem PksS.moved {S S' : Nat → Prop} {w w' : World} {A : Option Addr} {L : List PacketV} (h : PksS S w A L) (k : ∀ b, S b → S' b ∧ w'.heap[b]? = w.heap[b]?) : PksS S' w' A L := ⟨h.row.moved k, fun p hp => (h.each p hp).moved k⟩
def RetSendF (w : World) (d : LinkD) (D : List PacketD) (er : Int) (e : Ending) (w' : World) : Prop :=
 ∃ (l : LinkV) (A : Option Addr) (c : Nat) (L : List PacketV), e = .returned (.tuple #[l.val, .slice A L.length c, .int .i64 er]) ∧ l.d = d ∧ L.map PacketV.d = D ∧ l.InS (fun b => w.heap.size ≤ b ∧ b < w'.heap.size) w' ∧ PksS (fun b => w.heap.size ≤ b ∧ b < w'.heap.size) w' A L ∧ Below w.heap.size w w'
theorem fi_ (n : Nat) (u : Value) : ∀ (M : List (List Value)) (_ : ∀ r ∈ M, r.length = n) (k j : Nat) (hk : k < M.length) (_ : j < n), M.flatten.set (k * n + j) u = (M.set k (M[k].set j u)).flatten
 | [], _, k, _, hk, _ => absurd hk (by simp)
 | r :: M, h, 0, j, _, hj => by
  have hr := h r (by simp)
  simp only [List.flatten_cons, Nat.zero_mul, Nat.zero_add, List.set_cons_zero, List.getElem_cons_zero]
  rw [List.set_append_left _ _ (by omega)]
 | r :: M, h, k + 1, j, hk, hj => by
  have hr := h r (by simp)
  have ih := fi_ n u M (fun q hq => h q (by simp [hq])) k j (by simpa using hk) hj
  have he : (k + 1) * n + j = n + (k * n + j) := by rw [Nat.add_mul]; omega
  simp only [List.flatten_cons, List.set_cons_succ, List.getElem_cons_succ]
  rw [List.set_append_right _ _ (by omega), ← ih, he]
  congr 2
  omega
theorem dd_ (n : Nat) (u : Value) (M : List (List Value)) (h : ∀ r ∈ M, r.length = n) (k j : Nat) (hk : k < M.length) (hj : j < n) (r : List Value) (hr : r.length = n) : (M.set k r).flatten.set (k * n + j) u = (M.set k (r.set j u)).flatten := by
 rw [fi_ n u (M.set k r) (fun q hq => by
  rcases List.mem_or_eq_of_mem_set hq with hm | rfl
  · exact h q hm
  · exact hr) k j (by simpa using hk) hj]
 rw [List.set_set, List.getElem_set_self]
theorem SideV.InS.link {S : Nat → Prop} {w : World} {x : SideV} (h : x.InS S w) : x.k.InS S w := ⟨h.s, h.so, h.q, h.qo⟩
theorem bq_ {w : World} {base base' : Nat} {e e' : TypeId} {size size' n n' : Nat} {v v' : Value} {xs xs' : List Value} (h : w.ownsRow base e size v n xs) (h' : w.ownsRow base' e' size' v' n' xs') (hT : e ≠ e') {b : Nat} (hb : v.ownBlock = some b) : v'.ownBlock ≠ some b := by
 rcases h.2 with ⟨rfl, _⟩ | ⟨g, cap, cur, rfl, _, hg, _⟩
 · simp [Value.ownBlock] at hb
 · simp only [Value.ownBlock, Option.some.injEq] at hb
   subst hb
   exact m_ h' hg hT
section
variable {T : TypeId} {W W' : World} {base X : Nat} {n : NodeV} {A : Option Addr} {c : Nat} {L : List PostV} {R : Value}
theorem cf_ {base : Nat} {e : TypeId} {size k : Nat} {v : Value} {xs : List Value} (h : W.ownsRow base e size v k xs) (hb : Below W.heap.size W W') : W'.ownsRow base e size v k xs := by
 refine ⟨h.1, ?_⟩
 rcases h.2 with hn | ⟨g, cap, cur, e1, h1, hg, rest⟩
 · exact .inl hn
 · exact .inr ⟨g, cap, cur, e1, h1, (hb.block g (Array.getElem?_eq_some_iff.1 hg).1).trans hg, rest⟩
theorem Sl.of_own2 {base : Nat} {e : TypeId} {size k c : Nat} {A : Option Addr} {xs : List Value} (h : W.ownsRow base e size (.slice A k c) k xs) : Sl (fun b => (Value.slice A k c).ownBlock = some b ∧ base ≤ b ∧ b < W.heap.size) W size A k xs := by
 refine ⟨h.1, fun hn => ?_⟩
 obtain ⟨g, cap, hv, hb, hlt⟩ := h.form hn
 have hA : A = some ⟨g, 0, none⟩ := by injection hv
 subst hA
 refine ⟨g, 0, rfl, ⟨rfl, hb, hlt⟩, fun j u hu => ?_⟩
 have := h.cells (g := g) rfl j u hu
 rwa [Go.WideShapes.add_plain] at this
end
def NodeV.link (n : NodeV) (s : Nat) (l : LinkV) : NodeV := ⟨n.me, n.ep, n.up, n.rd, n.t, n.sA, n.sc, n.S.set s ⟨(n.S.getD s default).p, (n.S.getD s default).j, (n.S.getD s default).s, (n.S.getD s default).h, (n.S.getD s default).A, (n.S.getD s default).c, (n.S.getD s default).L, l⟩, n.uA, n.uc, n.U, n.mA, n.mc, n.M⟩
def FreeX (W : World) (base X : Nat) (P Q : Option Nat) (ex : List (Option Nat)) (b : Nat) : Prop := (base ≤ b ∧ b < W.heap.size) ∧ b ≠ X ∧ P ≠ some b ∧ Q ≠ some b ∧ ∀ r ∈ ex, r ≠ some b
structure BusyX (T : TypeId) (W : World) (base X : Nat) (n : NodeV) (A : Option Addr) (c : Nat) (L : List PostV) (R : Value) (ex : List (Option Nat)) : Prop where
 exl : ∀ r ∈ ex, ∀ y, r = some y → (y < W.heap.size ∧ y ≠ X) ∧ (Value.slice A L.length c).ownBlock ≠ some y ∧ (Value.slice n.sA n.S.length n.sc).ownBlock ≠ some y
 lo : base ≤ X
 blk : W.heap[X]? = some (.cells (turnCells n (.slice A L.length c) R) T (0, 0))
 prow : W.ownsRow (X + 1) 79 10 (.slice A L.length c) L.length (L.flatMap PostV.cells)
 srow : W.ownsRow base 60 10 (.slice n.sA n.S.length n.sc) n.S.length (n.S.flatMap SideV.cells)
 pops : ∀ x ∈ L, OpIn (fun b => X + 1 ≤ b ∧ FreeX W base X (Value.slice A L.length c).ownBlock (Value.slice n.sA n.S.length n.sc).ownBlock ex b) W x.p.f.o.A x.p.f.o.ps
 side : ∀ x ∈ n.S, x.InS (FreeX W base X (Value.slice A L.length c).ownBlock (Value.slice n.sA n.S.length n.sc).ownBlock ex) W
section
variable {T : TypeId} {W W' : World} {base X : Nat} {n : NodeV} {A : Option Addr} {c : Nat} {L : List PostV} {R : Value} {ex : List (Option Nat)}
theorem BusyX.lt (h : BusyX T W base X n A c L R ex) : X < W.heap.size := (Array.getElem?_eq_some_iff.1 h.blk).1
theorem FreeX.later {P Q : Option Nat} {ex : List (Option Nat)} {b : Nat} (hb : Below W.heap.size W W') (h : FreeX W base X P Q ex b) : FreeX W' base X P Q ex b ∧ W'.heap[b]? = W.heap[b]? :=
 ⟨⟨⟨h.1.1, Nat.lt_of_lt_of_le h.1.2 hb.size⟩, h.2⟩, hb.block b h.1.2⟩
theorem BusyX.later (h : BusyX T W base X n A c L R ex) (hb : Below W.heap.size W W') : BusyX T W' base X n A c L R ex :=
 ⟨fun r hr y hy => ⟨⟨Nat.lt_of_lt_of_le (h.exl r hr y hy).1.1 hb.size, (h.exl r hr y hy).1.2⟩, (h.exl r hr y hy).2⟩, h.lo, (hb.block _ h.lt).trans h.blk, cf_ h.prow hb, cf_ h.srow hb, fun x hx => (h.pops x hx).moved fun _ k => ⟨⟨k.1, (k.2.later hb).1⟩, (k.2.later hb).2⟩,
  fun x hx => (h.side x hx).moved fun _ k => k.later hb⟩
theorem BusyX.work (hT : T ≠ 60) (h : BusyX T W base X n A c L R ex) : WorkAt T W X n A c L R := by
 refine ⟨h.blk, ⟨h.prow, fun x hx => (h.pops x hx).moved fun b k => ⟨⟨⟨k.1, k.2.1.2⟩, k.2.2.2.1⟩, rfl⟩⟩, ?_⟩
 have hQX : (Value.slice n.sA n.S.length n.sc).ownBlock ≠ some X := m_ h.srow h.blk hT
 refine (Sl.of_own2 h.srow).moved fun b k => ⟨⟨k.2.2, fun e => hQX (e ▸ k.1), bq_ h.srow h.prow (by decide) k.1⟩, rfl⟩
theorem BusyX.posted (hT : T ≠ 60) (h : BusyX T W base X n A c L R ex) {A' : Option Addr} {c' : Nat} {K : List PacketV} {who : Int} (hp : PostedTo T W X n A L.length c (L ++ K.map (PostV.mk who)) R A' c' W')
 (hK : ∀ p ∈ K, OpIn (fun b => X + 1 ≤ b ∧ FreeX W base X (Value.slice A L.length c).ownBlock (Value.slice n.sA n.S.length n.sc).ownBlock ex b) W p.f.o.A p.f.o.ps) : BusyX T W' base X n A' c' (L ++ K.map (PostV.mk who)) R ex := by
 have hf : ∀ b, FreeX W base X (Value.slice A L.length c).ownBlock (Value.slice n.sA n.S.length n.sc).ownBlock ex b → FreeX W' base X (Value.slice A' (L ++ K.map (PostV.mk who)).length c').ownBlock (Value.slice n.sA n.S.length n.sc).ownBlock ex b ∧ W'.heap[b]? = W.heap[b]? := fun b k => by
  have q := hp.apart ⟨k.1.2, k.2.1, k.2.2.1⟩
  exact ⟨⟨⟨k.1.1, q.1.1⟩, k.2.1, q.1.2.2, k.2.2.2⟩, q.2⟩
 have hs : W'.ownsRow base 60 10 (.slice n.sA n.S.length n.sc) n.S.length (n.S.flatMap SideV.cells) := by
  refine ⟨h.srow.1, ?_⟩
  rcases h.srow.2 with hn | ⟨g, cap, cur, e1, h1, hg, rest⟩
  · exact .inl hn
  · have hQ : (Value.slice n.sA n.S.length n.sc).ownBlock = some g := by rw [e1]; rfl
    have hgX : g ≠ X := fun e => m_ h.srow h.blk hT (by rw [hQ, e])
    exact .inr ⟨g, cap, cur, e1, h1, (hp.turned.block g (Array.getElem?_eq_some_iff.1 hg).1 hgX (fun e => bq_ h.srow h.prow (by decide) hQ e.symm)).trans hg, rest⟩
 refine ⟨fun r hr y hy => ?_, h.lo, hp.at_.blk, hp.at_.posts.row, hs, fun x hx => ?_, fun x hx => (h.side x hx).moved hf⟩
 · have h9 := h.exl r hr y hy
   have q := hp.apart (b := y) ⟨h9.1.1, h9.1.2, h9.2.1⟩
   exact ⟨⟨q.1.1, h9.1.2⟩, q.1.2.2, h9.2.2⟩
 rcases List.mem_append.1 hx with hx | hx
 · exact (h.pops x hx).moved fun b k => ⟨⟨k.1, (hf b k.2).1⟩, (hf b k.2).2⟩
 · obtain ⟨p, hp1, rfl⟩ := List.mem_map.1 hx
   exact (hK p hp1).moved fun b k => ⟨⟨k.1, (hf b k.2).1⟩, (hf b k.2).2⟩
end
theorem BusyX.setLink {T : TypeId} {W : World} {base X : Nat} {n : NodeV} {A : Option Addr} {c : Nat} {L : List PostV} {R : Value} {ex : List (Option Nat)} (hT : T ≠ 60) (h : BusyX T W base X n A c L R ex) {s : Nat} (hs : s < n.S.length) {g : Nat} (hg : n.sA = some ⟨g, 0, none⟩) (l : LinkV)
 (hl : l.InS (FreeX W base X (Value.slice A L.length c).ownBlock (Value.slice n.sA n.S.length n.sc).ownBlock ex) W) :
 BusyX T (((((W.setCell ⟨g, s * 10 + 5, none⟩ (.int .i64 l.e)).setCell ⟨g, s * 10 + 6, none⟩ (.int .i64 l.n)).setCell ⟨g, s * 10 + 7, none⟩ (.slice l.sA l.s.length l.sc)).setCell ⟨g, s * 10 + 8, none⟩ (.slice l.qA l.q.length l.qc)).setCell ⟨g, s * 10 + 9, none⟩ (.int .i64 l.h)) base X (n.link s l) A c L R ex := by
 have hlen : (n.link s l).S.length = n.S.length := by simp [NodeV.link]
 have hQ : (Value.slice n.sA n.S.length n.sc).ownBlock = some g := by rw [hg]; rfl
 have hr := h.srow
 rw [hg] at hr
 obtain ⟨r1, t1⟩ := hr.stored (s * 10 + 5) (.int .i64 l.e)
 obtain ⟨r2, t2⟩ := r1.stored (s * 10 + 6) (.int .i64 l.n)
 obtain ⟨r3, t3⟩ := r2.stored (s * 10 + 7) (.slice l.sA l.s.length l.sc)
 obtain ⟨r4, t4⟩ := r3.stored (s * 10 + 8) (.slice l.qA l.q.length l.qc)
 obtain ⟨r5, t5⟩ := r4.stored (s * 10 + 9) (.int .i64 l.h)
 have tt := (((Turned.of_grown (B := g) t1).trans (Turned.of_grown t2) (.inl rfl)).trans (Turned.of_grown t3) (.inl rfl)).trans (Turned.of_grown t4) (.inl rfl) |>.trans (Turned.of_grown t5) (.inl rfl)
 have hz : ((((((W.setCell ⟨g, s * 10 + 5, none⟩ (.int .i64 l.e)).setCell ⟨g, s * 10 + 6, none⟩ (.int .i64 l.n)).setCell ⟨g, s * 10 + 7, none⟩ (.slice l.sA l.s.length l.sc)).setCell ⟨g, s * 10 + 8, none⟩ (.slice l.qA l.q.length l.qc)).setCell ⟨g, s * 10 + 9, none⟩ (.int .i64 l.h)).heap.size) = W.heap.size := by simp [World.setCell]
 generalize (((((W.setCell ⟨g, s * 10 + 5, none⟩ (.int .i64 l.e)).setCell ⟨g, s * 10 + 6, none⟩ (.int .i64 l.n)).setCell ⟨g, s * 10 + 7, none⟩ (.slice l.sA l.s.length l.sc)).setCell ⟨g, s * 10 + 8, none⟩ (.slice l.qA l.q.length l.qc)).setCell ⟨g, s * 10 + 9, none⟩ (.int .i64 l.h)) = W5 at *
 have hgX : g ≠ X := fun e => m_ h.srow h.blk hT (by rw [hQ, e])
 have hgP : (Value.slice A L.length c).ownBlock ≠ some g := bq_ h.srow h.prow (by decide) hQ
 have hf : ∀ b, FreeX W base X (Value.slice A L.length c).ownBlock (Value.slice n.sA n.S.length n.sc).ownBlock ex b → FreeX W5 base X (Value.slice A L.length c).ownBlock (Value.slice (n.link s l).sA (n.link s l).S.length (n.link s l).sc).ownBlock ex b ∧ W5.heap[b]? = W.heap[b]? := fun b k => by
  have hb : b ≠ g := fun e => k.2.2.2.1 (by rw [hQ, e])
  refine ⟨⟨⟨k.1.1, by rw [hz]; exact k.1.2⟩, k.2.1, k.2.2.1, ?_, k.2.2.2.2⟩, tt.block b k.1.2 hb (by simpa using hb)⟩
  rw [hlen]
  exact k.2.2.2.1
 have hrow : W5.ownsRow base 60 10 (.slice (n.link s l).sA (n.link s l).S.length (n.link s l).sc) (n.link s l).S.length ((n.link s l).S.flatMap SideV.cells) := by
  rw [hlen]
  show W5.ownsRow base 60 10 (.slice n.sA n.S.length n.sc) n.S.length ((n.link s l).S.flatMap SideV.cells)
  rw [hg]
  have e : (((((n.S.flatMap SideV.cells).set (s * 10 + 5) (.int .i64 l.e)).set (s * 10 + 6) (.int .i64 l.n)).set (s * 10 + 7) (.slice l.sA l.s.length l.sc)).set (s * 10 + 8) (.slice l.qA l.q.length l.qc)).set (s * 10 + 9) (.int .i64 l.h) = (n.link s l).S.flatMap SideV.cells := by
   have hM : ∀ r ∈ n.S.map SideV.cells, r.length = 10 := fun r hr => by
    obtain ⟨x, _, rfl⟩ := List.mem_map.1 hr
    exact SideV.cells_len x
   have hsM : s < (n.S.map SideV.cells).length := by simpa using hs
   rw [List.flatMap_def, List.flatMap_def, fi_ 10 _ _ hM s 5 hsM (by omega), dd_ 10 _ _ hM s 6 hsM (by omega) _ (by simp [SideV.cells_len]), dd_ 10 _ _ hM s 7 hsM (by omega) _ (by simp [SideV.cells_len]), dd_ 10 _ _ hM s 8 hsM (by omega) _ (by simp [SideV.cells_len]), dd_ 10 _ _ hM s 9 hsM (by omega) _ (by simp [SideV.cells_len])]
   unfold NodeV.link
   dsimp only
   rw [List.map_set]
   congr 2
   rw [List.getElem_map, List.getD_eq_getElem?_getD, List.getElem?_eq_getElem hs]
   rfl
  rw [← e]
  exact r5
 refine ⟨fun r hr y hy => ?_, h.lo, ?_, ?_, hrow, fun x hx => (h.pops x hx).moved fun b k => ⟨⟨k.1, (hf b k.2).1⟩, (hf b k.2).2⟩, fun x hx => ?_⟩
 · have h9 := h.exl r hr y hy
   rw [hz, hlen]
   exact h9
 · have := (tt.block X h.lt (fun e => hgX e.symm) (by simpa using fun e => hgX e.symm)).trans h.blk
   rw [show turnCells (n.link s l) (.slice A L.length c) R = turnCells n (.slice A L.length c) R by simp only [turnCells, hlen]; rfl]
   exact this
 · refine ⟨h.prow.1, ?_⟩
   rcases h.prow.2 with hn | ⟨g', cap, cur, e1, h1, hg', rest⟩
   · exact .inl hn
   · have hne : g' ≠ g := fun e => hgP (by rw [e1, e]; rfl)
     exact .inr ⟨g', cap, cur, e1, h1, (tt.block g' (Array.getElem?_eq_some_iff.1 hg').1 hne (by simpa using hne)).trans hg', rest⟩
 · have hx' : x ∈ n.S.set s ⟨(n.S.getD s default).p, (n.S.getD s default).j, (n.S.getD s default).s, (n.S.getD s default).h, (n.S.getD s default).A, (n.S.getD s default).c, (n.S.getD s default).L, l⟩ := hx
   rcases List.mem_or_eq_of_mem_set hx' with hm | rfl
   · exact (h.side x hm).moved hf
   · have hd := h.side (n.S.getD s default) (by rw [List.getD_eq_getElem?_getD, List.getElem?_eq_getElem hs]; exact List.getElem_mem hs)
     have hl' := hl.moved hf
     exact ⟨hd.ops.moved hf, fun o ho => (hd.op o ho).moved hf, hl'.s, hl'.so, hl'.q, hl'.qo⟩
end Go.Proofs.YtacacoklddogmaaGreatDoor
