/- A part of the proof of NodeUndoes. -/
import Derived.Test.YtacacoklddogmaaGreatDoorKBG
namespace Go.Proofs.YtacacoklddogmaaGreatDoor
set_option maxHeartbeats 4000000
open Go.ChangeShapes Go.WideShapes Go.ChangeAt Go.RowKit
set_option maxRecDepth 100000
structure OpsS (S : Nat → Prop) (w : World) (A : Option Addr) (L : List OpV) : Prop where
 row : Sl S w 1 A L.length (L.map OpV.val)
 each : ∀ o ∈ L, OpIn S w o.A o.ps
theorem OpsS.moved {S S' : Nat → Prop} {w w' : World} {A : Option Addr} {L : List OpV} (h : OpsS S w A L) (k : ∀ b, S b → S' b ∧ w'.heap[b]? = w.heap[b]?) : OpsS S' w' A L := ⟨h.row.moved k, fun o ho => (h.each o ho).moved k⟩
theorem OpsS.of {w : World} {base : Nat} {A : Option Addr} {c : Nat} {L : List OpV} (h : OpsOwn w base A c L) : OpsS (fun b => base ≤ b ∧ b < w.heap.size) w A L :=
 ⟨(Sl.of_own _ h.row).moved fun _ hb => ⟨hb, rfl⟩, fun o ho => (h.each o ho).moved fun _ hb => ⟨hb.1, rfl⟩⟩
structure NodeV.InS (S : Nat → Prop) (w : World) (n : NodeV) : Prop where
 row : Sl S w 10 n.sA n.S.length (n.S.flatMap SideV.cells)
 each : ∀ x ∈ n.S, x.InS S w
 undo : OpsS S w n.uA n.U
 marks : Sl S w 2 n.mA n.M.length (n.M.flatMap markCells)
theorem NodeV.InS.moved {S S' : Nat → Prop} {w w' : World} {n : NodeV} (h : n.InS S w) (k : ∀ b, S b → S' b ∧ w'.heap[b]? = w.heap[b]?) : n.InS S' w' :=
 ⟨h.row.moved k, fun x hx => (h.each x hx).moved k, h.undo.moved k, h.marks.moved k⟩
theorem NodeV.In.inS {w : World} {n : NodeV} (h : n.In w) : n.InS (· < w.heap.size) w :=
 ⟨h.sides.row, fun x hx => ⟨(h.sides.each x hx).ops.row, (h.sides.each x hx).ops.each, (h.sides.each x hx).link.s.row, (h.sides.each x hx).link.s.each, (h.sides.each x hx).link.q.row, (h.sides.each x hx).link.q.each⟩, ⟨h.undo.row, h.undo.each⟩, h.marks⟩
theorem NodeV.InS.in_ {S : Nat → Prop} {w : World} {n : NodeV} (h : n.InS S w) (k : ∀ b, S b → b < w.heap.size) : n.In w := by
 have h' := h.moved (S' := (· < w.heap.size)) fun b hb => ⟨k b hb, rfl⟩
 exact ⟨⟨h'.row, fun x hx => (h.each x hx).in_ k⟩, ⟨h'.undo.row, h'.undo.each⟩, h'.marks⟩
theorem SidesOwn.inS {w : World} {base B : Nat} {A : Option Addr} {c : Nat} {L : List SideV} (h : SidesOwn w base A c L) (hb : B ≤ base) : Sl (fun b => B ≤ b ∧ b < w.heap.size) w 10 A L.length (L.flatMap SideV.cells) ∧ ∀ x ∈ L, x.InS (fun b => B ≤ b ∧ b < w.heap.size) w :=
 ⟨(Sl.of_own _ h.row).moved fun _ hx => ⟨⟨by omega, hx.2⟩, rfl⟩, fun o ho => (h.each o ho).moved fun _ hx => ⟨⟨by omega, hx.1.2⟩, rfl⟩⟩
theorem infoSide : (Tryz.prog.info? 60).map (fun i => (i.zero, i.size, i.bytes)) = some (some (.agg #[.int .i64 0, .bool false, .int .i64 0, .int .i64 0, .slice none 0 0, .int .i64 0, .int .i64 0, .slice none 0 0, .slice none 0 0, .int .i64 0]), 10, 128) := by kernel_rfl
structure OwnAt (w : World) (R X : Nat) (nv xv : Array Value) (W : World) : Prop where
 nd : W.heap[w.heap.size]? = some (.cells nv 28 (0, 0))
 r : W.heap[R]? = some (.cells #[.int .i64 0, .int .i64 0, .int .i64 0, .bool false, .string ⟨#[]⟩, .slice none 0 0, .slice none 0 0, .slice none 0 0] 28 (0, 0))
 x : W.heap[X]? = some (.cells xv 28 (0, 0))
 b : Below w.heap.size w W
 wr : w.heap.size < R
 rx : R < X
 xz : X < W.heap.size
theorem OwnAt.later {w W W' : World} {R X : Nat} {nv xv : Array Value} (k : OwnAt w R X nv xv W) (hb : Below W.heap.size W W') : OwnAt w R X nv xv W' := by
 have h1 := k.wr
 have h2 := k.rx
 have h3 := k.xz
 have h4 := hb.size
 exact ⟨(hb.block _ (by omega)).trans k.nd, (hb.block _ (by omega)).trans k.r, (hb.block _ h3).trans k.x, bThen k.b hb, h1, h2, by omega⟩
theorem OwnAt.set {w W : World} {R X : Nat} {nv xv : Array Value} (k : OwnAt w R X nv xv W) (j : Nat) (v : Value) : OwnAt w R X nv (xv.setIfInBounds j v) (W.setCell ⟨X, j, none⟩ v) := by
 have h1 := k.wr
 have h2 := k.rx
 exact ⟨(bH_ (by show w.heap.size ≠ X; omega)).trans k.nd, (bH_ (by show R ≠ X; omega)).trans k.r, e_ j v k.x, bSet k.b (p := ⟨X, j, none⟩) (by show w.heap.size ≤ X; omega) v, h1, h2, by simpa [World.setCell] using k.xz⟩
theorem OwnAt.new (w : World) (nv xv : Array Value) : OwnAt w (w.heap.size + 1) (w.heap.size + 2) nv xv (((w.alloc (.cells nv 28)).alloc (.cells #[.int .i64 0, .int .i64 0, .int .i64 0, .bool false, .string ⟨#[]⟩, .slice none 0 0, .slice none 0 0, .slice none 0 0] 28)).alloc (.cells xv 28)) := by
 refine ⟨(q_ _ _ _ (by simp)).trans ((q_ _ _ _ (by simp)).trans (World.alloc_heap_new _ _)), (q_ _ _ _ (by simp)).trans ?_, ?_, bAlloc (bAlloc bA_ _) _, by omega, by omega, by simp⟩
 · have := World.alloc_heap_new (w.alloc (.cells nv 28)) (.cells #[.int .i64 0, .int .i64 0, .int .i64 0, .bool false, .string ⟨#[]⟩, .slice none 0 0, .slice none 0 0, .slice none 0 0] 28)
   rwa [World.size_alloc] at this
 · have := World.alloc_heap_new ((w.alloc (.cells nv 28)).alloc (.cells #[.int .i64 0, .int .i64 0, .int .i64 0, .bool false, .string ⟨#[]⟩, .slice none 0 0, .slice none 0 0, .slice none 0 0] 28)) (.cells xv 28)
   rwa [World.size_alloc, World.size_alloc] at this
theorem gh_ {W : World} {B : Nat} {v0 v1 v2 v3 v4 v5 v6 v7 : Value} {t : TypeId} (h : W.heap[B]? = some (.cells #[v0, v1, v2, v3, v4, v5, v6, v7] t (0, 0))) :
 W.frozen? ⟨B, 0, none⟩ = false ∧ W.frozen? ⟨B, 1, none⟩ = false ∧ W.frozen? ⟨B, 2, none⟩ = false ∧ W.frozen? ⟨B, 3, none⟩ = false ∧ W.frozen? ⟨B, 4, none⟩ = false ∧ W.frozen? ⟨B, 5, none⟩ = false ∧ W.frozen? ⟨B, 6, none⟩ = false ∧ W.frozen? ⟨B, 7, none⟩ = false := by
 refine ⟨?_, ?_, ?_, ?_, ?_, ?_, ?_, ?_⟩ <;> (unfold World.frozen?; rw [h]; simp)
theorem f_ {W : World} {B : Nat} {v0 v1 v2 v3 v4 v5 v6 v7 v8 v9 : Value} {t : TypeId} (h : W.heap[B]? = some (.cells #[v0, v1, v2, v3, v4, v5, v6, v7, v8, v9] t (0, 0))) :
 W.cell? ⟨B, 0, none⟩ = some v0 ∧ W.cell? ⟨B, 1, none⟩ = some v1 ∧ W.cell? ⟨B, 2, none⟩ = some v2 ∧ W.cell? ⟨B, 3, none⟩ = some v3 ∧ W.cell? ⟨B, 4, none⟩ = some v4 ∧ W.cell? ⟨B, 5, none⟩ = some v5 ∧ W.cell? ⟨B, 6, none⟩ = some v6 ∧ W.cell? ⟨B, 7, none⟩ = some v7 ∧ W.cell? ⟨B, 8, none⟩ = some v8 ∧ W.cell? ⟨B, 9, none⟩ = some v9 ∧ B < W.heap.size := by
 have hz := (Array.getElem?_eq_some_iff.1 h).1
 refine ⟨?_, ?_, ?_, ?_, ?_, ?_, ?_, ?_, ?_, ?_, hz⟩ <;> (unfold World.cell?; rw [h]; rfl)
theorem tenF {W : World} {B : Nat} {vs : Array Value} {t : TypeId} (h : W.heap[B]? = some (.cells vs t (0, 0))) (j : Nat) : W.frozen? ⟨B, j, none⟩ = false := by
 unfold World.frozen?; rw [h]; simp
theorem SideV.InS.of {w : World} {F b1 b2 b3 : Nat} {x : SideV} (h1 : OpsOwn w b1 x.A x.c x.L) (k1 : F ≤ b1) (h2 : FramesOwn w b2 x.k.sA x.k.sc x.k.s) (k2 : F ≤ b2) (h3 : FramesOwn w b3 x.k.qA x.k.qc x.k.q) (k3 : F ≤ b3) : x.InS (fun b => F ≤ b ∧ b < w.heap.size) w :=
 ⟨(Sl.of_own _ h1.row).moved fun b hb => ⟨⟨by omega, hb.2⟩, rfl⟩, fun o ho => (h1.each o ho).moved fun b hb => ⟨⟨by omega, hb.1.2⟩, rfl⟩,
   (Sl.of_own _ h2.row).moved fun b hb => ⟨⟨by omega, hb.2⟩, rfl⟩, fun f hf => (h2.each f hf).moved fun b hb => ⟨⟨by omega, hb.1.2⟩, rfl⟩,
   (Sl.of_own _ h3.row).moved fun b hb => ⟨⟨by omega, hb.2⟩, rfl⟩, fun f hf => (h3.each f hf).moved fun b hb => ⟨⟨by omega, hb.1.2⟩, rfl⟩⟩
theorem ns_ {X Y : World} {d base : Nat} {os : Array Obj} {A : Option Addr} {c : Nat} {L : List OpV} (h : OpsOwn (Go.Sort.grow (redrawn X d) os) base A c L) (hz : X.heap.size = Y.heap.size) (hb : X.heap.size ≤ base) : OpsS (fun b => X.heap.size ≤ b ∧ b < (Go.Sort.grow (redrawn Y d) os).heap.size) (Go.Sort.grow (redrawn Y d) os) A L :=
 (OpsS.of h).moved fun b hx => ⟨⟨by omega, by have h1 := hx.2; simp [Go.Sort.grow, redrawn] at h1 ⊢; omega⟩, de_ X Y d os hz (by omega)⟩
theorem OwnAt.out {w WA G : World} {R X : Nat} {nv xv : Array Value} (h0 : WA.heap[w.heap.size]? = some (.cells nv 28 (0, 0)) ∧ WA.heap[R]? = some (.cells #[.int .i64 0, .int .i64 0, .int .i64 0, .bool false, .string ⟨#[]⟩, .slice none 0 0, .slice none 0 0, .slice none 0 0] 28 (0, 0))) (hb : Below w.heap.size w WA) (hwR : w.heap.size < R) (hR : R < WA.heap.size) (k : Below WA.heap.size WA G) (hX : WA.heap.size ≤ X) (x : G.heap[X]? = some (.cells xv 28 (0, 0))) : OwnAt w R X nv xv G :=
 ⟨(k.block _ (by omega)).trans h0.1, (k.block _ hR).trans h0.2, x, bThen hb k, hwR, by omega, (Array.getElem?_eq_some_iff.1 x).1⟩
theorem ul_ (w : World) (nv : Array Value) :
 ((w.alloc (.cells nv 28)).alloc (.cells #[.int .i64 0, .int .i64 0, .int .i64 0, .bool false, .string ⟨#[]⟩, .slice none 0 0, .slice none 0 0, .slice none 0 0] 28)).heap[w.heap.size]? = some (.cells nv 28 (0, 0)) ∧ ((w.alloc (.cells nv 28)).alloc (.cells #[.int .i64 0, .int .i64 0, .int .i64 0, .bool false, .string ⟨#[]⟩, .slice none 0 0, .slice none 0 0, .slice none 0 0] 28)).heap[w.heap.size + 1]? = some (.cells #[.int .i64 0, .int .i64 0, .int .i64 0, .bool false, .string ⟨#[]⟩, .slice none 0 0, .slice none 0 0, .slice none 0 0] 28 (0, 0)) := by
 refine ⟨(q_ _ _ _ (by simp)).trans (World.alloc_heap_new _ _), ?_⟩
 have := World.alloc_heap_new (w.alloc (.cells nv 28)) (.cells #[.int .i64 0, .int .i64 0, .int .i64 0, .bool false, .string ⟨#[]⟩, .slice none 0 0, .slice none 0 0, .slice none 0 0] 28)
 rwa [World.size_alloc] at this
theorem OwnAt.grown {w W Z w3 : World} {R X : Nat} {nv xv : Array Value} {ob : Option Nat} (k : OwnAt w R X nv xv W) (hb : Below W.heap.size W Z) (hg : Z.grownBy w3 ob) (hl : ∀ g, ob = some g → X < g) : OwnAt w R X nv xv w3 := by
 have h1 := k.wr
 have h2 := k.rx
 have h3 := k.xz
 have h4 := hb.size
 have h5 := hg.size
 have hk : ∀ b, b < W.heap.size → b ≤ X → w3.heap[b]? = W.heap[b]? := fun b h hx => (hg.block b (by omega) (fun e => by have := hl b e.symm; omega)).trans (hb.block b h)
 exact ⟨(hk _ (by omega) (by omega)).trans k.nd, (hk _ (by omega) (by omega)).trans k.r, (hk _ h3 (Nat.le_refl _)).trans k.x, Below.grown (bThen k.b hb) hg (by have := k.b.size; omega) (fun g e => by have := hl g e; omega), h1, h2, by omega⟩
theorem nc_ {W Z w3 : World} {ob : Option Nat} {B : Nat} (hb : Below W.heap.size W Z) (hg : Z.grownBy w3 ob) (hl : ∀ g, ob = some g → B ≤ g) : W.heap.size ≤ w3.heap.size ∧ ∀ b, b < W.heap.size → b < B → w3.heap[b]? = W.heap[b]? := by
 have h4 := hb.size
 have h5 := hg.size
 exact ⟨by omega, fun b h hx => (hg.block b (by omega) (fun e => by have := hl b e.symm; omega)).trans (hb.block b h)⟩
theorem ownsB {w w' : World} {base size n : Nat} {e : TypeId} {v : Value} {xs : List Value} (h : w.ownsRow base e size v n xs) (hb : Below w.heap.size w w') : w'.ownsRow base e size v n xs :=
 h.kept (row := none) ⟨hb.os, hb.tape, hb.output, hb.size, fun k hk _ => hb.block k hk⟩ (by cases v.ownBlock <;> simp)
theorem ownsSet {w : World} {base size n P j : Nat} {e : TypeId} {v x : Value} {xs : List Value} (h : w.ownsRow base e size v n xs) (hP : v.ownBlock ≠ some P) : (w.setCell ⟨P, j, none⟩ x).ownsRow base e size v n xs :=
 h.kept (row := some P) ⟨rfl, rfl, rfl, by simp [World.setCell], fun k _ hk => bH_ (fun e1 => hk (by simp [e1]))⟩ (.inr hP)
theorem s_ {w w' : World} {base size n : Nat} {e : TypeId} {v : Value} {xs : List Value} (h : w.ownsRow base e size v n xs) (k : ∀ b, v.ownBlock = some b → w'.heap[b]? = w.heap[b]?) : w'.ownsRow base e size v n xs := by
 refine ⟨h.1, ?_⟩
 rcases h.2 with hn | ⟨g, cap, cur, e1, hb, hg, rest⟩
 · exact .inl hn
 · exact .inr ⟨g, cap, cur, e1, hb, (k g (by rw [e1]; rfl)).trans hg, rest⟩
theorem cb_ {w : World} {base base' size n : Nat} {e : TypeId} {v : Value} {xs : List Value} (h : w.ownsRow base e size v n xs) (hb : base' ≤ base) : w.ownsRow base' e size v n xs :=
 ⟨h.1, h.2.imp id fun ⟨g, cap, cur, e1, hg, rest⟩ => ⟨g, cap, cur, e1, Nat.le_trans hb hg, rest⟩⟩
structure NodeOwned (w : World) (b0 b1 b2 : Nat) (n : NodeV) : Prop where
 mrow : w.ownsRow b0 53 2 (.slice n.mA n.M.length n.mc) n.M.length (n.M.flatMap markCells)
 mlt : ∀ y, (Value.slice n.mA n.M.length n.mc).ownBlock = some y → y < b1
 srow : w.ownsRow b1 60 10 (.slice n.sA n.S.length n.sc) n.S.length (n.S.flatMap SideV.cells)
 slt : ∀ y, (Value.slice n.sA n.S.length n.sc).ownBlock = some y → y < b2
 side : ∀ x ∈ n.S, x.InS (fun b => (b1 ≤ b ∧ b < b2) ∧ (Value.slice n.sA n.S.length n.sc).ownBlock ≠ some b) w
 urow : w.ownsRow b2 30 1 (.slice n.uA n.U.length n.uc) n.U.length (n.U.map OpV.val)
 undo : ∀ o ∈ n.U, OpIn (fun b => (b2 ≤ b ∧ b < w.heap.size) ∧ (Value.slice n.uA n.U.length n.uc).ownBlock ≠ some b) w o.A o.ps
 le0 : b0 ≤ b1
 le1 : b1 ≤ b2
 le2 : b2 ≤ w.heap.size
def RetNodeS (w : World) (d : NodeD) (e : Ending) (w' : World) : Prop :=
 ∃ (n : NodeV) (b1 b2 : Nat), e = .returned n.val ∧ n.d = d ∧ NodeOwned w' w.heap.size b1 b2 n ∧ Below w.heap.size w w'
theorem wh_ (w : World) (n : NodeV) (hi : n.In w) (hm : n.Small) : Calls Tryz.prog 44 #[n.val] w (RetNodeS w n.d) := by
 obtain ⟨i0, hi0, hz0, hz1, hz2⟩ := info_parts infoSide
 obtain ⟨me, ep, up, rd, t, sA, sc, S, uA, uc, U, mA, mc, M⟩ := n
 have hSL : S.length ≤ 1048576 := hm.sl
 have HM := h_ hm
 have HI := h_ hi
 have HCM := h_ (fun W hs => or_ W mA mc M hs hm.ml)
 have HCU := h_ (fun W hs => nn_ W uA uc U hs hm.ul (fun o ho => (hm.undo o ho).len))
 clear hi hm
 have HA := h_ (OwnAt.new w #[.int .i64 me, .int .i64 ep, .int .i64 up, .bool rd, .string t, .slice sA S.length sc, .slice uA U.length uc, .slice mA M.length mc] #[.int .i64 me, .int .i64 ep, .int .i64 up, .bool rd, .string t, .slice sA S.length sc, .slice uA U.length uc, .slice mA M.length mc])
 obtain ⟨WA, hWA⟩ : ∃ WA, WA = ((w.alloc (.cells #[.int .i64 me, .int .i64 ep, .int .i64 up, .bool rd, .string t, .slice sA S.length sc, .slice uA U.length uc, .slice mA M.length mc] 28)).alloc (.cells #[.int .i64 0, .int .i64 0, .int .i64 0, .bool false, .string ⟨#[]⟩, .slice none 0 0, .slice none 0 0, .slice none 0 0] 28)).alloc (.cells #[.int .i64 me, .int .i64 ep, .int .i64 up, .bool rd, .string t, .slice sA S.length sc, .slice uA U.length uc, .slice mA M.length mc] 28) := ⟨_, rfl⟩
 rw [← hWA] at HA
 have HW := h_ hWA.symm
 obtain ⟨R, hR⟩ : ∃ R, R = w.heap.size + 1 := ⟨_, rfl⟩
 obtain ⟨X, hX⟩ : ∃ X, X = w.heap.size + 2 := ⟨_, rfl⟩
 rw [← hR, ← hX] at HA
 have HRE := h_ (show w.heap.size + 1 = R from hR.symm)
 have HXE := h_ (show w.heap.size + 1 + 1 = X by omega)
 clear hWA hR hX
 go_enter Tryz.func44, Tryz.ntmps44
 go_wp2_with fail
 all_goals (
  rw [HW.out, HXE.out, HRE.out]
  refine (HCM.out WA (Sl.later HI.out.marks HA.out.b)).mono ?_
  rintro e w1 ⟨A7, c7, rfl, ho7, hb1⟩
  have H1 := h_ (HA.out.later hb1)
  obtain ⟨n0, n1, n2, n3, n4, n5, n6, n7, nz⟩ := l_ H1.out.nd
  obtain ⟨x0, x1, x2, x3, x4, x5, x6, x7, xz⟩ := l_ H1.out.x
  obtain ⟨y0, y1, y2, y3, y4, y5, y6, y7⟩ := gh_ H1.out.x
  have hwX : w.heap.size < X := by have := H1.out.wr; have := H1.out.rx; omega
  have hneX : ¬ w.heap.size = X := by omega
  have HO7 := h_ ho7
  have HB1 := h_ hb1
  clear ho7 hb1
  go_wp2_with fail
  have H2 := h_ (((H1.out.set 5 (.slice none 0 0)).set 6 (.slice none 0 0)).set 7 (.slice A7 M.length c7))
  obtain ⟨WB, hWB⟩ : ∃ WB, WB = ((w1.setCell ⟨X, 5, none⟩ (.slice none 0 0)).setCell ⟨X, 6, none⟩ (.slice none 0 0)).setCell ⟨X, 7, none⟩ (.slice A7 M.length c7) := ⟨_, rfl⟩
  rw [← hWB] at H2
  have HM7o := h_ (show WB.ownsRow WA.heap.size 53 2 (.slice A7 M.length c7) M.length (M.flatMap markCells) from s_ (cb_ HO7.out (Nat.le_refl _)) fun b hb => by
   have h1 := HA.out.xz
   have h3 := HO7.out.lt b hb
   have h2 : WB.heap.size = w1.heap.size := by rw [hWB]; simp [World.setCell]
   have hne : b ≠ X := by omega
   rw [hWB]; exact (Below.heap_setCell _ ⟨X, 7, none⟩ _ b hne).trans ((Below.heap_setCell _ ⟨X, 6, none⟩ _ b hne).trans (Below.heap_setCell _ ⟨X, 5, none⟩ _ b hne)))
  have HM7 := h_ (show Sl (fun b => X < b ∧ b < WB.heap.size) WB 2 A7 M.length (M.flatMap markCells) from (Sl.of_own _ HO7.out).moved fun b hb => by
   have h1 := HA.out.xz
   have h2 : WB.heap.size = w1.heap.size := by rw [hWB]; simp [World.setCell]
   have hne : b ≠ X := by omega
   exact ⟨⟨by omega, by omega⟩, by rw [hWB]; exact (Below.heap_setCell _ ⟨X, 7, none⟩ _ b hne).trans ((Below.heap_setCell _ ⟨X, 6, none⟩ _ b hne).trans (Below.heap_setCell _ ⟨X, 5, none⟩ _ b hne))⟩)
  have HWB := h_ hWB.symm
  have H2 := h_ (show OwnAt w R X #[.int .i64 me, .int .i64 ep, .int .i64 up, .bool rd, .string t, .slice sA S.length sc, .slice uA U.length uc, .slice mA M.length mc] #[.int .i64 me, .int .i64 ep, .int .i64 up, .bool rd, .string t, .slice none 0 0, .slice none 0 0, .slice A7 M.length c7] WB from H2.out)
  rw [HWB.out]
  clear n0 n1 n2 n3 n4 n5 n6 n7 nz x0 x1 x2 x3 x4 x5 x6 x7 xz y0 y1 y2 y3 y4 y5 y6 y7 hWB
  obtain ⟨B0, hB0⟩ : ∃ B0, B0 = WB.heap.size := ⟨_, rfl⟩
  rw [← hB0] at HM7
  have hXB : X < B0 := by have := H2.out.xz; omega
  have HB0 := h_ hB0
  clear hB0
  go_loopw [16] (fun i wr => ∃ (k : Nat) (L' : List SideV) (Ao : Option Addr) (co : Nat), k ≤ S.length ∧ i = .int .i64 k ∧ Hid (L'.length = k) ∧ Hid (L'.map SideV.d = (S.take k).map SideV.d) ∧ Hid (OwnAt w R X #[.int .i64 me, .int .i64 ep, .int .i64 up, .bool rd, .string t, .slice sA S.length sc, .slice uA U.length uc, .slice mA M.length mc] #[.int .i64 me, .int .i64 ep, .int .i64 up, .bool rd, .string t, .slice Ao L'.length co, .slice none 0 0, .slice A7 M.length c7] wr) ∧ Hid (SidesOwn wr B0 Ao co L') ∧ Hid (B0 ≤ wr.heap.size) ∧ Hid (∀ b, X < b → b < B0 → wr.heap[b]? = WB.heap[b]?)) (fun i _ => S.length - (intOf i).toNat)
  case atStart => exact ⟨0, [], none, 0, Nat.zero_le _, rfl, rfl, rfl, H2, SidesOwn.nil _ _, h_ (by rw [HB0.out]; exact Nat.le_refl _), fun _ _ _ => rfl⟩
  case round =>
   obtain ⟨k, L', Ao, co, hk, rfl, hL', hps, HX, HS, hbz, hold⟩ := hrel
   obtain ⟨n0, n1, n2, n3, n4, n5, n6, n7, nz⟩ := l_ HX.out.nd
   have hxz := HX.out.xz
   by_cases hlt : k < S.length
   · obtain ⟨b, o, rfl, hbs, hc⟩ := x_ SideV.cells 10 SideV.cells_len (Sl.later HI.out.sides.row HX.out.b) hlt
     have ce0 : wr.cell? ⟨b, o + k * 10, none⟩ = some (.int .i64 S[k].p) := hc 0 _ rfl
     have ce1 : wr.cell? ⟨b, o + k * 10 + 1, none⟩ = some (.bool S[k].j) := hc 1 _ rfl
     have ce2 : wr.cell? ⟨b, o + k * 10 + 2, none⟩ = some (.int .i64 S[k].s) := hc 2 _ rfl
     have ce3 : wr.cell? ⟨b, o + k * 10 + 3, none⟩ = some (.int .i64 S[k].h) := hc 3 _ rfl
     have ce4 : wr.cell? ⟨b, o + k * 10 + 4, none⟩ = some (.slice S[k].A S[k].L.length S[k].c) := hc 4 _ rfl
     have ce5 : wr.cell? ⟨b, o + k * 10 + 5, none⟩ = some (.int .i64 S[k].k.e) := hc 5 _ rfl
     have ce6 : wr.cell? ⟨b, o + k * 10 + 6, none⟩ = some (.int .i64 S[k].k.n) := hc 6 _ rfl
     have ce7 : wr.cell? ⟨b, o + k * 10 + 7, none⟩ = some (.slice S[k].k.sA S[k].k.s.length S[k].k.sc) := hc 7 _ rfl
     have ce8 : wr.cell? ⟨b, o + k * 10 + 8, none⟩ = some (.slice S[k].k.qA S[k].k.q.length S[k].k.qc) := hc 8 _ rfl
     have ce9 : wr.cell? ⟨b, o + k * 10 + 9, none⟩ = some (.int .i64 S[k].k.h) := hc 9 _ rfl
     have hki : (k : Int) < (S.length : Int) := by omega
     have HXI := h_ ((HI.out.sides.each _ (List.getElem_mem hlt)).later HX.out.b)
     have HSM := h_ (HM.out.sides _ (List.getElem_mem hlt))
     have HTK := h_ (show (S.take (k + 1)).map SideV.d = (S.take k).map SideV.d ++ [S[k].d] by rw [List.take_succ_eq_append_getElem hlt, List.map_append]; rfl)
     clear hc
     generalize S[k] = x at *
     obtain ⟨p, j, s, h, A, c, L, ⟨ke, kn, sA2, sc2, ks, qA2, qc2, kq, kh⟩⟩ := x
     dsimp only at ce0 ce1 ce2 ce3 ce4 ce5 ce6 ce7 ce8 ce9
     have HCO := h_ (fun W hs => nn_ W A c L hs HSM.out.len (fun o ho => (HSM.out.ops o ho).len))
     have HC1 := h_ (fun W hs => hx_ W sA2 sc2 ks hs HSM.out.link.sl (fun f hf => (HSM.out.link.s f hf).op.len))
     have HC2 := h_ (fun W hs => hx_ W qA2 qc2 kq hs HSM.out.link.ql (fun f hf => (HSM.out.link.q f hf).op.len))
     obtain ⟨WX, hWX⟩ : ∃ WX, WX = wr.alloc (.cells #[.int .i64 p, .bool j, .int .i64 s, .int .i64 h, .slice A L.length c, .int .i64 ke, .int .i64 kn, .slice sA2 ks.length sc2, .slice qA2 kq.length qc2, .int .i64 kh] 60) := ⟨_, rfl⟩
     have HF0 := h_ (show WX.heap[wr.heap.size]? = some (.cells #[.int .i64 p, .bool j, .int .i64 s, .int .i64 h, .slice A L.length c, .int .i64 ke, .int .i64 kn, .slice sA2 ks.length sc2, .slice qA2 kq.length qc2, .int .i64 kh] 60 (0, 0)) by rw [hWX]; exact World.alloc_heap_new _ _)
     have HBX := h_ (show Below wr.heap.size wr WX by rw [hWX]; exact bA_)
     have hzX : WX.heap.size = wr.heap.size + 1 := by rw [hWX]; simp
     have HWX := h_ hWX.symm
     clear hWX
     go_wp2_with fail
     rw [HWX.out]
     refine (HCO.out WX (HXI.out.ops.later HBX.out)).mono ?_
     rintro e w2 ⟨A1, c1', L1, rfl, hd1, ho1, hb2⟩
     have hzw2 := hb2.size
     have hF2w := (hb2.block wr.heap.size (by omega)).trans HF0.out
     obtain ⟨F, hF⟩ : ∃ F, F = wr.heap.size := ⟨_, rfl⟩
     rw [← hF] at hF2w
     obtain ⟨y0, y1, y2, y3, y4, y5, y6, y7, y8, y9, yz⟩ := f_ hF2w
     have q4 := tenF hF2w 4
     obtain ⟨W3, hW3⟩ : ∃ W3, W3 = w2.setCell ⟨F, 4, none⟩ (.slice A1 L1.length c1') := ⟨_, rfl⟩
     have HF3 := h_ (show W3.heap[F]? = some (.cells #[.int .i64 p, .bool j, .int .i64 s, .int .i64 h, .slice A1 L1.length c1', .int .i64 ke, .int .i64 kn, .slice sA2 ks.length sc2, .slice qA2 kq.length qc2, .int .i64 kh] 60 (0, 0)) by rw [hW3]; exact e_ 4 _ hF2w)
     have HB3 := h_ (show Below wr.heap.size wr W3 by rw [hW3]; exact bSet (bThen HBX.out hb2) (p := ⟨F, 4, none⟩) (by show wr.heap.size ≤ F; omega) _)
     have HO3 := h_ (show OpsOwn W3 WX.heap.size A1 c1' L1 by rw [hW3]; exact ho1.kept (by simp [World.setCell]) (fun b hb hl => bH_ (by show b ≠ F; omega)))
     have HD1 := h_ hd1
     have hz3 : W3.heap.size = w2.heap.size := by rw [hW3]; simp [World.setCell]
     have HW3 := h_ hW3.symm
     rw [← hF]
     have HFE := h_ hF
     clear hd1 ho1 hb2 hF2w hW3 hF
     go_wp2_with fail
     clear y0 y1 y2 y3 y4 y5 y6 y7 y8 y9 yz q4
     rw [HW3.out]
     obtain ⟨y0, y1, y2, y3, y4, y5, y6, y7, y8, y9, yz⟩ := f_ HF3.out
     have q7 := tenF HF3.out 7
     have q8 := tenF HF3.out 8
     have HS3 := h_ (HXI.out.link.s.later HB3.out)
     have HQ3 := h_ (HXI.out.link.q.later HB3.out)
     go_region_law (first
      | (go_simp; go_at_call 91; (with_reducible refine (HC1.out _ ?_).mono ?_); exact HS3.out.later bz_; rintro e w4 ⟨A2, c2, L2, rfl, hd2, ho2, hb2⟩; have HB4 : Below W3.heap.size W3 w4 := bThen bz_ hb2
         have HF4 := (HB4.block _ yz).trans HF3.out; obtain ⟨z0, z1, z2, z3, z4, z5, z6, z7, z8, z9, zz⟩ := f_ HF4; have v7 := tenF HF4 7; have v8 := tenF HF4 8)
      | (go_simp; go_at_call 91; (with_reducible refine (HC2.out _ ?_).mono ?_); exact HQ3.out.later (bThen HB4 bz_); rintro e w5 ⟨A3, c3, L3, rfl, hd3, ho3, hb3⟩; have HB5 : Below w4.heap.size w4 w5 := bThen bz_ hb3
         have HF5 := (HB5.block _ zz).trans HF4; obtain ⟨p0, p1, p2, p3, p4, p5, p6, p7, p8, p9, pz⟩ := f_ HF5; have t7 := tenF HF5 7; have t8 := tenF HF5 8))
     all_goals (
      refine n_ (fun G => G.heap[F]? = some (.cells #[.int .i64 p, .bool j, .int .i64 s, .int .i64 h, .slice A1 L1.length c1', .int .i64 ke, .int .i64 kn, .slice A2 L2.length c2, .slice A3 L3.length c3, .int .i64 kh] 60 (0, 0)) ∧ Below wr.heap.size wr G ∧ (⟨p, j, s, h, A1, c1', L1, ⟨ke, kn, A2, c2, L2, A3, c3, L3, kh⟩⟩ : SideV).InS (fun b => wr.heap.size ≤ b ∧ b < G.heap.size) G) ⟨e_ 8 _ (e_ 7 _ HF5), ?_, ?_⟩ ?_
      · have := HFE.out
        exact bSet (bSet (bThen HB3.out (bThen HB4 HB5)) (p := ⟨F, 7, none⟩) (by show wr.heap.size ≤ F; omega) _) (p := ⟨F, 8, none⟩) (by show wr.heap.size ≤ F; omega) _
      · have hfe := HFE.out
        have hG : ∀ b, b ≠ F → ((w5.setCell ⟨F, 7, none⟩ (.slice A2 L2.length c2)).setCell ⟨F, 8, none⟩ (.slice A3 L3.length c3)).heap[b]? = w5.heap[b]? := fun b hb => (Below.heap_setCell _ ⟨F, 8, none⟩ _ b hb).trans (Below.heap_setCell _ ⟨F, 7, none⟩ _ b hb)
        have e1 := HB4.size
        have e2 := HB5.size
        have k1 := OpsOwn.kept HO3.out (w' := (w5.setCell ⟨F, 7, none⟩ (.slice A2 L2.length c2)).setCell ⟨F, 8, none⟩ (.slice A3 L3.length c3)) (by simp [World.setCell]; omega) (fun b hb hl => (hG b (by omega)).trans ((HB5.block b (by omega)).trans (HB4.block b hl)))
        have k2 := RowOwn.kept ho2 (w' := (w5.setCell ⟨F, 7, none⟩ (.slice A2 L2.length c2)).setCell ⟨F, 8, none⟩ (.slice A3 L3.length c3)) (by simp [World.setCell]; omega) (fun b hb hl => (hG b (by (try simp at hb); omega)).trans (HB5.block b hl))
        have k3 := RowOwn.kept ho3 (w' := (w5.setCell ⟨F, 7, none⟩ (.slice A2 L2.length c2)).setCell ⟨F, 8, none⟩ (.slice A3 L3.length c3)) (by simp [World.setCell]) (fun b hb hl => hG b (by (try simp at hb); omega))
        exact SideV.InS.of k1 (by omega) k2 (by (try simp); omega) k3 (by (try simp); omega)
      rintro G ⟨hG1, hG2, hG3⟩
      have HD2 := h_ hd2
      have HD3 := h_ hd3
      clear hd2 ho2 hb2 HB4 HF4 z0 z1 z2 z3 z4 z5 z6 z7 z8 z9 zz v7 v8 hd3 ho3 hb3 HB5 HF5 p0 p1 p2 p3 p4 p5 p6 p7 p8 p9 pz t7 t8 y0 y1 y2 y3 y4 y5 y6 y7 y8 y9 yz q7 q8 n0 n1 n2 n3 n4 n5 n6 n7 nz ce0 ce1 ce2 ce3 ce4 ce5 ce6 ce7 ce8 ce9
      have HG1 := h_ hG1
      have HG2 := h_ hG2
      have HG3 := h_ hG3
      have HXG := h_ (HX.out.later hG2)
      obtain ⟨y0, y1, y2, y3, y4, y5, y6, y7, y8, y9, yz⟩ := f_ hG1
      obtain ⟨x0, x1, x2, x3, x4, x5, x6, x7, xz⟩ := l_ HXG.out.x
      have hzG := hG2.size
      clear hG1 hG2 hG3
      go_wp2_with (refine bg_ rfl ?_)
      refine ⟨?_⟩
      have HRX := h_ ((SidesOwn.kept HS.out HG2.out.size (fun b _ hl => HG2.out.block b hl)).row.alloc (.cells #[.int .i64 p, .bool j, .int .i64 s, .int .i64 h, .slice A1 L1.length c1', .int .i64 ke, .int .i64 kn, .slice A2 L2.length c2, .slice A3 L3.length c3, .int .i64 kh] 60))
      refine j_ _ rfl _ _ 24 rfl B0 60 i0 (.agg #[.int .i64 0, .bool false, .int .i64 0, .int .i64 0, .slice none 0 0, .int .i64 0, .int .i64 0, .slice none 0 0, .slice none 0 0, .int .i64 0]) 10 128 Tryz.underlying24 hi0 hz0 hz1 hz2 rfl (by decide) _ _ _ rfl HRX.out (fun _ => True) _ _ _ _ rfl (bl_ (by rfl) (by simp)) ?c1 ?c2 ?c3 ?c4 ?_
      case c1 => intro u hu; simp at hu; rcases hu with rfl | rfl | rfl | rfl | rfl | rfl | rfl | rfl | rfl | rfl <;> rfl
      case c2 => have := hL'.out; unfold maxLen; omega
      case c3 => have := hL'.out; omega
      case c4 => have := hbz.out; simp; omega
      intro A' c' w3 hown' hgrow hat
      have HLN := h_ (show (L' ++ [(⟨p, j, s, h, A1, c1', L1, ⟨ke, kn, A2, c2, L2, A3, c3, L3, kh⟩⟩ : SideV)]).length = L'.length + 1 by simp)
      have hP := SidesOwn.push (x := (⟨p, j, s, h, A1, c1', L1, ⟨ke, kn, A2, c2, L2, A3, c3, L3, kh⟩⟩ : SideV)) HS.out hbz.out (fun b _ hl => HG2.out.block b hl) HG2.out.size HG3.out hgrow hown' hat
      have hlow : ∀ g, (Value.slice Ao L'.length co).ownBlock = some g → B0 ≤ g := fun g hg => (HS.out.row.lt g hg).1
      have hsz3 := hgrow.size
      have hkp : ∀ b, b < wr.heap.size → b < B0 → w3.heap[b]? = wr.heap[b]? := fun b hl hb => (hgrow.block b (by simp; omega) (fun e => by have := hlow b e.symm; omega)).trans ((q_ _ _ b (by omega)).trans (HG2.out.block b hl))
      have HX3 := h_ (show OwnAt w R X #[.int .i64 me, .int .i64 ep, .int .i64 up, .bool rd, .string t, .slice (some ⟨b, o, none⟩) S.length sc, .slice uA U.length uc, .slice mA M.length mc] #[.int .i64 me, .int .i64 ep, .int .i64 up, .bool rd, .string t, .slice Ao L'.length co, .slice none 0 0, .slice A7 M.length c7] w3 from by
       have h1 := HX.out.wr
       have h2 := HX.out.rx
       have h3 := HX.out.xz
       refine ⟨(hkp _ (by omega) (by omega)).trans HX.out.nd, (hkp _ (by omega) (by omega)).trans HX.out.r, (hkp _ (by omega) (by omega)).trans HX.out.x, bs_ HX.out.b HG2.out hgrow (fun g hg => by have := hlow g hg; omega), h1, h2, by simp at hsz3; omega⟩)
      have HOL3 := h_ (show ∀ b, X < b → b < B0 → w3.heap[b]? = WB.heap[b]? from fun b h1 h2 => (hkp b (by have := hbz.out; omega) h2).trans (hold.out b h1 h2))
      have HZ3 := h_ (show B0 ≤ w3.heap.size by have := hbz.out; simp at hsz3; omega)
      have HP := h_ hP
      clear hown' hgrow hat hP hlow hsz3 hkp y0 y1 y2 y3 y4 y5 y6 y7 y8 y9 yz x0 x1 x2 x3 x4 x5 x6 x7 xz
      obtain ⟨x0, x1, x2, x3, x4, x5, x6, x7, xz⟩ := l_ HX3.out.x
      have r5 := tenF HX3.out.x 5
      go_wp2_with fail
      have HG4 := h_ (HX3.out.set 5 (.slice A' (L'.length + 1) c'))
      have HG5 := h_ (HP.out.kept (w' := w3.setCell ⟨X, 5, none⟩ (.slice A' (L'.length + 1) c')) (by simp [World.setCell]) (fun b hb hl => bH_ (by show b ≠ X; omega)))
      have HG6 := h_ (show B0 ≤ (w3.setCell ⟨X, 5, none⟩ (.slice A' (L'.length + 1) c')).heap.size by simpa [World.setCell] using HZ3.out)
      have HG7 := h_ (show ∀ b, X < b → b < B0 → (w3.setCell ⟨X, 5, none⟩ (.slice A' (L'.length + 1) c')).heap[b]? = WB.heap[b]? from fun b h1 h2 => (bH_ (by show b ≠ X; omega)).trans (HOL3.out b h1 h2))
      clear x0 x1 x2 x3 x4 x5 x6 x7 xz r5
      go_roundw
      case rel => exact ⟨k + 1, L' ++ [(⟨p, j, s, h, A1, c1', L1, ⟨ke, kn, A2, c2, L2, A3, c3, L3, kh⟩⟩ : SideV)], A', c', by omega, by go_num, h_ (by rw [HLN.out, hL'.out]), h_ (by rw [List.map_append, hps.out, HTK.out]; show _ ++ [(⟨p, j, s, h, L1.map OpV.ps, ⟨ke, kn, L2.map FrameV.d, L3.map FrameV.d, kh⟩⟩ : SideD)] = _; rw [HD1.out, HD2.out, HD3.out]), h_ (by rw [HLN.out]; exact HG4.out), HG5, HG6, HG7⟩
      case measure => simp [intOf]; omega)
   · obtain rfl : k = S.length := by omega
     have HPP := h_ (show L'.map SideV.d = S.map SideV.d by rw [hps.out, List.take_length])
     go_wp2_with fail
     refine (HCU.out _ (OpsIn.later HI.out.undo HX.out.b)).mono ?_
     rintro e w5 ⟨A8, c8, L8, rfl, hd8, ho8, hb8⟩
     have H8 := h_ (HX.out.later hb8)
     clear n0 n1 n2 n3 n4 n5 n6 n7 nz
     obtain ⟨x0, x1, x2, x3, x4, x5, x6, x7, xz⟩ := l_ H8.out.x
     have r6 := tenF H8.out.x 6
     have HD8 := h_ hd8
     have HO8 := h_ ho8
     have HB8 := h_ hb8
     clear hd8 ho8 hb8
     obtain ⟨r0, r1, r2, r3, r4, r5, r6', r7, rz⟩ := l_ H8.out.r
     obtain ⟨s0, s1, s2, s3, s4, s5, s6, s7⟩ := gh_ H8.out.r
     have hwR : w.heap.size < R := H8.out.wr
     have hRX : R < X := H8.out.rx
     have hn1 : ¬ R = X := by omega
     have hn2 : ¬ X = R := by omega
     go_wp2_with fail
     obtain ⟨W8, hW8⟩ : ∃ W8, W8 = w5.setCell ⟨X, 6, none⟩ (.slice A8 L8.length c8) := ⟨_, rfl⟩
     rw [← hW8]
     have hO1 : Only X w5 W8 := by rw [hW8]; exact Only.set _ _ _
     have hR8 : W8.heap[R]? = some (.cells #[.int .i64 0, .int .i64 0, .int .i64 0, .bool false, .string ⟨#[]⟩, .slice none 0 0, .slice none 0 0, .slice none 0 0] 28 (0, 0)) := (hO1.block R (by omega) (by omega)).trans H8.out.r
     obtain ⟨W9, hW9⟩ : ∃ W9, W9 = (((((((W8.setCell ⟨R, 0, none⟩ (.int .i64 me)).setCell ⟨R, 1, none⟩ (.int .i64 ep)).setCell ⟨R, 2, none⟩ (.int .i64 up)).setCell ⟨R, 3, none⟩ (.bool rd)).setCell ⟨R, 4, none⟩ (.string t)).setCell ⟨R, 5, none⟩ (.slice Ao L'.length co)).setCell ⟨R, 6, none⟩ (.slice A8 L8.length c8)).setCell ⟨R, 7, none⟩ (.slice A7 M.length c7) := ⟨_, rfl⟩
     rw [← hW9]
     have hO2 : Only R W8 W9 := by rw [hW9]; exact (((((((Only.set _ _ _).trans (Only.set _ _ _)).trans (Only.set _ _ _)).trans (Only.set _ _ _)).trans (Only.set _ _ _)).trans (Only.set _ _ _)).trans (Only.set _ _ _)).trans (Only.set _ _ _)
     have hR9 : W9.heap[R]? = some (.cells #[.int .i64 me, .int .i64 ep, .int .i64 up, .bool rd, .string t, .slice Ao L'.length co, .slice A8 L8.length c8, .slice A7 M.length c7] 28 (0, 0)) := by
      rw [hW9]
      exact e_ 7 _ (e_ 6 _ (e_ 5 _ (e_ 4 _ (e_ 3 _ (e_ 2 _ (e_ 1 _ (e_ 0 _ hR8)))))))
     clear hW8 hW9 hR8
     have z1 := hO1.size
     have z2 := hO2.size
     have z3 := HB8.out.size
     have z4 := hbz.out
     have hkp : ∀ b, X < b → b < w5.heap.size → W9.heap[b]? = w5.heap[b]? := fun b h1 h2 => (hO2.block b (by omega) (by omega)).trans (hO1.block b h2 (by omega))
     have hwa := HA.out.xz
     have hwb : w.heap.size ≤ WA.heap.size := HA.out.b.size
     have kb : ∀ b, X < b → b < wr.heap.size → W9.heap[b]? = wr.heap[b]? := fun b h1 h2 => (hkp b h1 (by omega)).trans (HB8.out.block b h2)
     have kS : NodeOwned W9 w.heap.size B0 wr.heap.size ⟨me, ep, up, rd, t, Ao, co, L', A8, c8, L8, A7, c7, M⟩ := by
      refine ⟨s_ (cb_ HM7o.out hwb) fun b hb => ?_, fun y hy => by have := HM7o.out.lt y hy; have := HB0.out; omega, s_ HS.out.row fun b hb => ?_, fun y hy => (HS.out.row.lt y hy).2, fun x hx => (HS.out.each x hx).moved fun b hb => ⟨hb, kb b (by have := hb.1.1; omega) hb.1.2⟩, s_ HO8.out.row fun b hb => ?_, fun o ho => (HO8.out.each o ho).moved fun b hb => ⟨⟨⟨hb.1.1, by have := hb.1.2; omega⟩, hb.2⟩, hkp b (by have := hb.1.1; omega) hb.1.2⟩, by have := HB0.out; have := HM7o.out; omega, by omega, by omega⟩
      · have h1 := HM7o.out.lt b hb
        have h2 := HB0.out
        exact (kb b (by omega) (by omega)).trans (hold.out b (by omega) (by omega))
      · have h1 := HS.out.row.lt b hb
        exact kb b (by omega) h1.2
      · have h1 := HO8.out.row.lt b hb
        exact hkp b (by omega) h1.2
     have k4 : Below w.heap.size w W9 := H8.out.b.trans ((hO1.below (by omega) (by omega)).trans (hO2.below (by omega) (by omega)))
     refine n_ (fun G => G.heap[R]? = some (.cells #[.int .i64 me, .int .i64 ep, .int .i64 up, .bool rd, .string t, .slice Ao L'.length co, .slice A8 L8.length c8, .slice A7 M.length c7] 28 (0, 0)) ∧ NodeOwned G w.heap.size B0 wr.heap.size ⟨me, ep, up, rd, t, Ao, co, L', A8, c8, L8, A7, c7, M⟩ ∧ Below w.heap.size w G) ⟨hR9, kS, k4⟩ ?_
     rintro G ⟨j1, j2, j5⟩
     clear r0 r1 r2 r3 r4 r5 r6' r7 rz s0 s1 s2 s3 s4 s5 s6 s7 x0 x1 x2 x3 x4 x5 x6 x7 xz
     obtain ⟨r0, r1, r2, r3, r4, r5, r6', r7, rz⟩ := l_ j1
     refine bodyPost_ret (v := (⟨me, ep, up, rd, t, Ao, co, L', A8, c8, L8, A7, c7, M⟩ : NodeV).val) (by simp [results, Tryz.results44, go_sem, r0, r1, r2, r3, r4, r5, r6', r7]) rfl ?_
     exact ⟨⟨me, ep, up, rd, t, Ao, co, L', A8, c8, L8, A7, c7, M⟩, B0, wr.heap.size, rfl, by simp only [NodeV.d, HPP.out, HD8.out], j2, j5⟩)
theorem nr_ {X Y : World} {d base : Nat} {os : Array Obj} {A : Option Addr} {c : Nat} {L : List OpV} (h : OpsOwn (Go.Sort.grow (redrawn X d) os) base A c L) (hz : X.heap.size = Y.heap.size) (hb : X.heap.size ≤ base) : OpsOwn (Go.Sort.grow (redrawn Y d) os) base A c L :=
 h.kept (by simp [Go.Sort.grow, redrawn]; omega) fun b hx _ => de_ X Y d os hz (by omega)
theorem Sl.both {S S' : Nat → Prop} {w : World} {size n : Nat} {A : Option Addr} {cs : List Value} (h : Sl S w size A n cs) (k : Sl S' w size A n cs) : Sl (fun b => S b ∧ S' b) w size A n cs := by
 refine ⟨h.1, fun hn => ?_⟩
 obtain ⟨b, o, e, hb, hc⟩ := h.2 hn
 obtain ⟨b', o', e', hb', _⟩ := k.2 hn
 rw [e] at e'
 injection e' with e'
 injection e' with e1 e2 e3
 subst e1
 exact ⟨b, o, e, ⟨hb, hb'⟩, hc⟩
structure NodeFree (w : World) (base : Nat) (n : NodeV) : Prop where
 mrow : w.ownsRow base 53 2 (.slice n.mA n.M.length n.mc) n.M.length (n.M.flatMap markCells)
 srow : w.ownsRow base 60 10 (.slice n.sA n.S.length n.sc) n.S.length (n.S.flatMap SideV.cells)
 urow : w.ownsRow base 30 1 (.slice n.uA n.U.length n.uc) n.U.length (n.U.map OpV.val)
 side : ∀ x ∈ n.S, x.InS (fun b => (base ≤ b ∧ b < w.heap.size) ∧ (Value.slice n.mA n.M.length n.mc).ownBlock ≠ some b ∧ (Value.slice n.sA n.S.length n.sc).ownBlock ≠ some b ∧ (Value.slice n.uA n.U.length n.uc).ownBlock ≠ some b) w
 undo : ∀ o ∈ n.U, OpIn (fun b => (base ≤ b ∧ b < w.heap.size) ∧ (Value.slice n.mA n.M.length n.mc).ownBlock ≠ some b ∧ (Value.slice n.sA n.S.length n.sc).ownBlock ≠ some b ∧ (Value.slice n.uA n.U.length n.uc).ownBlock ≠ some b) w o.A o.ps
theorem NodeOwned.free {w : World} {b0 b1 b2 : Nat} {n : NodeV} (h : NodeOwned w b0 b1 b2 n) : NodeFree w b0 n := by
 have h0 := h.le0
 have h1 := h.le1
 have h2 := h.le2
 refine ⟨h.mrow, cb_ h.srow h0, cb_ h.urow (by omega), fun x hx => (h.side x hx).moved fun b hb => ⟨⟨⟨by have := hb.1.1; omega, by have := hb.1.2; omega⟩, fun e => by have := h.mlt b e; have := hb.1.1; omega, hb.2, fun e => by have := (h.urow.lt b e).1; have := hb.1.2; omega⟩, rfl⟩,
  fun o ho => (h.undo o ho).moved fun b hb => ⟨⟨⟨by have := hb.1.1; omega, hb.1.2⟩, fun e => by have := h.mlt b e; have := hb.1.1; omega, fun e => by have := h.slt b e; have := hb.1.1; omega, hb.2⟩, rfl⟩⟩
def RetNodeE (w : World) (d : NodeD) (e : Ending) (w' : World) : Prop :=
 ∃ n : NodeV, e = .returned n.val ∧ n.d = d ∧ NodeFree w' w.heap.size n ∧ Below w.heap.size w w'
theorem gt_ (w : World) (n : NodeV) (hi : n.In w) (hm : n.Small) : Calls Tryz.prog 6 #[n.val] w (RetNodeE w n.d) := by
 obtain ⟨i0, hi0, hz0, hz1, hz2⟩ := info_parts infoSide
 obtain ⟨j0, hj0, hy0, hy1, hy2⟩ := info_parts infoMark
 obtain ⟨me, ep, up, rd, t, sA, sc, S, uA, uc, U, mA, mc, M⟩ := n
 have hSL : S.length ≤ 1048576 := hm.sl
 have hML : M.length ≤ 1048576 := hm.ml
 have HM := h_ hm
 have HI := h_ hi
 have HCU := h_ (fun W hs => ia_ W uA uc U hs hm.ul (fun o ho => (hm.undo o ho).len))
 clear hi hm
 have HA := h_ (ul_ w #[.int .i64 me, .int .i64 ep, .int .i64 up, .bool rd, .string t, .slice sA S.length sc, .slice uA U.length uc, .slice mA M.length mc])
 obtain ⟨WA, hWA⟩ : ∃ WA, WA = ((w.alloc (.cells #[.int .i64 me, .int .i64 ep, .int .i64 up, .bool rd, .string t, .slice sA S.length sc, .slice uA U.length uc, .slice mA M.length mc] 28)).alloc (.cells #[.int .i64 0, .int .i64 0, .int .i64 0, .bool false, .string ⟨#[]⟩, .slice none 0 0, .slice none 0 0, .slice none 0 0] 28)) := ⟨_, rfl⟩
 rw [← hWA] at HA
 have HBA := h_ (show Below w.heap.size w WA by rw [hWA]; exact bAlloc bA_ _)
 have hzA : WA.heap.size = w.heap.size + 1 + 1 := by rw [hWA]; simp
 have HW := h_ hWA.symm
 clear hWA
 obtain ⟨R, hR⟩ : ∃ R, R = w.heap.size + 1 := ⟨_, rfl⟩
 rw [← hR] at HA
 have hwR : w.heap.size < R := by omega
 have hRz : R < WA.heap.size := by omega
 have HRE := h_ hR.symm
 clear hR hzA
 obtain ⟨n0, n1, n2, n3, n4, n5, n6, n7, nz⟩ := l_ HA.out.1
 go_enter Tryz.func6, Tryz.ntmps6
 go_wp2_with fail
 rw [HW.out, HRE.out]
 apply cutH
 · intro hΦ
   go_region_held3 (fun w' => w'.cell? ⟨w.heap.size, 0, none⟩ = some (.int .i64 me) ∧ w'.cell? ⟨w.heap.size, 1, none⟩ = some (.int .i64 ep) ∧ w'.cell? ⟨w.heap.size, 2, none⟩ = some (.int .i64 up) ∧ w'.cell? ⟨w.heap.size, 3, none⟩ = some (.bool rd) ∧ w'.cell? ⟨w.heap.size, 4, none⟩ = some (.string t) ∧ w'.cell? ⟨w.heap.size, 6, none⟩ = some (.slice uA U.length uc))
    (go_keep)
    ((go_at_call 16; (with_reducible refine (HCU.out _ ?_).mono ?_); exact (OpsIn.later HI.out.undo HBA.out).later bz_; rintro r w2 ⟨A8, c8, L8, rfl, hd2, ho2, hb2⟩; obtain ⟨⟨d2, os2⟩, rfl⟩ := a_ hb2))
   all_goals (
    first
     | (refine n_ (fun G => OwnAt w R WA.heap.size #[.int .i64 me, .int .i64 ep, .int .i64 up, .bool rd, .string t, .slice sA S.length sc, .slice uA U.length uc, .slice mA M.length mc] #[.int .i64 me, .int .i64 ep, .int .i64 up, .bool rd, .string t, .slice none 0 0, .slice A8 L8.length c8, .slice none 0 0] G ∧ OpsS (fun b => (R < b ∧ b < G.heap.size) ∧ b ≠ WA.heap.size) G A8 L8 ∧ OpsOwn G (R + 1) A8 c8 L8)
         ⟨OwnAt.out HA.out HBA.out hwR hRz (bThen bA_ (below_regrown _ _ _)) (Nat.le_refl _) (((below_regrown _ _ _).block _ (by simp)).trans (World.alloc_heap_new _ _)), ?_, ?_⟩ ?_
        · exact (ns_ ho2 (by simp) (by simp)).moved fun b hb => ⟨⟨⟨by have := hb.1; simp at this; omega, hb.2⟩, by have := hb.1; simp at this; omega⟩, rfl⟩
        · exact (nr_ ho2 (by simp) (by simp)).mono (by simp; omega)
        generalize WA.heap.size = X)
     | (refine n_ (fun G => OwnAt w R (WA.heap.size + os2.size) #[.int .i64 me, .int .i64 ep, .int .i64 up, .bool rd, .string t, .slice sA S.length sc, .slice uA U.length uc, .slice mA M.length mc] #[.int .i64 me, .int .i64 ep, .int .i64 up, .bool rd, .string t, .slice none 0 0, .slice A8 L8.length c8, .slice none 0 0] G ∧ OpsS (fun b => (R < b ∧ b < G.heap.size) ∧ b ≠ WA.heap.size + os2.size) G A8 L8 ∧ OpsOwn G (R + 1) A8 c8 L8)
         ⟨OwnAt.out HA.out HBA.out hwR hRz (bThen (below_regrown WA d2 os2) bA_) (by omega) (by
          have h1 := World.alloc_heap_new (Go.Sort.grow (redrawn WA d2) os2) (.cells #[.int .i64 me, .int .i64 ep, .int .i64 up, .bool rd, .string t, .slice none 0 0, .slice A8 L8.length c8, .slice none 0 0] 28)
          have h2 : (Go.Sort.grow (redrawn WA d2) os2).heap.size = WA.heap.size + os2.size := by simp [Go.Sort.grow, redrawn]
          rw [h2] at h1
          exact h1), ?_, ?_⟩ ?_
        · have h2 : (Go.Sort.grow (redrawn WA d2) os2).heap.size = WA.heap.size + os2.size := by simp [Go.Sort.grow, redrawn]
          exact (ns_ (Y := WA) ho2 (by simp) (by simp)).moved fun b hb => ⟨⟨⟨by have := hb.1; simp at this; omega, by have := hb.2; simp at this ⊢; omega⟩, by have := hb.2; omega⟩, q_ _ _ b hb.2⟩
        · exact ((nr_ (Y := WA) ho2 (by simp) (by simp)).kept (by simp) (fun b _ hl => q_ _ _ b hl)).mono (by simp; omega)
        generalize WA.heap.size + os2.size = X)
    clear ho2 hb2
    repeat (rename_i hq; clear hq)
    revert A8 c8 L8 hd2 X
    exact Hid.out hΦ)
 · rintro A8 c8 L8 hd8 X G ⟨hA, hO, hOO⟩
   have HO8o := h_ hOO
   have HUX := h_ (m_ hOO.row hA.x (by decide))
   clear hOO
   have HA := h_ hA
   have HO8 := h_ hO
   have HD8 := h_ hd8
   clear hA hO hd8
   clear n0 n1 n2 n3 n4 n5 n6 n7 nz
   obtain ⟨B1, hB1⟩ : ∃ B1, B1 = G.heap.size := ⟨_, rfl⟩
   have hwX : w.heap.size < X := by have := HA.out.wr; have := HA.out.rx; omega
   have hneX : ¬ w.heap.size = X := by omega
   have hXB : X < B1 := by have := HA.out.xz; omega
   have HB1 := h_ hB1
   clear hB1
   go_wp2_with fail
   go_loopw [4] (fun i wr => ∃ (k : Nat) (A7 : Option Addr) (c7 : Nat), k ≤ M.length ∧ i = .int .i64 k ∧ Hid (OwnAt w R X #[.int .i64 me, .int .i64 ep, .int .i64 up, .bool rd, .string t, .slice sA S.length sc, .slice uA U.length uc, .slice mA M.length mc] #[.int .i64 me, .int .i64 ep, .int .i64 up, .bool rd, .string t, .slice none 0 0, .slice A8 L8.length c8, .slice A7 k c7] wr) ∧ Hid (wr.ownsRow B1 53 2 (.slice A7 k c7) k ((M.take k).flatMap markCells)) ∧ Hid (B1 ≤ wr.heap.size) ∧ Hid (∀ b, b < B1 → b ≠ X → wr.heap[b]? = G.heap[b]?)) (fun i _ => M.length - (intOf i).toNat)
   case atStart => exact ⟨0, none, 0, Nat.zero_le _, rfl, HA, h_ (World.ownsRow_nil _ _ _ _), h_ (by rw [HB1.out]; exact Nat.le_refl _), fun _ _ _ => rfl⟩
   case round =>
    obtain ⟨k, A7, c7, hk, rfl, HX, HS, hbz, hold⟩ := hrel
    obtain ⟨n0, n1, n2, n3, n4, n5, n6, n7, nz⟩ := l_ HX.out.nd
    obtain ⟨x0, x1, x2, x3, x4, x5, x6, x7, xz⟩ := l_ HX.out.x
    by_cases hlt : k < M.length
    · obtain ⟨b, o, rfl, hbs, hc⟩ := x_ markCells 2 bb_ (Sl.later HI.out.marks HX.out.b) hlt
      have ce0 : wr.cell? ⟨b, o + k * 2, none⟩ = some (.int .i64 M[k].1) := hc 0 _ rfl
      have ce1 : wr.cell? ⟨b, o + k * 2 + 1, none⟩ = some (.int .i64 M[k].2) := hc 1 _ rfl
      have hki : (k : Int) < (M.length : Int) := by omega
      have HTK := h_ (show (M.take (k + 1)).flatMap markCells = (M.take k).flatMap markCells ++ [.int .i64 M[k].1, .int .i64 M[k].2] by rw [List.take_succ_eq_append_getElem hlt, List.flatMap_append]; simp [markCells])
      generalize M[k] = m at *
      obtain ⟨m0, m1⟩ := m
      dsimp only at ce0 ce1
      clear hc
      have r7 := tenF HX.out.x 7
      go_wp2_with (refine r_ ?_)
      refine ⟨?_⟩
      go_region_law (first
       | (refine w_ _ rfl _ _ 26 rfl B1 53 j0 (.agg #[.int .i64 0, .int .i64 0]) 2 16 Tryz.underlying26 hj0 hy0 hy1 hy2 rfl (by decide) _ _ _ rfl (ownsB HS.out bz_) (fun _ => True) _ _ _ _ rfl (bl_ (by rfl) (by simp)) ?_ ?_ ?_ ?_ ?_; (intro u hu; simp at hu; rcases hu with rfl | rfl <;> rfl); (unfold maxLen; omega); omega; (have := hbz.out; simp; omega); intro A' c' w3 hown' hgrow hat; (have HX3 := HX.out.grown (show Below wr.heap.size wr _ from bz_) hgrow (fun g hg => by have := (HS.out.lt g hg).1; omega)); have hkp := nc_ (show Below wr.heap.size wr _ from bz_) hgrow (fun g hg => (HS.out.lt g hg).1); obtain ⟨y0, y1, y2, y3, y4, y5, y6, y7, yz⟩ := l_ HX3.x; have s7 := tenF HX3.x 7))
      all_goals (
       refine n_ (fun H => OwnAt w R X #[.int .i64 me, .int .i64 ep, .int .i64 up, .bool rd, .string t, .slice sA S.length sc, .slice uA U.length uc, .slice (some ⟨b, o, none⟩) M.length mc] #[.int .i64 me, .int .i64 ep, .int .i64 up, .bool rd, .string t, .slice none 0 0, .slice A8 L8.length c8, .slice A' (k + 1) c'] H ∧ H.ownsRow B1 53 2 (.slice A' (k + 1) c') (k + 1) ((M.take (k + 1)).flatMap markCells) ∧ B1 ≤ H.heap.size ∧ ∀ b, b < B1 → b ≠ X → H.heap[b]? = G.heap[b]?)
        ⟨HX3.set 7 _, ownsSet (by rw [HTK.out]; exact hown') (fun e => by have := (hown'.lt X e).1; omega), by have := hkp.1; have := hbz.out; simp [World.setCell]; omega, fun b h1 h2 => (bH_ (by show b ≠ X; omega)).trans ((hkp.2 b (by have := hbz.out; omega) h1).trans (hold.out b h1 h2))⟩ ?_
       clear hown' hgrow hat HX3 hkp y0 y1 y2 y3 y4 y5 y6 y7 yz s7 n0 n1 n2 n3 n4 n5 n6 n7 nz x0 x1 x2 x3 x4 x5 x6 x7 xz r7 ce0 ce1
       rintro H ⟨h1, h2, h3, h4⟩
       have HG4 := h_ h1
       have HG5 := h_ h2
       have HG6 := h_ h3
       have HG7 := h_ h4
       clear h1 h2 h3 h4
       go_wp2_with fail
       go_roundw
       case rel => exact ⟨k + 1, A', c', by omega, by go_num, HG4, HG5, HG6, HG7⟩
       case measure => simp [intOf]; omega)
    · obtain rfl : k = M.length := by omega
      have HS := h_ (show wr.ownsRow B1 53 2 (.slice A7 M.length c7) M.length (M.flatMap markCells) by have := HS.out; rwa [List.take_length] at this)
      obtain ⟨B2, hB2⟩ : ∃ B2, B2 = wr.heap.size := ⟨_, rfl⟩
      have hB12 : B1 ≤ B2 := by have := hbz.out; omega
      have HB2 := h_ hB2
      clear hB2 hk hlt
      obtain ⟨wm, hwm⟩ : ∃ wm, wm = wr := ⟨_, rfl⟩
      subst hwm
      go_wp2_with fail
      go_loopw [5] (fun i wr => ∃ (k : Nat) (L' : List SideV) (Ao : Option Addr) (co : Nat), k ≤ S.length ∧ i = .int .i64 k ∧ Hid (L'.length = k) ∧ Hid (L'.map SideV.d = (S.take k).map SideV.d) ∧ Hid (OwnAt w R X #[.int .i64 me, .int .i64 ep, .int .i64 up, .bool rd, .string t, .slice sA S.length sc, .slice uA U.length uc, .slice mA M.length mc] #[.int .i64 me, .int .i64 ep, .int .i64 up, .bool rd, .string t, .slice Ao L'.length co, .slice A8 L8.length c8, .slice A7 M.length c7] wr) ∧ Hid (SidesOwn wr B2 Ao co L') ∧ Hid (B2 ≤ wr.heap.size) ∧ Hid (∀ b, b < B2 → b ≠ X → wr.heap[b]? = wm.heap[b]?)) (fun i _ => S.length - (intOf i).toNat)
      case atStart => exact ⟨0, [], none, 0, Nat.zero_le _, rfl, rfl, rfl, HX, SidesOwn.nil _ _, h_ (by rw [HB2.out]; exact Nat.le_refl _), fun _ _ _ => rfl⟩
      case round =>
       obtain ⟨k, L', Ao, co, hk, rfl, hL', hps, HX2, HS2, hbz2, hold2⟩ := hrel
       clear n0 n1 n2 n3 n4 n5 n6 n7 nz x0 x1 x2 x3 x4 x5 x6 x7 xz
       obtain ⟨n0, n1, n2, n3, n4, n5, n6, n7, nz⟩ := l_ HX2.out.nd
       by_cases hlt : k < S.length
       · obtain ⟨b, o, rfl, hbs, hc⟩ := x_ SideV.cells 10 SideV.cells_len (Sl.later HI.out.sides.row HX2.out.b) hlt
         have ce0 : wr.cell? ⟨b, o + k * 10, none⟩ = some (.int .i64 S[k].p) := hc 0 _ rfl
         have ce1 : wr.cell? ⟨b, o + k * 10 + 1, none⟩ = some (.bool S[k].j) := hc 1 _ rfl
         have ce2 : wr.cell? ⟨b, o + k * 10 + 2, none⟩ = some (.int .i64 S[k].s) := hc 2 _ rfl
         have ce3 : wr.cell? ⟨b, o + k * 10 + 3, none⟩ = some (.int .i64 S[k].h) := hc 3 _ rfl
         have ce4 : wr.cell? ⟨b, o + k * 10 + 4, none⟩ = some (.slice S[k].A S[k].L.length S[k].c) := hc 4 _ rfl
         have ce5 : wr.cell? ⟨b, o + k * 10 + 5, none⟩ = some (.int .i64 S[k].k.e) := hc 5 _ rfl
         have ce6 : wr.cell? ⟨b, o + k * 10 + 6, none⟩ = some (.int .i64 S[k].k.n) := hc 6 _ rfl
         have ce7 : wr.cell? ⟨b, o + k * 10 + 7, none⟩ = some (.slice S[k].k.sA S[k].k.s.length S[k].k.sc) := hc 7 _ rfl
         have ce8 : wr.cell? ⟨b, o + k * 10 + 8, none⟩ = some (.slice S[k].k.qA S[k].k.q.length S[k].k.qc) := hc 8 _ rfl
         have ce9 : wr.cell? ⟨b, o + k * 10 + 9, none⟩ = some (.int .i64 S[k].k.h) := hc 9 _ rfl
         have hki : (k : Int) < (S.length : Int) := by omega
         have HXI := h_ ((HI.out.sides.each _ (List.getElem_mem hlt)).later HX2.out.b)
         have HSM := h_ (HM.out.sides _ (List.getElem_mem hlt))
         have HTK := h_ (show (S.take (k + 1)).map SideV.d = (S.take k).map SideV.d ++ [S[k].d] by rw [List.take_succ_eq_append_getElem hlt, List.map_append]; rfl)
         clear hc
         generalize S[k] = x at *
         obtain ⟨p, j, s, h, A, c, L, ⟨ke, kn, sA2, sc2, ks, qA2, qc2, kq, kh⟩⟩ := x
         dsimp only at ce0 ce1 ce2 ce3 ce4 ce5 ce6 ce7 ce8 ce9
         have HCE := h_ (fun W hs => kv_ W s h A c L hs HSM.out.len HSM.out.ops)
         have HCL := h_ (fun W hs => sw_ W ⟨ke, kn, sA2, sc2, ks, qA2, qc2, kq, kh⟩ hs HSM.out.link)
         obtain ⟨WX, hWX⟩ : ∃ WX, WX = wr.alloc (.cells #[.int .i64 p, .bool j, .int .i64 s, .int .i64 h, .slice A L.length c, .int .i64 ke, .int .i64 kn, .slice sA2 ks.length sc2, .slice qA2 kq.length qc2, .int .i64 kh] 60) := ⟨_, rfl⟩
         have HF0 := h_ (show WX.heap[wr.heap.size]? = some (.cells #[.int .i64 p, .bool j, .int .i64 s, .int .i64 h, .slice A L.length c, .int .i64 ke, .int .i64 kn, .slice sA2 ks.length sc2, .slice qA2 kq.length qc2, .int .i64 kh] 60 (0, 0)) by rw [hWX]; exact World.alloc_heap_new _ _)
         have HBX := h_ (show Below wr.heap.size wr WX by rw [hWX]; exact bA_)
         have hzX : WX.heap.size = wr.heap.size + 1 := by rw [hWX]; simp
         have HWX := h_ hWX.symm
         obtain ⟨F, hF⟩ : ∃ F, F = wr.heap.size := ⟨_, rfl⟩
         rw [← hF] at HF0
         have HFE := h_ hF
         have hFz : F < WX.heap.size := by omega
         clear hWX hF
         go_wp2_with fail
         rw [HWX.out, ← HFE.out]
         refine (HCE.out WX (HXI.out.ops.later HBX.out)).mono ?_
         rintro e w2 ⟨A1, c1', L1, rfl, hd1, ho1, hb2⟩
         have HF2 := (hb2.block F hFz).trans HF0.out
         obtain ⟨y0, y1, y2, y3, y4, y5, y6, y7, y8, y9, yz⟩ := f_ HF2
         have q2 := tenF HF2 2
         have q3 := tenF HF2 3
         have q4 := tenF HF2 4
         obtain ⟨W3, hW3⟩ : ∃ W3, W3 = ((w2.setCell ⟨F, 2, none⟩ (.int .i64 s)).setCell ⟨F, 3, none⟩ (.int .i64 h)).setCell ⟨F, 4, none⟩ (.slice A1 L1.length c1') := ⟨_, rfl⟩
         have hO3 : Only F w2 W3 := by rw [hW3]; exact ((Only.set _ _ _).trans (Only.set _ _ _)).trans (Only.set _ _ _)
         have HF3 := h_ (show W3.heap[F]? = some (.cells #[.int .i64 p, .bool j, .int .i64 s, .int .i64 h, .slice A1 L1.length c1', .int .i64 ke, .int .i64 kn, .slice sA2 ks.length sc2, .slice qA2 kq.length qc2, .int .i64 kh] 60 (0, 0)) by rw [hW3]; exact e_ 4 _ (e_ 3 _ (e_ 2 _ HF2)))
         have hfe := HFE.out
         have hz2 := hb2.size
         have hz3 := hO3.size
         have HB3 := h_ (show Below wr.heap.size wr W3 from bThen HBX.out (bThen hb2 (Below.refl _ _)) |>.trans (hO3.below (by omega) (by omega)))
         have HO3 := h_ (show OpsOwn W3 WX.heap.size A1 c1' L1 from ho1.kept hO3.size (fun b hb hl => hO3.block b hl (by omega)))
         have HD1 := h_ hd1
         have HWS := h_ hW3.symm
         have hFz3 : F < W3.heap.size := by omega
         clear hd1 ho1 hb2 HF2 hW3 hO3 hfe hz2 hz3
         go_wp2_with fail
         rw [HWS.out]
         clear y0 y1 y2 y3 y4 y5 y6 y7 y8 y9 yz q2 q3 q4
         refine (HCL.out W3 (HXI.out.link.later HB3.out)).mono ?_
         rintro e w4 ⟨⟨le, ln, A2, c2, L2, A3, c3, L3, lh⟩, rfl, hld, hls, hb4⟩
         simp only [LinkV.d, LinkD.mk.injEq] at hld
         obtain ⟨e1, e2, hd2, hd3, e5⟩ := hld
         subst e1 e2 e5
         have HF4 := (hb4.block F hFz3).trans HF3.out
         obtain ⟨y0, y1, y2, y3, y4, y5, y6, y7, y8, y9, yz⟩ := f_ HF4
         have q5 := tenF HF4 5
         have q6 := tenF HF4 6
         have q7 := tenF HF4 7
         have q8 := tenF HF4 8
         have q9 := tenF HF4 9
         obtain ⟨G2, hG2⟩ : ∃ G2, G2 = ((((w4.setCell ⟨F, 5, none⟩ (.int .i64 le)).setCell ⟨F, 6, none⟩ (.int .i64 ln)).setCell ⟨F, 7, none⟩ (.slice A2 L2.length c2)).setCell ⟨F, 8, none⟩ (.slice A3 L3.length c3)).setCell ⟨F, 9, none⟩ (.int .i64 lh) := ⟨_, rfl⟩
         have hO5 : Only F w4 G2 := by rw [hG2]; exact ((((Only.set _ _ _).trans (Only.set _ _ _)).trans (Only.set _ _ _)).trans (Only.set _ _ _)).trans (Only.set _ _ _)
         have HG1 := h_ (show G2.heap[F]? = some (.cells #[.int .i64 p, .bool j, .int .i64 s, .int .i64 h, .slice A1 L1.length c1', .int .i64 le, .int .i64 ln, .slice A2 L2.length c2, .slice A3 L3.length c3, .int .i64 lh] 60 (0, 0)) by rw [hG2]; exact e_ 9 _ (e_ 8 _ (e_ 7 _ (e_ 6 _ (e_ 5 _ HF4)))))
         have hfe := HFE.out
         have hz4 := hb4.size
         have hz5 := hO5.size
         have HG2 := h_ (show Below wr.heap.size wr G2 from bThen HB3.out hb4 |>.trans (hO5.below (by omega) (by omega)))
         have HG3 := h_ (show (⟨p, j, s, h, A1, c1', L1, ⟨le, ln, A2, c2, L2, A3, c3, L3, lh⟩⟩ : SideV).InS (fun b => wr.heap.size ≤ b ∧ b < G2.heap.size) G2 from by
          have k1 := OpsS.of (HO3.out.kept (w' := G2) (by omega) (fun b hb hl => (hO5.block b (by omega) (by omega)).trans (hb4.block b hl)))
          have k2 := hls.moved (w' := G2) (S' := fun b => wr.heap.size ≤ b ∧ b < G2.heap.size) (fun b hb => by
           have t1 := hb.1
           have t2 := hb.2
           exact ⟨⟨by omega, by omega⟩, hO5.block b t2 (by omega)⟩)
          have k3 := k1.moved (S' := fun b => wr.heap.size ≤ b ∧ b < G2.heap.size) (fun b hb => by
           have t1 := hb.1
           have t2 := hb.2
           exact ⟨⟨by omega, t2⟩, rfl⟩)
          exact ⟨k3.row, k3.each, k2.s, k2.so, k2.q, k2.qo⟩)
         have HD2 := h_ hd2
         have HD3 := h_ hd3
         have HGE := h_ hG2.symm
         have HGZ := h_ (show w4.heap.size = G2.heap.size by rw [hG2]; simp [World.setCell])
         have HXG := h_ (HX2.out.later HG2.out)
         have HX4 := h_ (HX2.out.later (bThen HB3.out hb4))
         have hzG := HG2.out.size
         clear hd2 hd3 hls hb4 hO5 hfe hz4 hz5 HF4 hG2
         have hFX : ¬ F = X := by have := HFE.out; have := hbz2.out; omega
         have hXF : ¬ X = F := fun e => hFX e.symm
         obtain ⟨x0, x1, x2, x3, x4, x5, x6, x7, xz⟩ := l_ HX4.out.x
         go_wp2_with (refine bg_ rfl ?_)
         refine ⟨?_⟩
         rw [HGE.out]
         clear x0 x1 x2 x3 x4 x5 x6 x7 xz
         clear y0 y1 y2 y3 y4 y5 y6 y7 y8 y9 yz q5 q6 q7 q8 q9 n0 n1 n2 n3 n4 n5 n6 n7 nz ce0 ce1 ce2 ce3 ce4 ce5 ce6 ce7 ce8 ce9
         obtain ⟨y0, y1, y2, y3, y4, y5, y6, y7, y8, y9, yz⟩ := f_ HG1.out
         obtain ⟨x0, x1, x2, x3, x4, x5, x6, x7, xz⟩ := l_ HXG.out.x
         have HRX := h_ ((SidesOwn.kept HS2.out HG2.out.size (fun b _ hl => HG2.out.block b hl)).row.alloc (.cells #[.int .i64 p, .bool j, .int .i64 s, .int .i64 h, .slice A1 L1.length c1', .int .i64 le, .int .i64 ln, .slice A2 L2.length c2, .slice A3 L3.length c3, .int .i64 lh] 60))
         refine j_ _ rfl _ _ 24 rfl B2 60 i0 (.agg #[.int .i64 0, .bool false, .int .i64 0, .int .i64 0, .slice none 0 0, .int .i64 0, .int .i64 0, .slice none 0 0, .slice none 0 0, .int .i64 0]) 10 128 Tryz.underlying24 hi0 hz0 hz1 hz2 rfl (by decide) _ _ _ rfl HRX.out (fun _ => True) _ _ _ _ rfl (bl_ (by rfl) (by simp [HGZ.out])) ?c1 ?c2 ?c3 ?c4 ?_
         case c1 => intro u hu; simp at hu; rcases hu with rfl | rfl | rfl | rfl | rfl | rfl | rfl | rfl | rfl | rfl <;> rfl
         case c2 => have := hL'.out; unfold maxLen; omega
         case c3 => have := hL'.out; omega
         case c4 => have := hbz2.out; simp; omega
         intro A' c' w3 hown' hgrow hat
         have HLN := h_ (show (L' ++ [(⟨p, j, s, h, A1, c1', L1, ⟨le, ln, A2, c2, L2, A3, c3, L3, lh⟩⟩ : SideV)]).length = L'.length + 1 by simp)
         have hP := SidesOwn.push (x := (⟨p, j, s, h, A1, c1', L1, ⟨le, ln, A2, c2, L2, A3, c3, L3, lh⟩⟩ : SideV)) HS2.out hbz2.out (fun b _ hl => HG2.out.block b hl) HG2.out.size HG3.out hgrow hown' hat
         have hBG := bAlloc HG2.out (.cells #[.int .i64 p, .bool j, .int .i64 s, .int .i64 h, .slice A1 L1.length c1', .int .i64 le, .int .i64 ln, .slice A2 L2.length c2, .slice A3 L3.length c3, .int .i64 lh] 60)
         have hlow : ∀ g, (Value.slice Ao L'.length co).ownBlock = some g → B2 ≤ g := fun g hg => (HS2.out.row.lt g hg).1
         have hkp := nc_ (B := B2) hBG hgrow hlow
         have HX3 := h_ (HX2.out.grown hBG hgrow (fun g hg => by have := hlow g hg; omega))
         have HOL3 := h_ (show ∀ b, b < B2 → b ≠ X → w3.heap[b]? = wm.heap[b]? from fun b h1 h2 => (hkp.2 b (by have := hbz2.out; omega) h1).trans (hold2.out b h1 h2))
         have HZ3 := h_ (show B2 ≤ w3.heap.size by have := hbz2.out; have := hkp.1; omega)
         have HP := h_ hP
         clear hown' hgrow hat hP hlow hkp hBG y0 y1 y2 y3 y4 y5 y6 y7 y8 y9 yz x0 x1 x2 x3 x4 x5 x6 x7 xz
         obtain ⟨x0, x1, x2, x3, x4, x5, x6, x7, xz⟩ := l_ HX3.out.x
         have r5 := tenF HX3.out.x 5
         obtain ⟨n0, n1, n2, n3, n4, n5, n6, n7, nz⟩ := l_ HX3.out.nd
         go_wp2_with fail
         have HG4 := h_ (HX3.out.set 5 (.slice A' (L'.length + 1) c'))
         have HG5 := h_ (HP.out.kept (w' := w3.setCell ⟨X, 5, none⟩ (.slice A' (L'.length + 1) c')) (by simp [World.setCell]) (fun b hb hl => bH_ (by show b ≠ X; omega)))
         have HG6 := h_ (show B2 ≤ (w3.setCell ⟨X, 5, none⟩ (.slice A' (L'.length + 1) c')).heap.size by simpa [World.setCell] using HZ3.out)
         have HG7 := h_ (show ∀ b, b < B2 → b ≠ X → (w3.setCell ⟨X, 5, none⟩ (.slice A' (L'.length + 1) c')).heap[b]? = wm.heap[b]? from fun b h1 h2 => (bH_ (by show b ≠ X; omega)).trans (HOL3.out b h1 h2))
         clear x0 x1 x2 x3 x4 x5 x6 x7 xz r5 n0 n1 n2 n3 n4 n5 n6 n7 nz
         go_roundw
         case rel => exact ⟨k + 1, L' ++ [(⟨p, j, s, h, A1, c1', L1, ⟨le, ln, A2, c2, L2, A3, c3, L3, lh⟩⟩ : SideV)], A', c', by omega, by go_num, h_ (by rw [HLN.out, hL'.out]), h_ (by rw [List.map_append, hps.out, HTK.out]; show _ ++ [(⟨p, j, s, h, L1.map OpV.ps, ⟨le, ln, L2.map FrameV.d, L3.map FrameV.d, lh⟩⟩ : SideD)] = _; rw [HD1.out, HD2.out, HD3.out]), h_ (by rw [HLN.out]; exact HG4.out), HG5, HG6, HG7⟩
         case measure => simp [intOf]; omega
       · obtain rfl : k = S.length := by omega
         have HPP := h_ (show L'.map SideV.d = S.map SideV.d by rw [hps.out, List.take_length])
         obtain ⟨x0, x1, x2, x3, x4, x5, x6, x7, xz⟩ := l_ HX2.out.x
         obtain ⟨r0, r1, r2, r3, r4, r5, r6, r7, rz⟩ := l_ HX2.out.r
         obtain ⟨s0, s1, s2, s3, s4, s5, s6, s7⟩ := gh_ HX2.out.r
         have hwR' : w.heap.size < R := HX2.out.wr
         have hRX : R < X := HX2.out.rx
         have hn1 : ¬ R = X := by omega
         have hn2 : ¬ X = R := by omega
         go_wp2_with fail
         obtain ⟨W9, hW9⟩ : ∃ W9, W9 = (((((((wr.setCell ⟨R, 0, none⟩ (.int .i64 me)).setCell ⟨R, 1, none⟩ (.int .i64 ep)).setCell ⟨R, 2, none⟩ (.int .i64 up)).setCell ⟨R, 3, none⟩ (.bool rd)).setCell ⟨R, 4, none⟩ (.string t)).setCell ⟨R, 5, none⟩ (.slice Ao L'.length co)).setCell ⟨R, 6, none⟩ (.slice A8 L8.length c8)).setCell ⟨R, 7, none⟩ (.slice A7 M.length c7) := ⟨_, rfl⟩
         rw [← hW9]
         have hO2 : Only R wr W9 := by rw [hW9]; exact (((((((Only.set _ _ _).trans (Only.set _ _ _)).trans (Only.set _ _ _)).trans (Only.set _ _ _)).trans (Only.set _ _ _)).trans (Only.set _ _ _)).trans (Only.set _ _ _)).trans (Only.set _ _ _)
         have hR9 : W9.heap[R]? = some (.cells #[.int .i64 me, .int .i64 ep, .int .i64 up, .bool rd, .string t, .slice Ao L'.length co, .slice A8 L8.length c8, .slice A7 M.length c7] 28 (0, 0)) := by
          rw [hW9]
          exact e_ 7 _ (e_ 6 _ (e_ 5 _ (e_ 4 _ (e_ 3 _ (e_ 2 _ (e_ 1 _ (e_ 0 _ HX2.out.r)))))))
         clear hW9
         have z2 := hO2.size
         have z4 := hbz2.out
         have z5 := HB2.out
         have z6 := HB1.out
         have hkp : ∀ b, b ≠ R → b < wr.heap.size → W9.heap[b]? = wr.heap[b]? := fun b h1 h2 => hO2.block b h2 h1
         have ku : ∀ b, R < b → b < B1 → b ≠ X → W9.heap[b]? = G.heap[b]? := fun b h0 h1 h2 => (hkp b (by omega) (by omega)).trans ((hold2.out b (by omega) h2).trans (hold.out b h1 h2))
         have kU : (Value.slice A8 L8.length c8).ownBlock ≠ some X := HUX.out
         have ul : ∀ y, (Value.slice A8 L8.length c8).ownBlock = some y → R + 1 ≤ y ∧ y < B1 := fun y hy => by have := HO8o.out.row.lt y hy; omega
         have ml : ∀ y, (Value.slice A7 M.length c7).ownBlock = some y → B1 ≤ y ∧ y < B2 := fun y hy => by have := HS.out.lt y hy; omega
         have sl : ∀ y, (Value.slice Ao L'.length co).ownBlock = some y → B2 ≤ y ∧ y < wr.heap.size := fun y hy => HS2.out.row.lt y hy
         have kS : NodeFree W9 w.heap.size ⟨me, ep, up, rd, t, Ao, co, L', A8, c8, L8, A7, c7, M⟩ := by
          refine ⟨s_ (cb_ HS.out (by omega)) fun b hb => ?_, s_ (cb_ HS2.out.row (by omega)) fun b hb => ?_, s_ (cb_ HO8o.out.row (by omega)) fun b hb => ?_, fun x hx => (HS2.out.each x hx).moved fun b hb => ⟨⟨⟨by have := hb.1.1; omega, by have := hb.1.2; omega⟩, fun e => by have := ml b e; have := hb.1.1; omega, hb.2, fun e => by have := ul b e; have := hb.1.1; omega⟩, hkp b (by have := hb.1.1; omega) hb.1.2⟩,
           fun o ho => ((HO8o.out.each o ho).both (HO8.out.each o ho)).moved fun b hb => ?_⟩
          · have h1 := ml b hb
            exact (hkp b (by omega) (by omega)).trans (hold2.out b (by omega) (by omega))
          · have h1 := sl b hb
            exact hkp b (by omega) (by omega)
          · have h1 := ul b hb
            exact ku b (by omega) (by omega) (fun e => kU (by rw [hb, e]))
          · have h1 := hb.1.1
            have h2 := hb.2.2
            exact ⟨⟨⟨by omega, by omega⟩, fun e => by have := ml b e; omega, fun e => by have := sl b e; omega, hb.1.2⟩, ku b (by omega) (by omega) h2⟩
         have k4 : Below w.heap.size w W9 := HX2.out.b.trans (hO2.below (by omega) (by omega))
         refine n_ (fun G => G.heap[R]? = some (.cells #[.int .i64 me, .int .i64 ep, .int .i64 up, .bool rd, .string t, .slice Ao L'.length co, .slice A8 L8.length c8, .slice A7 M.length c7] 28 (0, 0)) ∧ NodeFree G w.heap.size ⟨me, ep, up, rd, t, Ao, co, L', A8, c8, L8, A7, c7, M⟩ ∧ Below w.heap.size w G) ⟨hR9, kS, k4⟩ ?_
         rintro G9 ⟨j1, j2, j5⟩
         clear r0 r1 r2 r3 r4 r5 r6 r7 rz s0 s1 s2 s3 s4 s5 s6 s7 x0 x1 x2 x3 x4 x5 x6 x7 xz
         obtain ⟨r0, r1, r2, r3, r4, r5, r6, r7, rz⟩ := l_ j1
         refine bodyPost_ret (v := (⟨me, ep, up, rd, t, Ao, co, L', A8, c8, L8, A7, c7, M⟩ : NodeV).val) (by simp [results, Tryz.results6, go_sem, r0, r1, r2, r3, r4, r5, r6, r7]) rfl ?_
         exact ⟨⟨me, ep, up, rd, t, Ao, co, L', A8, c8, L8, A7, c7, M⟩, rfl, by simp only [NodeV.d, HPP.out, HD8.out], j2, j5⟩
end Go.Proofs.YtacacoklddogmaaGreatDoor
