/-
  Contract of node.own: a node in memory of the call's own.
-/
import Derived.Test.YtbmdepbmejnlkaaDoorRows
import Derived.Test.YtbmdepbmejnlkaaDoorBF
import Derived.Test.YtbmdepbmejnlkaaDoorBG
namespace Go.Proofs.YtbmdepbmejnlkaaDoor
open Go.ChangeShapes Go.WideShapes Go.ChangeAt Go.RowKit
set_option maxRecDepth 100000
/-- Operations that lie in blocks of S. -/
structure OpsS (S : Nat → Prop) (w : World) (A : Option Addr) (L : List OpV) : Prop where
  row : Sl S w 1 A L.length (L.map OpV.val)
  each : ∀ o ∈ L, OpIn S w o.A o.ps
theorem OpsS.moved {S S' : Nat → Prop} {w w' : World} {A : Option Addr} {L : List OpV} (h : OpsS S w A L) (k : ∀ b, S b → S' b ∧ w'.heap[b]? = w.heap[b]?) : OpsS S' w' A L := ⟨h.row.moved k, fun o ho => (h.each o ho).moved k⟩
theorem OpsS.of {w : World} {base : Nat} {A : Option Addr} {c : Nat} {L : List OpV} (h : OpsOwn w base A c L) : OpsS (fun b => base ≤ b ∧ b < w.heap.size) w A L :=
  ⟨(Sl.of_own _ h.row).moved fun _ hb => ⟨hb, rfl⟩, fun o ho => (h.each o ho).moved fun _ hb => ⟨hb.1, rfl⟩⟩
/-- A node that lies in blocks of S. -/
structure NodeV.InS (S : Nat → Prop) (w : World) (n : NodeV) : Prop where
  row : Sl S w 10 n.sA n.S.length (n.S.flatMap SideV.cells)
  each : ∀ x ∈ n.S, x.InS S w
  undo : OpsS S w n.uA n.U
  marks : Sl S w 2 n.mA n.M.length (n.M.flatMap markCells)
theorem NodeV.InS.moved {S S' : Nat → Prop} {w w' : World} {n : NodeV} (h : n.InS S w) (k : ∀ b, S b → S' b ∧ w'.heap[b]? = w.heap[b]?) : n.InS S' w' :=
  ⟨h.row.moved k, fun x hx => (h.each x hx).moved k, h.undo.moved k, h.marks.moved k⟩
theorem NodeV.In.inS {w : World} {n : NodeV} (h : n.In w) : n.InS (· < w.heap.size) w :=
  ⟨h.sides.row, fun x hx => ⟨(h.sides.each x hx).ops.row, (h.sides.each x hx).ops.each, (h.sides.each x hx).link.s.row, (h.sides.each x hx).link.s.each, (h.sides.each x hx).link.q.row, (h.sides.each x hx).link.q.each⟩, ⟨h.undo.row, h.undo.each⟩, h.marks⟩
theorem NodeV.InS.in_ {S : Nat → Prop} {w : World} {n : NodeV} (h : n.InS S w) (k : ∀ b, S b → b < w.heap.size) : n.In w := by
  have h' := h.moved (S' := (· < w.heap.size)) fun b hb => ⟨k b hb, rfl⟩
  exact ⟨⟨h'.row, fun x hx => (h.each x hx).in_ k⟩, ⟨h'.undo.row, h'.undo.each⟩, h'.marks⟩
/-- A call that hands back a node that says this, in memory of its own. -/
def RetNodeF (w : World) (d : NodeD) (e : Ending) (w' : World) : Prop :=
  ∃ n : NodeV, e = .returned n.val ∧ n.d = d ∧ n.InS (fun b => w.heap.size ≤ b ∧ b < w'.heap.size) w' ∧ Below w.heap.size w w'
theorem SidesOwn.inS {w : World} {base B : Nat} {A : Option Addr} {c : Nat} {L : List SideV} (h : SidesOwn w base A c L) (hb : B ≤ base) : Sl (fun b => B ≤ b ∧ b < w.heap.size) w 10 A L.length (L.flatMap SideV.cells) ∧ ∀ x ∈ L, x.InS (fun b => B ≤ b ∧ b < w.heap.size) w :=
  ⟨(Sl.of_own _ h.row).moved fun _ hx => ⟨⟨by omega, hx.2⟩, rfl⟩, fun o ho => (h.each o ho).moved fun _ hx => ⟨⟨by omega, hx.1.2⟩, rfl⟩⟩
theorem infoSide : (Tryd.prog.info? 65).map (fun i => (i.zero, i.size, i.bytes)) = some (some (.agg #[.int .i64 0, .bool false, .int .i64 0, .int .i64 0, .slice none 0 0, .int .i64 0, .int .i64 0, .slice none 0 0, .slice none 0 0, .int .i64 0]), 10, 128) := by kernel_rfl
/-- The blocks of the node that came, of the one that goes, and of the one that is made. -/
structure OwnAt (w : World) (R X : Nat) (nv xv : Array Value) (W : World) : Prop where
  nd : W.heap[w.heap.size]? = some (.cells nv 28 (0, 0))
  r : W.heap[R]? = some (.cells #[.int .i64 0, .int .i64 0, .int .i64 0, .bool false, .string ⟨#[]⟩, .slice none 0 0, .slice none 0 0, .slice none 0 0] 28 (0, 0))
  x : W.heap[X]? = some (.cells xv 28 (0, 0))
  b : Below w.heap.size w W
  wr : w.heap.size < R
  rx : R < X
  xz : X < W.heap.size
theorem OwnAt.later {w W W' : World} {R X : Nat} {nv xv : Array Value} (k : OwnAt w R X nv xv W) (hb : Below W.heap.size W W') : OwnAt w R X nv xv W' := by
  have h1 := k.wr
  have h2 := k.rx
  have h3 := k.xz
  have h4 := hb.size
  exact ⟨(hb.block _ (by omega)).trans k.nd, (hb.block _ (by omega)).trans k.r, (hb.block _ h3).trans k.x, bThen k.b hb, h1, h2, by omega⟩
theorem OwnAt.set {w W : World} {R X : Nat} {nv xv : Array Value} (k : OwnAt w R X nv xv W) (j : Nat) (v : Value) : OwnAt w R X nv (xv.setIfInBounds j v) (W.setCell ⟨X, j, none⟩ v) := by
  have h1 := k.wr
  have h2 := k.rx
  exact ⟨(Below.heap_setCell _ _ _ _ (by show w.heap.size ≠ X; omega)).trans k.nd, (Below.heap_setCell _ _ _ _ (by show R ≠ X; omega)).trans k.r, any_set j v k.x, bSet k.b (p := ⟨X, j, none⟩) (by show w.heap.size ≤ X; omega) v, h1, h2, by simpa [World.setCell] using k.xz⟩
theorem OwnAt.new (w : World) (nv xv : Array Value) : OwnAt w (w.heap.size + 1) (w.heap.size + 2) nv xv (((w.alloc (.cells nv 28)).alloc (.cells #[.int .i64 0, .int .i64 0, .int .i64 0, .bool false, .string ⟨#[]⟩, .slice none 0 0, .slice none 0 0, .slice none 0 0] 28)).alloc (.cells xv 28)) := by
  refine ⟨(heap_alloc_old _ _ _ (by simp)).trans ((heap_alloc_old _ _ _ (by simp)).trans (World.alloc_heap_new _ _)), (heap_alloc_old _ _ _ (by simp)).trans ?_, ?_, bAlloc (bAlloc (bAlloc (Below.refl _ _) _) _) _, by omega, by omega, by simp⟩
  · have := World.alloc_heap_new (w.alloc (.cells nv 28)) (.cells #[.int .i64 0, .int .i64 0, .int .i64 0, .bool false, .string ⟨#[]⟩, .slice none 0 0, .slice none 0 0, .slice none 0 0] 28)
    rwa [World.size_alloc] at this
  · have := World.alloc_heap_new ((w.alloc (.cells nv 28)).alloc (.cells #[.int .i64 0, .int .i64 0, .int .i64 0, .bool false, .string ⟨#[]⟩, .slice none 0 0, .slice none 0 0, .slice none 0 0] 28)) (.cells xv 28)
    rwa [World.size_alloc, World.size_alloc] at this
theorem eight_cellF {W : World} {B : Nat} {v0 v1 v2 v3 v4 v5 v6 v7 : Value} {t : TypeId} (h : W.heap[B]? = some (.cells #[v0, v1, v2, v3, v4, v5, v6, v7] t (0, 0))) :
    W.frozen? ⟨B, 0, none⟩ = false ∧ W.frozen? ⟨B, 1, none⟩ = false ∧ W.frozen? ⟨B, 2, none⟩ = false ∧ W.frozen? ⟨B, 3, none⟩ = false ∧ W.frozen? ⟨B, 4, none⟩ = false ∧ W.frozen? ⟨B, 5, none⟩ = false ∧ W.frozen? ⟨B, 6, none⟩ = false ∧ W.frozen? ⟨B, 7, none⟩ = false := by
  refine ⟨?_, ?_, ?_, ?_, ?_, ?_, ?_, ?_⟩ <;> (unfold World.frozen?; rw [h]; simp)
theorem ten_cell {W : World} {B : Nat} {v0 v1 v2 v3 v4 v5 v6 v7 v8 v9 : Value} {t : TypeId} (h : W.heap[B]? = some (.cells #[v0, v1, v2, v3, v4, v5, v6, v7, v8, v9] t (0, 0))) :
    W.cell? ⟨B, 0, none⟩ = some v0 ∧ W.cell? ⟨B, 1, none⟩ = some v1 ∧ W.cell? ⟨B, 2, none⟩ = some v2 ∧ W.cell? ⟨B, 3, none⟩ = some v3 ∧ W.cell? ⟨B, 4, none⟩ = some v4 ∧ W.cell? ⟨B, 5, none⟩ = some v5 ∧ W.cell? ⟨B, 6, none⟩ = some v6 ∧ W.cell? ⟨B, 7, none⟩ = some v7 ∧ W.cell? ⟨B, 8, none⟩ = some v8 ∧ W.cell? ⟨B, 9, none⟩ = some v9 ∧ B < W.heap.size := by
  have hz := (Array.getElem?_eq_some_iff.1 h).1
  refine ⟨?_, ?_, ?_, ?_, ?_, ?_, ?_, ?_, ?_, ?_, hz⟩ <;> (unfold World.cell?; rw [h]; rfl)
theorem tenF {W : World} {B : Nat} {vs : Array Value} {t : TypeId} (h : W.heap[B]? = some (.cells vs t (0, 0))) (j : Nat) : W.frozen? ⟨B, j, none⟩ = false := by
  unfold World.frozen?; rw [h]; simp
theorem SideV.InS.of {w : World} {F b1 b2 b3 : Nat} {x : SideV} (h1 : OpsOwn w b1 x.A x.c x.L) (k1 : F ≤ b1) (h2 : FramesOwn w b2 x.k.sA x.k.sc x.k.s) (k2 : F ≤ b2) (h3 : FramesOwn w b3 x.k.qA x.k.qc x.k.q) (k3 : F ≤ b3) : x.InS (fun b => F ≤ b ∧ b < w.heap.size) w :=
  ⟨(Sl.of_own _ h1.row).moved fun b hb => ⟨⟨by omega, hb.2⟩, rfl⟩, fun o ho => (h1.each o ho).moved fun b hb => ⟨⟨by omega, hb.1.2⟩, rfl⟩,
    (Sl.of_own _ h2.row).moved fun b hb => ⟨⟨by omega, hb.2⟩, rfl⟩, fun f hf => (h2.each f hf).moved fun b hb => ⟨⟨by omega, hb.1.2⟩, rfl⟩,
    (Sl.of_own _ h3.row).moved fun b hb => ⟨⟨by omega, hb.2⟩, rfl⟩, fun f hf => (h3.each f hf).moved fun b hb => ⟨⟨by omega, hb.1.2⟩, rfl⟩⟩
set_option maxHeartbeats 4000000 in
theorem nodeOwn_c (w : World) (n : NodeV) (hi : n.In w) (hm : n.Small) : Calls Tryd.prog 84 #[n.val] w (RetNodeF w n.d) := by
  obtain ⟨i0, hi0, hz0, hz1, hz2⟩ := info_parts infoSide
  obtain ⟨me, ep, up, rd, t, sA, sc, S, uA, uc, U, mA, mc, M⟩ := n
  have hSL : S.length ≤ 1048576 := hm.sl
  have HM := Lib.hid hm
  have HI := Lib.hid hi
  have HCM := Lib.hid (fun W hs => CloneMarks_c W mA mc M hs hm.ml)
  have HCU := Lib.hid (fun W hs => nodeOps_c W uA uc U hs hm.ul (fun o ho => (hm.undo o ho).len))
  clear hi hm
  have HA := Lib.hid (OwnAt.new w #[.int .i64 me, .int .i64 ep, .int .i64 up, .bool rd, .string t, .slice sA S.length sc, .slice uA U.length uc, .slice mA M.length mc] #[.int .i64 me, .int .i64 ep, .int .i64 up, .bool rd, .string t, .slice sA S.length sc, .slice uA U.length uc, .slice mA M.length mc])
  obtain ⟨WA, hWA⟩ : ∃ WA, WA = ((w.alloc (.cells #[.int .i64 me, .int .i64 ep, .int .i64 up, .bool rd, .string t, .slice sA S.length sc, .slice uA U.length uc, .slice mA M.length mc] 28)).alloc (.cells #[.int .i64 0, .int .i64 0, .int .i64 0, .bool false, .string ⟨#[]⟩, .slice none 0 0, .slice none 0 0, .slice none 0 0] 28)).alloc (.cells #[.int .i64 me, .int .i64 ep, .int .i64 up, .bool rd, .string t, .slice sA S.length sc, .slice uA U.length uc, .slice mA M.length mc] 28) := ⟨_, rfl⟩
  rw [← hWA] at HA
  have HW := Lib.hid hWA.symm
  obtain ⟨R, hR⟩ : ∃ R, R = w.heap.size + 1 := ⟨_, rfl⟩
  obtain ⟨X, hX⟩ : ∃ X, X = w.heap.size + 2 := ⟨_, rfl⟩
  rw [← hR, ← hX] at HA
  have HRE := Lib.hid (show w.heap.size + 1 = R from hR.symm)
  have HXE := Lib.hid (show w.heap.size + 1 + 1 = X by omega)
  clear hWA hR hX
  go_enter Tryd.func84, Tryd.ntmps84
  go_wp2_with fail
  all_goals (
    rw [HW.out, HXE.out, HRE.out]
    refine (HCM.out WA (Sl.later HI.out.marks HA.out.b)).mono ?_
    rintro e w1 ⟨A7, c7, rfl, ho7, hb1⟩
    have H1 := Lib.hid (HA.out.later hb1)
    obtain ⟨n0, n1, n2, n3, n4, n5, n6, n7, nz⟩ := eight_cell H1.out.nd
    obtain ⟨x0, x1, x2, x3, x4, x5, x6, x7, xz⟩ := eight_cell H1.out.x
    obtain ⟨y0, y1, y2, y3, y4, y5, y6, y7⟩ := eight_cellF H1.out.x
    have hwX : w.heap.size < X := by have := H1.out.wr; have := H1.out.rx; omega
    have hneX : ¬ w.heap.size = X := by omega
    have HO7 := Lib.hid ho7
    have HB1 := Lib.hid hb1
    clear ho7 hb1
    go_wp2_with fail
    have H2 := Lib.hid (((H1.out.set 5 (.slice none 0 0)).set 6 (.slice none 0 0)).set 7 (.slice A7 M.length c7))
    obtain ⟨WB, hWB⟩ : ∃ WB, WB = ((w1.setCell ⟨X, 5, none⟩ (.slice none 0 0)).setCell ⟨X, 6, none⟩ (.slice none 0 0)).setCell ⟨X, 7, none⟩ (.slice A7 M.length c7) := ⟨_, rfl⟩
    rw [← hWB] at H2
    have HM7 := Lib.hid (show Sl (fun b => X < b ∧ b < WB.heap.size) WB 2 A7 M.length (M.flatMap markCells) from (Sl.of_own _ HO7.out).moved fun b hb => by
      have h1 := HA.out.xz
      have h2 : WB.heap.size = w1.heap.size := by rw [hWB]; simp [World.setCell]
      have hne : b ≠ X := by omega
      exact ⟨⟨by omega, by omega⟩, by rw [hWB]; exact (Below.heap_setCell _ ⟨X, 7, none⟩ _ b hne).trans ((Below.heap_setCell _ ⟨X, 6, none⟩ _ b hne).trans (Below.heap_setCell _ ⟨X, 5, none⟩ _ b hne))⟩)
    have HWB := Lib.hid hWB.symm
    have H2 := Lib.hid (show OwnAt w R X #[.int .i64 me, .int .i64 ep, .int .i64 up, .bool rd, .string t, .slice sA S.length sc, .slice uA U.length uc, .slice mA M.length mc] #[.int .i64 me, .int .i64 ep, .int .i64 up, .bool rd, .string t, .slice none 0 0, .slice none 0 0, .slice A7 M.length c7] WB from H2.out)
    rw [HWB.out]
    clear n0 n1 n2 n3 n4 n5 n6 n7 nz x0 x1 x2 x3 x4 x5 x6 x7 xz y0 y1 y2 y3 y4 y5 y6 y7 hWB
    obtain ⟨B0, hB0⟩ : ∃ B0, B0 = WB.heap.size := ⟨_, rfl⟩
    rw [← hB0] at HM7
    have hXB : X < B0 := by have := H2.out.xz; omega
    have HB0 := Lib.hid hB0
    clear hB0
    go_loopw [16] (fun i wr => ∃ (k : Nat) (L' : List SideV) (Ao : Option Addr) (co : Nat), k ≤ S.length ∧ i = .int .i64 k ∧ Hid (L'.length = k) ∧ Hid (L'.map SideV.d = (S.take k).map SideV.d) ∧ Hid (OwnAt w R X #[.int .i64 me, .int .i64 ep, .int .i64 up, .bool rd, .string t, .slice sA S.length sc, .slice uA U.length uc, .slice mA M.length mc] #[.int .i64 me, .int .i64 ep, .int .i64 up, .bool rd, .string t, .slice Ao L'.length co, .slice none 0 0, .slice A7 M.length c7] wr) ∧ Hid (SidesOwn wr B0 Ao co L') ∧ Hid (B0 ≤ wr.heap.size) ∧ Hid (∀ b, X < b → b < B0 → wr.heap[b]? = WB.heap[b]?)) (fun i _ => S.length - (intOf i).toNat)
    case atStart => exact ⟨0, [], none, 0, Nat.zero_le _, rfl, rfl, rfl, H2, SidesOwn.nil _ _, Lib.hid (by rw [HB0.out]; exact Nat.le_refl _), fun _ _ _ => rfl⟩
    case round =>
      obtain ⟨k, L', Ao, co, hk, rfl, hL', hps, HX, HS, hbz, hold⟩ := hrel
      obtain ⟨n0, n1, n2, n3, n4, n5, n6, n7, nz⟩ := eight_cell HX.out.nd
      have hxz := HX.out.xz
      by_cases hlt : k < S.length
      · obtain ⟨b, o, rfl, hbs, hc⟩ := row_at SideV.cells 10 SideV.cells_len (Sl.later HI.out.sides.row HX.out.b) hlt
        have ce0 : wr.cell? ⟨b, o + k * 10, none⟩ = some (.int .i64 S[k].p) := hc 0 _ rfl
        have ce1 : wr.cell? ⟨b, o + k * 10 + 1, none⟩ = some (.bool S[k].j) := hc 1 _ rfl
        have ce2 : wr.cell? ⟨b, o + k * 10 + 2, none⟩ = some (.int .i64 S[k].s) := hc 2 _ rfl
        have ce3 : wr.cell? ⟨b, o + k * 10 + 3, none⟩ = some (.int .i64 S[k].h) := hc 3 _ rfl
        have ce4 : wr.cell? ⟨b, o + k * 10 + 4, none⟩ = some (.slice S[k].A S[k].L.length S[k].c) := hc 4 _ rfl
        have ce5 : wr.cell? ⟨b, o + k * 10 + 5, none⟩ = some (.int .i64 S[k].k.e) := hc 5 _ rfl
        have ce6 : wr.cell? ⟨b, o + k * 10 + 6, none⟩ = some (.int .i64 S[k].k.n) := hc 6 _ rfl
        have ce7 : wr.cell? ⟨b, o + k * 10 + 7, none⟩ = some (.slice S[k].k.sA S[k].k.s.length S[k].k.sc) := hc 7 _ rfl
        have ce8 : wr.cell? ⟨b, o + k * 10 + 8, none⟩ = some (.slice S[k].k.qA S[k].k.q.length S[k].k.qc) := hc 8 _ rfl
        have ce9 : wr.cell? ⟨b, o + k * 10 + 9, none⟩ = some (.int .i64 S[k].k.h) := hc 9 _ rfl
        have hki : (k : Int) < (S.length : Int) := by omega
        have HXI := Lib.hid ((HI.out.sides.each _ (List.getElem_mem hlt)).later HX.out.b)
        have HSM := Lib.hid (HM.out.sides _ (List.getElem_mem hlt))
        have HTK := Lib.hid (show (S.take (k + 1)).map SideV.d = (S.take k).map SideV.d ++ [S[k].d] by rw [List.take_succ_eq_append_getElem hlt, List.map_append]; rfl)
        clear hc
        generalize S[k] = x at *
        obtain ⟨p, j, s, h, A, c, L, ⟨ke, kn, sA2, sc2, ks, qA2, qc2, kq, kh⟩⟩ := x
        dsimp only at ce0 ce1 ce2 ce3 ce4 ce5 ce6 ce7 ce8 ce9
        have HCO := Lib.hid (fun W hs => nodeOps_c W A c L hs HSM.out.len (fun o ho => (HSM.out.ops o ho).len))
        have HC1 := Lib.hid (fun W hs => nodeFrames_c W sA2 sc2 ks hs HSM.out.link.sl (fun f hf => (HSM.out.link.s f hf).op.len))
        have HC2 := Lib.hid (fun W hs => nodeFrames_c W qA2 qc2 kq hs HSM.out.link.ql (fun f hf => (HSM.out.link.q f hf).op.len))
        obtain ⟨WX, hWX⟩ : ∃ WX, WX = wr.alloc (.cells #[.int .i64 p, .bool j, .int .i64 s, .int .i64 h, .slice A L.length c, .int .i64 ke, .int .i64 kn, .slice sA2 ks.length sc2, .slice qA2 kq.length qc2, .int .i64 kh] 65) := ⟨_, rfl⟩
        have HF0 := Lib.hid (show WX.heap[wr.heap.size]? = some (.cells #[.int .i64 p, .bool j, .int .i64 s, .int .i64 h, .slice A L.length c, .int .i64 ke, .int .i64 kn, .slice sA2 ks.length sc2, .slice qA2 kq.length qc2, .int .i64 kh] 65 (0, 0)) by rw [hWX]; exact World.alloc_heap_new _ _)
        have HBX := Lib.hid (show Below wr.heap.size wr WX by rw [hWX]; exact bAlloc (Below.refl _ _) _)
        have hzX : WX.heap.size = wr.heap.size + 1 := by rw [hWX]; simp
        have HWX := Lib.hid hWX.symm
        clear hWX
        go_wp2_with fail
        rw [HWX.out]
        refine (HCO.out WX (HXI.out.ops.later HBX.out)).mono ?_
        rintro e w2 ⟨A1, c1', L1, rfl, hd1, ho1, hb2⟩
        have hzw2 := hb2.size
        have hF2w := (hb2.block wr.heap.size (by omega)).trans HF0.out
        obtain ⟨F, hF⟩ : ∃ F, F = wr.heap.size := ⟨_, rfl⟩
        rw [← hF] at hF2w
        obtain ⟨y0, y1, y2, y3, y4, y5, y6, y7, y8, y9, yz⟩ := ten_cell hF2w
        have q4 := tenF hF2w 4
        obtain ⟨W3, hW3⟩ : ∃ W3, W3 = w2.setCell ⟨F, 4, none⟩ (.slice A1 L1.length c1') := ⟨_, rfl⟩
        have HF3 := Lib.hid (show W3.heap[F]? = some (.cells #[.int .i64 p, .bool j, .int .i64 s, .int .i64 h, .slice A1 L1.length c1', .int .i64 ke, .int .i64 kn, .slice sA2 ks.length sc2, .slice qA2 kq.length qc2, .int .i64 kh] 65 (0, 0)) by rw [hW3]; exact any_set 4 _ hF2w)
        have HB3 := Lib.hid (show Below wr.heap.size wr W3 by rw [hW3]; exact bSet (bThen HBX.out hb2) (p := ⟨F, 4, none⟩) (by show wr.heap.size ≤ F; omega) _)
        have HO3 := Lib.hid (show OpsOwn W3 WX.heap.size A1 c1' L1 by rw [hW3]; exact ho1.kept (by simp [World.setCell]) (fun b hb hl => Below.heap_setCell _ _ _ _ (by show b ≠ F; omega)))
        have HD1 := Lib.hid hd1
        have hz3 : W3.heap.size = w2.heap.size := by rw [hW3]; simp [World.setCell]
        have HW3 := Lib.hid hW3.symm
        rw [← hF]
        have HFE := Lib.hid hF
        clear hd1 ho1 hb2 hF2w hW3 hF
        go_wp2_with fail
        clear y0 y1 y2 y3 y4 y5 y6 y7 y8 y9 yz q4
        rw [HW3.out]
        obtain ⟨y0, y1, y2, y3, y4, y5, y6, y7, y8, y9, yz⟩ := ten_cell HF3.out
        have q7 := tenF HF3.out 7
        have q8 := tenF HF3.out 8
        have HS3 := Lib.hid (HXI.out.link.s.later HB3.out)
        have HQ3 := Lib.hid (HXI.out.link.q.later HB3.out)
        go_region_law (first
          | (go_simp; go_at_call 99; (with_reducible refine (HC1.out _ ?_).mono ?_); exact HS3.out.later (by repeat (first | exact Below.refl _ _ | apply bGrow | apply bAlloc | apply Below.drew | apply bDrewN | apply bIter)); rintro e w4 ⟨A2, c2, L2, rfl, hd2, ho2, hb2⟩; have HB4 : Below W3.heap.size W3 w4 := bThen (by repeat (first | exact Below.refl _ _ | apply bAlloc | apply Below.drew)) hb2
             have HF4 := (HB4.block _ yz).trans HF3.out; obtain ⟨z0, z1, z2, z3, z4, z5, z6, z7, z8, z9, zz⟩ := ten_cell HF4; have v7 := tenF HF4 7; have v8 := tenF HF4 8)
          | (go_simp; go_at_call 99; (with_reducible refine (HC2.out _ ?_).mono ?_); exact HQ3.out.later (bThen HB4 (by repeat (first | exact Below.refl _ _ | apply bAlloc | apply Below.drew))); rintro e w5 ⟨A3, c3, L3, rfl, hd3, ho3, hb3⟩; have HB5 : Below w4.heap.size w4 w5 := bThen (by repeat (first | exact Below.refl _ _ | apply bAlloc | apply Below.drew)) hb3
             have HF5 := (HB5.block _ zz).trans HF4; obtain ⟨p0, p1, p2, p3, p4, p5, p6, p7, p8, p9, pz⟩ := ten_cell HF5; have t7 := tenF HF5 7; have t8 := tenF HF5 8))
        all_goals (
          refine post_hide (fun G => G.heap[F]? = some (.cells #[.int .i64 p, .bool j, .int .i64 s, .int .i64 h, .slice A1 L1.length c1', .int .i64 ke, .int .i64 kn, .slice A2 L2.length c2, .slice A3 L3.length c3, .int .i64 kh] 65 (0, 0)) ∧ Below wr.heap.size wr G ∧ (⟨p, j, s, h, A1, c1', L1, ⟨ke, kn, A2, c2, L2, A3, c3, L3, kh⟩⟩ : SideV).InS (fun b => wr.heap.size ≤ b ∧ b < G.heap.size) G) ⟨any_set 8 _ (any_set 7 _ HF5), ?_, ?_⟩ ?_
          · have := HFE.out
            exact bSet (bSet (bThen HB3.out (bThen HB4 HB5)) (p := ⟨F, 7, none⟩) (by show wr.heap.size ≤ F; omega) _) (p := ⟨F, 8, none⟩) (by show wr.heap.size ≤ F; omega) _
          · have hfe := HFE.out
            have hG : ∀ b, b ≠ F → ((w5.setCell ⟨F, 7, none⟩ (.slice A2 L2.length c2)).setCell ⟨F, 8, none⟩ (.slice A3 L3.length c3)).heap[b]? = w5.heap[b]? := fun b hb => (Below.heap_setCell _ ⟨F, 8, none⟩ _ b hb).trans (Below.heap_setCell _ ⟨F, 7, none⟩ _ b hb)
            have e1 := HB4.size
            have e2 := HB5.size
            have k1 := OpsOwn.kept HO3.out (w' := (w5.setCell ⟨F, 7, none⟩ (.slice A2 L2.length c2)).setCell ⟨F, 8, none⟩ (.slice A3 L3.length c3)) (by simp [World.setCell]; omega) (fun b hb hl => (hG b (by omega)).trans ((HB5.block b (by omega)).trans (HB4.block b hl)))
            have k2 := RowOwn.kept ho2 (w' := (w5.setCell ⟨F, 7, none⟩ (.slice A2 L2.length c2)).setCell ⟨F, 8, none⟩ (.slice A3 L3.length c3)) (by simp [World.setCell]; omega) (fun b hb hl => (hG b (by (try simp at hb); omega)).trans (HB5.block b hl))
            have k3 := RowOwn.kept ho3 (w' := (w5.setCell ⟨F, 7, none⟩ (.slice A2 L2.length c2)).setCell ⟨F, 8, none⟩ (.slice A3 L3.length c3)) (by simp [World.setCell]) (fun b hb hl => hG b (by (try simp at hb); omega))
            exact SideV.InS.of k1 (by omega) k2 (by (try simp); omega) k3 (by (try simp); omega)
          rintro G ⟨hG1, hG2, hG3⟩
          have HD2 := Lib.hid hd2
          have HD3 := Lib.hid hd3
          clear hd2 ho2 hb2 HB4 HF4 z0 z1 z2 z3 z4 z5 z6 z7 z8 z9 zz v7 v8 hd3 ho3 hb3 HB5 HF5 p0 p1 p2 p3 p4 p5 p6 p7 p8 p9 pz t7 t8 y0 y1 y2 y3 y4 y5 y6 y7 y8 y9 yz q7 q8 n0 n1 n2 n3 n4 n5 n6 n7 nz ce0 ce1 ce2 ce3 ce4 ce5 ce6 ce7 ce8 ce9
          have HG1 := Lib.hid hG1
          have HG2 := Lib.hid hG2
          have HG3 := Lib.hid hG3
          have HXG := Lib.hid (HX.out.later hG2)
          obtain ⟨y0, y1, y2, y3, y4, y5, y6, y7, y8, y9, yz⟩ := ten_cell hG1
          obtain ⟨x0, x1, x2, x3, x4, x5, x6, x7, xz⟩ := eight_cell HXG.out.x
          have hzG := hG2.size
          clear hG1 hG2 hG3
          go_wp2_with (refine stop_append rfl ?_)
          refine ⟨?_⟩
          have HRX := Lib.hid ((SidesOwn.kept HS.out HG2.out.size (fun b _ hl => HG2.out.block b hl)).row.alloc (.cells #[.int .i64 p, .bool j, .int .i64 s, .int .i64 h, .slice A1 L1.length c1', .int .i64 ke, .int .i64 kn, .slice A2 L2.length c2, .slice A3 L3.length c3, .int .i64 kh] 65))
          refine wpList_append_sl _ rfl _ _ 24 rfl B0 65 i0 (.agg #[.int .i64 0, .bool false, .int .i64 0, .int .i64 0, .slice none 0 0, .int .i64 0, .int .i64 0, .slice none 0 0, .slice none 0 0, .int .i64 0]) 10 128 Tryd.underlying24 hi0 hz0 hz1 hz2 rfl (by decide) _ _ _ rfl HRX.out (fun _ => True) _ _ _ _ rfl (row_top (by rfl) (by simp)) ?c1 ?c2 ?c3 ?c4 ?_
          case c1 => intro u hu; simp at hu; rcases hu with rfl | rfl | rfl | rfl | rfl | rfl | rfl | rfl | rfl | rfl <;> rfl
          case c2 => have := hL'.out; unfold maxLen; omega
          case c3 => have := hL'.out; omega
          case c4 => have := hbz.out; simp; omega
          intro A' c' w3 hown' hgrow hat
          have HLN := Lib.hid (show (L' ++ [(⟨p, j, s, h, A1, c1', L1, ⟨ke, kn, A2, c2, L2, A3, c3, L3, kh⟩⟩ : SideV)]).length = L'.length + 1 by simp)
          have hP := SidesOwn.push (x := (⟨p, j, s, h, A1, c1', L1, ⟨ke, kn, A2, c2, L2, A3, c3, L3, kh⟩⟩ : SideV)) HS.out hbz.out (fun b _ hl => HG2.out.block b hl) HG2.out.size HG3.out hgrow hown' hat
          have hlow : ∀ g, (Value.slice Ao L'.length co).ownBlock = some g → B0 ≤ g := fun g hg => (HS.out.row.lt g hg).1
          have hsz3 := hgrow.size
          have hkp : ∀ b, b < wr.heap.size → b < B0 → w3.heap[b]? = wr.heap[b]? := fun b hl hb => (hgrow.block b (by simp; omega) (fun e => by have := hlow b e.symm; omega)).trans ((heap_alloc_old _ _ b (by omega)).trans (HG2.out.block b hl))
          have HX3 := Lib.hid (show OwnAt w R X #[.int .i64 me, .int .i64 ep, .int .i64 up, .bool rd, .string t, .slice (some ⟨b, o, none⟩) S.length sc, .slice uA U.length uc, .slice mA M.length mc] #[.int .i64 me, .int .i64 ep, .int .i64 up, .bool rd, .string t, .slice Ao L'.length co, .slice none 0 0, .slice A7 M.length c7] w3 from by
            have h1 := HX.out.wr
            have h2 := HX.out.rx
            have h3 := HX.out.xz
            refine ⟨(hkp _ (by omega) (by omega)).trans HX.out.nd, (hkp _ (by omega) (by omega)).trans HX.out.r, (hkp _ (by omega) (by omega)).trans HX.out.x, push_frame HX.out.b HG2.out hgrow (fun g hg => by have := hlow g hg; omega), h1, h2, by simp at hsz3; omega⟩)
          have HOL3 := Lib.hid (show ∀ b, X < b → b < B0 → w3.heap[b]? = WB.heap[b]? from fun b h1 h2 => (hkp b (by have := hbz.out; omega) h2).trans (hold.out b h1 h2))
          have HZ3 := Lib.hid (show B0 ≤ w3.heap.size by have := hbz.out; simp at hsz3; omega)
          have HP := Lib.hid hP
          clear hown' hgrow hat hP hlow hsz3 hkp y0 y1 y2 y3 y4 y5 y6 y7 y8 y9 yz x0 x1 x2 x3 x4 x5 x6 x7 xz
          obtain ⟨x0, x1, x2, x3, x4, x5, x6, x7, xz⟩ := eight_cell HX3.out.x
          have r5 := tenF HX3.out.x 5
          go_wp2_with fail
          have HG4 := Lib.hid (HX3.out.set 5 (.slice A' (L'.length + 1) c'))
          have HG5 := Lib.hid (HP.out.kept (w' := w3.setCell ⟨X, 5, none⟩ (.slice A' (L'.length + 1) c')) (by simp [World.setCell]) (fun b hb hl => Below.heap_setCell _ _ _ _ (by show b ≠ X; omega)))
          have HG6 := Lib.hid (show B0 ≤ (w3.setCell ⟨X, 5, none⟩ (.slice A' (L'.length + 1) c')).heap.size by simpa [World.setCell] using HZ3.out)
          have HG7 := Lib.hid (show ∀ b, X < b → b < B0 → (w3.setCell ⟨X, 5, none⟩ (.slice A' (L'.length + 1) c')).heap[b]? = WB.heap[b]? from fun b h1 h2 => (Below.heap_setCell _ _ _ _ (by show b ≠ X; omega)).trans (HOL3.out b h1 h2))
          clear x0 x1 x2 x3 x4 x5 x6 x7 xz r5
          go_roundw
          case rel => exact ⟨k + 1, L' ++ [(⟨p, j, s, h, A1, c1', L1, ⟨ke, kn, A2, c2, L2, A3, c3, L3, kh⟩⟩ : SideV)], A', c', by omega, by go_num, Lib.hid (by rw [HLN.out, hL'.out]), Lib.hid (by rw [List.map_append, hps.out, HTK.out]; show _ ++ [(⟨p, j, s, h, L1.map OpV.ps, ⟨ke, kn, L2.map FrameV.d, L3.map FrameV.d, kh⟩⟩ : SideD)] = _; rw [HD1.out, HD2.out, HD3.out]), Lib.hid (by rw [HLN.out]; exact HG4.out), HG5, HG6, HG7⟩
          case measure => simp [intOf]; omega)
      · obtain rfl : k = S.length := by omega
        have HPP := Lib.hid (show L'.map SideV.d = S.map SideV.d by rw [hps.out, List.take_length])
        go_wp2_with fail
        refine (HCU.out _ (OpsIn.later HI.out.undo HX.out.b)).mono ?_
        rintro e w5 ⟨A8, c8, L8, rfl, hd8, ho8, hb8⟩
        have H8 := Lib.hid (HX.out.later hb8)
        clear n0 n1 n2 n3 n4 n5 n6 n7 nz
        obtain ⟨x0, x1, x2, x3, x4, x5, x6, x7, xz⟩ := eight_cell H8.out.x
        have r6 := tenF H8.out.x 6
        have HD8 := Lib.hid hd8
        have HO8 := Lib.hid ho8
        have HB8 := Lib.hid hb8
        clear hd8 ho8 hb8
        obtain ⟨r0, r1, r2, r3, r4, r5, r6', r7, rz⟩ := eight_cell H8.out.r
        obtain ⟨s0, s1, s2, s3, s4, s5, s6, s7⟩ := eight_cellF H8.out.r
        have hwR : w.heap.size < R := H8.out.wr
        have hRX : R < X := H8.out.rx
        have hn1 : ¬ R = X := by omega
        have hn2 : ¬ X = R := by omega
        go_wp2_with fail
        obtain ⟨W8, hW8⟩ : ∃ W8, W8 = w5.setCell ⟨X, 6, none⟩ (.slice A8 L8.length c8) := ⟨_, rfl⟩
        rw [← hW8]
        have hO1 : Only X w5 W8 := by rw [hW8]; exact Only.set _ _ _
        have hR8 : W8.heap[R]? = some (.cells #[.int .i64 0, .int .i64 0, .int .i64 0, .bool false, .string ⟨#[]⟩, .slice none 0 0, .slice none 0 0, .slice none 0 0] 28 (0, 0)) := (hO1.block R (by omega) (by omega)).trans H8.out.r
        obtain ⟨W9, hW9⟩ : ∃ W9, W9 = (((((((W8.setCell ⟨R, 0, none⟩ (.int .i64 me)).setCell ⟨R, 1, none⟩ (.int .i64 ep)).setCell ⟨R, 2, none⟩ (.int .i64 up)).setCell ⟨R, 3, none⟩ (.bool rd)).setCell ⟨R, 4, none⟩ (.string t)).setCell ⟨R, 5, none⟩ (.slice Ao L'.length co)).setCell ⟨R, 6, none⟩ (.slice A8 L8.length c8)).setCell ⟨R, 7, none⟩ (.slice A7 M.length c7) := ⟨_, rfl⟩
        rw [← hW9]
        have hO2 : Only R W8 W9 := by rw [hW9]; exact (((((((Only.set _ _ _).trans (Only.set _ _ _)).trans (Only.set _ _ _)).trans (Only.set _ _ _)).trans (Only.set _ _ _)).trans (Only.set _ _ _)).trans (Only.set _ _ _)).trans (Only.set _ _ _)
        have hR9 : W9.heap[R]? = some (.cells #[.int .i64 me, .int .i64 ep, .int .i64 up, .bool rd, .string t, .slice Ao L'.length co, .slice A8 L8.length c8, .slice A7 M.length c7] 28 (0, 0)) := by
          rw [hW9]
          exact any_set 7 _ (any_set 6 _ (any_set 5 _ (any_set 4 _ (any_set 3 _ (any_set 2 _ (any_set 1 _ (any_set 0 _ hR8)))))))
        clear hW8 hW9 hR8
        have z1 := hO1.size
        have z2 := hO2.size
        have z3 := HB8.out.size
        have z4 := hbz.out
        have hkp : ∀ b, X < b → b < w5.heap.size → W9.heap[b]? = w5.heap[b]? := fun b h1 h2 => (hO2.block b (by omega) (by omega)).trans (hO1.block b h2 (by omega))
        have k1 := ((HS.out.kept z3 (fun b _ hl => HB8.out.block b hl)).kept (w' := W9) (by omega) (fun b hb hl => hkp b (by omega) hl)).inS (B := w.heap.size) (by omega)
        have k2 := (OpsS.of (HO8.out.kept (w' := W9) (by omega) (fun b hb hl => hkp b (by omega) hl))).moved (S' := fun b => w.heap.size ≤ b ∧ b < W9.heap.size) (fun b hb => ⟨⟨by have := hb.1; omega, hb.2⟩, rfl⟩)
        have k3 : Sl (fun b => w.heap.size ≤ b ∧ b < W9.heap.size) W9 2 A7 M.length (M.flatMap markCells) := HM7.out.moved fun b hb => by
          have q1 := hb.1
          have q2 := hb.2
          exact ⟨⟨by omega, by omega⟩, (hkp b q1 (by omega)).trans ((HB8.out.block b (by omega)).trans (hold.out b q1 q2))⟩
        have k4 : Below w.heap.size w W9 := H8.out.b.trans ((hO1.below (by omega) (by omega)).trans (hO2.below (by omega) (by omega)))
        refine post_hide (fun G => G.heap[R]? = some (.cells #[.int .i64 me, .int .i64 ep, .int .i64 up, .bool rd, .string t, .slice Ao L'.length co, .slice A8 L8.length c8, .slice A7 M.length c7] 28 (0, 0)) ∧ (⟨me, ep, up, rd, t, Ao, co, L', A8, c8, L8, A7, c7, M⟩ : NodeV).InS (fun b => w.heap.size ≤ b ∧ b < G.heap.size) G ∧ Below w.heap.size w G) ⟨hR9, ⟨k1.1, k1.2, k2, k3⟩, k4⟩ ?_
        rintro G ⟨j1, j2, j5⟩
        clear r0 r1 r2 r3 r4 r5 r6' r7 rz s0 s1 s2 s3 s4 s5 s6 s7 x0 x1 x2 x3 x4 x5 x6 x7 xz
        obtain ⟨r0, r1, r2, r3, r4, r5, r6', r7, rz⟩ := eight_cell j1
        refine bodyPost_ret (v := (⟨me, ep, up, rd, t, Ao, co, L', A8, c8, L8, A7, c7, M⟩ : NodeV).val) (by simp [results, Tryd.results84, go_sem, r0, r1, r2, r3, r4, r5, r6', r7]) rfl ?_
        exact ⟨⟨me, ep, up, rd, t, Ao, co, L', A8, c8, L8, A7, c7, M⟩, rfl, by simp only [NodeV.d, HPP.out, HD8.out], j2, j5⟩)
end Go.Proofs.YtbmdepbmejnlkaaDoor
