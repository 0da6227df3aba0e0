/-
  Contract of node.Select.
  Contract of node.Select: where it refuses.
-/
import Derived.Test.YtbmdepbmejnlkaaDoorRows
import Derived.Test.YtbmdepbmejnlkaaDoorBL
import Derived.Test.YtbmdepbmejnlkaaDoorBK
namespace Go.Proofs.YtbmdepbmejnlkaaDoor
open Go.ChangeShapes Go.WideShapes Go.ChangeAt Go.RowKit
set_option maxRecDepth 100000
/-- A call that hands back a turn without posts and records, and an error. -/
def RetTurn0 (w : World) (d : NodeD) (er : Int) (e : Ending) (w' : World) : Prop :=
  ∃ n : NodeV, e = .returned (.tuple #[.agg (turnCells n (.slice none 0 0) (.slice none 0 0)), .int .i64 er]) ∧ n.d = d ∧ n.InS (fun b => w.heap.size ≤ b ∧ b < w'.heap.size) w' ∧ Below w.heap.size w w'
theorem zeroN_inS (S : Nat → Prop) (w : World) : zeroN.InS S w := ⟨Sl.nil, (by intro x hx; cases hx), ⟨Sl.nil, (by intro x hx; cases hx)⟩, Sl.nil⟩
theorem workNode_c (w : World) (X : Nat) : Calls Tryd.prog 39 #[.pointer (some ⟨X, 0, none⟩)] w fun e w' => e = .returned (.pointer (some ⟨X, 0, none⟩)) ∧ w = w' := by
  go_enter Tryd.func39, Tryd.ntmps39
  go_wp2
  go_ret
  simp
/-- The blocks of a call of Select: the node that came, the mark, and the turn that goes. -/
structure SelAt (w : World) (R : Nat) (nv : Array Value) (a h : Int) (W : World) : Prop where
  nd : W.heap[w.heap.size]? = some (.cells nv 28 (0, 0))
  mc : W.heap[w.heap.size + 1]? = some (.cells #[.int .i64 a, .int .i64 h] 52 (0, 0))
  r : W.heap[R]? = some (.cells #[.int .i64 0, .int .i64 0, .int .i64 0, .bool false, .string ⟨#[]⟩, .slice none 0 0, .slice none 0 0, .slice none 0 0, .slice none 0 0, .slice none 0 0] 35 (0, 0))
  b : Below w.heap.size w W
  hr : w.heap.size + 1 < R
  rz : R < W.heap.size
theorem SelAt.later {w W W' : World} {R : Nat} {nv : Array Value} {a h : Int} (k : SelAt w R nv a h W) (hb : Below W.heap.size W W') : SelAt w R nv a h W' := by
  have h1 := k.hr
  have h2 := k.rz
  have h3 := hb.size
  exact ⟨(hb.block _ (by omega)).trans k.nd, (hb.block _ (by omega)).trans k.mc, (hb.block _ h2).trans k.r, bThen k.b hb, h1, by omega⟩
theorem SelAt.set {w W : World} {R : Nat} {nv : Array Value} {a h : Int} (k : SelAt w R nv a h W) {X j : Nat} {v : Value} (hX : R < X) : SelAt w R nv a h (W.setCell ⟨X, j, none⟩ v) := by
  have h1 := k.hr
  have h2 := k.rz
  exact ⟨(Below.heap_setCell _ _ _ _ (by show w.heap.size ≠ X; omega)).trans k.nd, (Below.heap_setCell _ _ _ _ (by show w.heap.size + 1 ≠ X; omega)).trans k.mc, (Below.heap_setCell _ _ _ _ (by show R ≠ X; omega)).trans k.r, bSet k.b (p := ⟨X, j, none⟩) (by show w.heap.size ≤ X; omega) v, h1, by simpa [World.setCell] using h2⟩
theorem SelAt.new (w : World) (nv : Array Value) (a h : Int) : SelAt w (w.heap.size + 1 + 1) nv a h (((w.alloc (.cells nv 28)).alloc (.cells #[.int .i64 a, .int .i64 h] 52)).alloc (.cells #[.int .i64 0, .int .i64 0, .int .i64 0, .bool false, .string ⟨#[]⟩, .slice none 0 0, .slice none 0 0, .slice none 0 0, .slice none 0 0, .slice none 0 0] 35)) := by
  refine ⟨(heap_alloc_old _ _ _ (by simp)).trans ((heap_alloc_old _ _ _ (by simp)).trans (World.alloc_heap_new _ _)), (heap_alloc_old _ _ _ (by simp)).trans ?_, ?_, bAlloc (bAlloc (bAlloc (Below.refl _ _) _) _) _, by omega, by simp⟩
  · have := World.alloc_heap_new (w.alloc (.cells nv 28)) (.cells #[.int .i64 a, .int .i64 h] 52)
    rwa [World.size_alloc] at this
  · have := World.alloc_heap_new ((w.alloc (.cells nv 28)).alloc (.cells #[.int .i64 a, .int .i64 h] 52)) (.cells #[.int .i64 0, .int .i64 0, .int .i64 0, .bool false, .string ⟨#[]⟩, .slice none 0 0, .slice none 0 0, .slice none 0 0, .slice none 0 0, .slice none 0 0] 35)
    rwa [World.size_alloc, World.size_alloc] at this
theorem ten_sets {w : World} {R : Nat} {z0 z1 z2 z3 z4 z5 z6 z7 z8 z9 : Value} {t : TypeId} (h : w.heap[R]? = some (.cells #[z0, z1, z2, z3, z4, z5, z6, z7, z8, z9] t (0, 0))) (v0 v1 v2 v3 v4 v5 v6 v7 v8 v9 : Value) :
    ((((((((((w.setCell ⟨R, 0, none⟩ v0).setCell ⟨R, 1, none⟩ v1).setCell ⟨R, 2, none⟩ v2).setCell ⟨R, 3, none⟩ v3).setCell ⟨R, 4, none⟩ v4).setCell ⟨R, 5, none⟩ v5).setCell ⟨R, 6, none⟩ v6).setCell ⟨R, 7, none⟩ v7).setCell ⟨R, 8, none⟩ v8).setCell ⟨R, 9, none⟩ v9).heap[R]? = some (.cells #[v0, v1, v2, v3, v4, v5, v6, v7, v8, v9] t (0, 0)) := by
  have h0 : (w.setCell ⟨R, 0, none⟩ v0).heap[R]? = some (.cells #[v0, z1, z2, z3, z4, z5, z6, z7, z8, z9] t (0, 0)) := any_set 0 v0 h
  generalize w.setCell ⟨R, 0, none⟩ v0 = w0 at *
  have h1 : (w0.setCell ⟨R, 1, none⟩ v1).heap[R]? = some (.cells #[v0, v1, z2, z3, z4, z5, z6, z7, z8, z9] t (0, 0)) := any_set 1 v1 h0
  generalize w0.setCell ⟨R, 1, none⟩ v1 = w1 at *
  have h2 : (w1.setCell ⟨R, 2, none⟩ v2).heap[R]? = some (.cells #[v0, v1, v2, z3, z4, z5, z6, z7, z8, z9] t (0, 0)) := any_set 2 v2 h1
  generalize w1.setCell ⟨R, 2, none⟩ v2 = w2 at *
  have h3 : (w2.setCell ⟨R, 3, none⟩ v3).heap[R]? = some (.cells #[v0, v1, v2, v3, z4, z5, z6, z7, z8, z9] t (0, 0)) := any_set 3 v3 h2
  generalize w2.setCell ⟨R, 3, none⟩ v3 = w3 at *
  have h4 : (w3.setCell ⟨R, 4, none⟩ v4).heap[R]? = some (.cells #[v0, v1, v2, v3, v4, z5, z6, z7, z8, z9] t (0, 0)) := any_set 4 v4 h3
  generalize w3.setCell ⟨R, 4, none⟩ v4 = w4 at *
  have h5 : (w4.setCell ⟨R, 5, none⟩ v5).heap[R]? = some (.cells #[v0, v1, v2, v3, v4, v5, z6, z7, z8, z9] t (0, 0)) := any_set 5 v5 h4
  generalize w4.setCell ⟨R, 5, none⟩ v5 = w5 at *
  have h6 : (w5.setCell ⟨R, 6, none⟩ v6).heap[R]? = some (.cells #[v0, v1, v2, v3, v4, v5, v6, z7, z8, z9] t (0, 0)) := any_set 6 v6 h5
  generalize w5.setCell ⟨R, 6, none⟩ v6 = w6 at *
  have h7 : (w6.setCell ⟨R, 7, none⟩ v7).heap[R]? = some (.cells #[v0, v1, v2, v3, v4, v5, v6, v7, z8, z9] t (0, 0)) := any_set 7 v7 h6
  generalize w6.setCell ⟨R, 7, none⟩ v7 = w7 at *
  have h8 : (w7.setCell ⟨R, 8, none⟩ v8).heap[R]? = some (.cells #[v0, v1, v2, v3, v4, v5, v6, v7, v8, z9] t (0, 0)) := any_set 8 v8 h7
  generalize w7.setCell ⟨R, 8, none⟩ v8 = w8 at *
  exact any_set 9 v9 h8
set_option maxHeartbeats 1000000 in
theorem Select_ok (w : World) (T : Option Addr) (N Nc : Nat) (zs : List Int) (n : NodeV) (a h : Int) (hT : Tabs w) (hi : n.In w) (hm : n.Small) (hz : Sl (· < w.heap.size) w 1 T N (zs.map (Value.int .i64))) (hN : N ≤ 9223372036854775807) (h0 : nodeFault zs n = 0) (hrd : n.rd = true) (hmk : markOk (runesI n.t) (a, h)) :
    Calls Tryd.prog 19 #[.slice T N Nc, n.val, markV (a, h)] w (RetTurn0 w ⟨n.me, n.ep, n.up, n.rd, n.t, n.S.map SideV.d, n.U.map OpV.ps, [(a, h)]⟩ 0) := by
  obtain ⟨me, ep, up, rd, t, sA, sc, S, uA, uc, U, mA, mc, M⟩ := n
  dsimp only at hrd hmk
  subst hrd
  have H1 := Lib.hid (fun W hT (hi : NodeV.In W ⟨me, ep, up, true, t, sA, sc, S, uA, uc, U, mA, mc, M⟩) hz => begin_ok W T N Nc zs ⟨me, ep, up, true, t, sA, sc, S, uA, uc, U, mA, mc, M⟩ hT hi hm hz hN h0)
  have HRC := Lib.hid (fun W => runeCount_c t W hm.text)
  have HT := Lib.hid hT
  have HZ := Lib.hid hz
  have HI := Lib.hid hi
  obtain ⟨⟨m1, m2⟩, m3, m4⟩ := hmk
  unfold runesI at m2 m4
  generalize (Lib.runeCount t : Int) = rc at *
  have c1 : decide (a < 0) = false := by simpa using m1
  have c2 : decide (rc < a) = false := by simpa using m2
  have c3 : decide (h < 0) = false := by simpa using m3
  have c4 : decide (rc < h) = false := by simpa using m4
  clear m1 m2 m3 m4 hT hz hi hm h0
  have HA := Lib.hid (SelAt.new w #[.int .i64 me, .int .i64 ep, .int .i64 up, .bool true, .string t, .slice sA S.length sc, .slice uA U.length uc, .slice mA M.length mc] a h)
  obtain ⟨WA, hWA⟩ : ∃ WA, WA = (((w.alloc (.cells #[.int .i64 me, .int .i64 ep, .int .i64 up, .bool true, .string t, .slice sA S.length sc, .slice uA U.length uc, .slice mA M.length mc] 28)).alloc (.cells #[.int .i64 a, .int .i64 h] 52)).alloc (.cells #[.int .i64 0, .int .i64 0, .int .i64 0, .bool false, .string ⟨#[]⟩, .slice none 0 0, .slice none 0 0, .slice none 0 0, .slice none 0 0, .slice none 0 0] 35)) := ⟨_, rfl⟩
  rw [← hWA] at HA
  have HW := Lib.hid hWA.symm
  obtain ⟨R, hR⟩ : ∃ R, R = w.heap.size + 1 + 1 := ⟨_, rfl⟩
  rw [← hR] at HA
  have HRE := Lib.hid hR.symm
  clear hWA hR
  go_enter Tryd.func19, Tryd.ntmps19
  go_wp2_with fail
  rw [HW.out, HRE.out]
  refine (H1.out _ (HT.out.later HA.out.b) (HI.out.later HA.out.b) (Sl.later HZ.out HA.out.b)).mono ?_
  rintro r w1 ⟨X, n', rfl, hd, hX, hx, hin, hb1⟩
  have HB := Lib.hid (HA.out.later hb1)
  obtain ⟨n0, n1, n2, n3, n4, n5, n6, n7, nz⟩ := eight_cell HB.out.nd
  obtain ⟨me', ep', up', rd', t', sA', sc', S', uA', uc', U', mA', mc', M'⟩ := n'
  simp only [NodeV.d, NodeD.mk.injEq] at hd
  obtain ⟨e1, e2, e3, e4, e5, hd6, hd7, -⟩ := hd
  have e1 := e1.symm
  have e2 := e2.symm
  have e3 := e3.symm
  have e5 := e5.symm
  subst e1 e2 e3 e4 e5
  have HIN := Lib.hid hin
  have HX := Lib.hid hx
  have HB1 := Lib.hid hb1
  have HD6 := Lib.hid hd6
  have HD7 := Lib.hid hd7
  clear hb1 hin hx hd6 hd7
  go_wp2_with fail
  refine (HRC.out _).mono ?_
  rintro r w2 ⟨rfl, hb2⟩
  have HC := Lib.hid (HB.out.later hb2)
  have HX2 := Lib.hid ((hb2.block _ (Array.getElem?_eq_some_iff.1 HX.out).1).trans HX.out)
  have hXz : X < w2.heap.size := (Array.getElem?_eq_some_iff.1 HX2.out).1
  have HN2 := Lib.hid (HIN.out.moved (S' := fun b => WA.heap.size ≤ b ∧ b < X) fun b hb => ⟨hb, hb2.block b (by have := (Array.getElem?_eq_some_iff.1 HX.out).1; have := hb.2; omega)⟩)
  clear hb2
  obtain ⟨k0, k1, _, _, kz⟩ := two_cell HC.out.mc
  clear n0 n1 n2 n3 n4 n5 n6 n7 nz
  obtain ⟨x0, x1, x2, x3, x4, x5, x6, x7, x8, x9, xz⟩ := ten_cell HX2.out
  have r7 := tenF HX2.out 7
  go_wp2_with fail
  go_region_law (go_simp; go_at_call 39; refine (workNode_c _ X).mono ?_; rintro e w3 ⟨rfl, rfl⟩)
  all_goals (
    have hX1 : w.heap.size ≤ X := by have := HA.out.b.size; omega
    refine post_hide (fun G => ∃ B, SelAt w R #[.int .i64 me, .int .i64 ep, .int .i64 up, .bool true, .string t, .slice sA S.length sc, .slice uA U.length uc, .slice mA M.length mc] a h G ∧ R < X ∧ G.heap[X]? = some (.cells (turnCells ⟨me, ep, up, true, t, sA', sc', S', uA', uc', U', some ⟨B, 0, none⟩, 1, [(a, h)]⟩ (.slice none 0 0) (.slice none 0 0)) 75 (0, 0)) ∧ (⟨me, ep, up, true, t, sA', sc', S', uA', uc', U', some ⟨B, 0, none⟩, 1, [(a, h)]⟩ : NodeV).InS (fun b => WA.heap.size ≤ b ∧ b < G.heap.size) G)
      ⟨w2.heap.size, (HC.out.set (X := X) (j := 7) (v := .slice (some ⟨w2.heap.size, 0, none⟩) 1 1) (by have := HA.out.rz; omega)).later (by repeat (first | exact Below.refl _ _ | apply bAlloc | apply Below.drew)), by have := HA.out.rz; omega, (heap_alloc_old _ _ _ (by simpa [World.setCell] using hXz)).trans (any_set 7 _ HX2.out), ?_⟩ ?_
    · have hz : (w2.setCell ⟨X, 7, none⟩ (.slice (some ⟨w2.heap.size, 0, none⟩) 1 1)).heap.size = w2.heap.size := by simp [World.setCell]
      have hzz : ((w2.setCell ⟨X, 7, none⟩ (.slice (some ⟨w2.heap.size, 0, none⟩) 1 1)).alloc (.cells #[.int .i64 a, .int .i64 h] 52)).heap.size = w2.heap.size + 1 := by simp [World.setCell]
      have k1 := HN2.out.moved (S' := fun b => WA.heap.size ≤ b ∧ b < w2.heap.size + 1) (w' := ((w2.setCell ⟨X, 7, none⟩ (.slice (some ⟨w2.heap.size, 0, none⟩) 1 1)).alloc (.cells #[.int .i64 a, .int .i64 h] 52))) (fun b hb => by
        have t1 := hb.1
        have t2 := hb.2
        exact ⟨⟨t1, by omega⟩, (heap_alloc_old _ _ _ (by rw [hz]; omega)).trans (Below.heap_setCell _ ⟨X, 7, none⟩ _ b (by show b ≠ X; omega))⟩)
      have k3 : Sl (fun b => WA.heap.size ≤ b ∧ b < w2.heap.size + 1) ((w2.setCell ⟨X, 7, none⟩ (.slice (some ⟨w2.heap.size, 0, none⟩) 1 1)).alloc (.cells #[.int .i64 a, .int .i64 h] 52)) 2 (some ⟨w2.heap.size, 0, none⟩) 1 [.int .i64 a, .int .i64 h] := by
        have hq := Sl.new (S := fun b => WA.heap.size ≤ b ∧ b < w2.heap.size + 1) (w2.setCell ⟨X, 7, none⟩ (.slice (some ⟨w2.heap.size, 0, none⟩) 1 1)) [.int .i64 a, .int .i64 h] 52 2 1 rfl (by rw [hz]; omega)
        rw [hz] at hq
        exact hq
      have k4 : (⟨me, ep, up, true, t, sA', sc', S', uA', uc', U', some ⟨w2.heap.size, 0, none⟩, 1, [(a, h)]⟩ : NodeV).InS (fun b => WA.heap.size ≤ b ∧ b < w2.heap.size + 1) ((w2.setCell ⟨X, 7, none⟩ (.slice (some ⟨w2.heap.size, 0, none⟩) 1 1)).alloc (.cells #[.int .i64 a, .int .i64 h] 52)) := ⟨k1.row, k1.each, k1.undo, k3⟩
      exact k4.moved fun b hb => ⟨⟨hb.1, by have := hb.2; simp [World.setCell]; omega⟩, rfl⟩
    rintro G ⟨B, hs, hRX, hx, hin⟩
    have HSG := Lib.hid hs
    have HXG := Lib.hid hx
    have HING := Lib.hid hin
    clear hs hx hin x0 x1 x2 x3 x4 x5 x6 x7 x8 x9 xz r7 k0 k1 kz
    obtain ⟨x0, x1, x2, x3, x4, x5, x6, x7, x8, x9, xz⟩ := ten_cell HXG.out
    obtain ⟨r0, r1, r2, r3, r4, r5, r6, r7, r8, r9, rz⟩ := ten_cell HSG.out.r
    have F0 := tenF HSG.out.r 0
    have F1 := tenF HSG.out.r 1
    have F2 := tenF HSG.out.r 2
    have F3 := tenF HSG.out.r 3
    have F4 := tenF HSG.out.r 4
    have F5 := tenF HSG.out.r 5
    have F6 := tenF HSG.out.r 6
    have F7 := tenF HSG.out.r 7
    have F8 := tenF HSG.out.r 8
    have F9 := tenF HSG.out.r 9
    dsimp only at x0 x1 x2 x3 x4 x5 x6 x7 x8 x9
    go_wp2_with fail
    obtain ⟨W9, hW9⟩ : ∃ W9, W9 = ((((((((((G.setCell ⟨R, 0, none⟩ (.int .i64 me)).setCell ⟨R, 1, none⟩ (.int .i64 ep)).setCell ⟨R, 2, none⟩ (.int .i64 up)).setCell ⟨R, 3, none⟩ (.bool true)).setCell ⟨R, 4, none⟩ (.string t)).setCell ⟨R, 5, none⟩ (.slice sA' S'.length sc')).setCell ⟨R, 6, none⟩ (.slice uA' U'.length uc')).setCell ⟨R, 7, none⟩ (.slice (some ⟨B, 0, none⟩) 1 1)).setCell ⟨R, 8, none⟩ (.slice none 0 0)).setCell ⟨R, 9, none⟩ (.slice none 0 0)) := ⟨_, rfl⟩
    rw [← hW9]
    have hO2 : Only R G W9 := by rw [hW9]; exact (((((((((Only.set _ _ _).trans (Only.set _ _ _)).trans (Only.set _ _ _)).trans (Only.set _ _ _)).trans (Only.set _ _ _)).trans (Only.set _ _ _)).trans (Only.set _ _ _)).trans (Only.set _ _ _)).trans (Only.set _ _ _)).trans (Only.set _ _ _)
    have hR9 : W9.heap[R]? = some (.cells #[.int .i64 me, .int .i64 ep, .int .i64 up, .bool true, .string t, .slice sA' S'.length sc', .slice uA' U'.length uc', .slice (some ⟨B, 0, none⟩) 1 1, .slice none 0 0, .slice none 0 0] 35 (0, 0)) := by
      rw [hW9]
      exact ten_sets HSG.out.r _ _ _ _ _ _ _ _ _ _
    clear hW9
    have k4 := HSG.out.b.trans (hO2.below (by have := HSG.out.hr; omega) (by have := HSG.out.b.size; omega))
    have hRA := HA.out.rz
    have hwA := HA.out.b.size
    have k5 := HING.out.moved (S' := fun b => w.heap.size ≤ b ∧ b < W9.heap.size) (w' := W9) (fun b hb => by
      have t1 := hb.1
      have t2 := hb.2
      exact ⟨⟨by omega, by have := hO2.size; omega⟩, hO2.block b t2 (by omega)⟩)
    refine post_hide (fun H => H.heap[R]? = some (.cells #[.int .i64 me, .int .i64 ep, .int .i64 up, .bool true, .string t, .slice sA' S'.length sc', .slice uA' U'.length uc', .slice (some ⟨B, 0, none⟩) 1 1, .slice none 0 0, .slice none 0 0] 35 (0, 0)) ∧ NodeV.InS (fun b => w.heap.size ≤ b ∧ b < H.heap.size) H ⟨me, ep, up, true, t, sA', sc', S', uA', uc', U', some ⟨B, 0, none⟩, 1, [(a, h)]⟩ ∧ Below w.heap.size w H) ⟨hR9, k5, k4⟩ ?_
    clear hO2 hR9 k4 k5 x0 x1 x2 x3 x4 x5 x6 x7 x8 x9 xz r0 r1 r2 r3 r4 r5 r6 r7 r8 r9 rz F0 F1 F2 F3 F4 F5 F6 F7 F8 F9
    rintro H ⟨j1, j2, j3⟩
    obtain ⟨r0, r1, r2, r3, r4, r5, r6, r7, r8, r9, rz⟩ := ten_cell j1
    refine bodyPost_ret (v := .tuple #[.agg #[.int .i64 me, .int .i64 ep, .int .i64 up, .bool true, .string t, .slice sA' S'.length sc', .slice uA' U'.length uc', .slice (some ⟨B, 0, none⟩) 1 1, .slice none 0 0, .slice none 0 0], .int .i64 0]) (by simp [results, Tryd.results19, go_sem, r0, r1, r2, r3, r4, r5, r6, r7, r8, r9]) rfl ?_
    exact ⟨⟨me, ep, up, true, t, sA', sc', S', uA', uc', U', some ⟨B, 0, none⟩, 1, [(a, h)]⟩, rfl, by simp only [NodeV.d, HD6.out, HD7.out], j2, j3⟩)
end Go.Proofs.YtbmdepbmejnlkaaDoor
namespace Go.Proofs.YtbmdepbmejnlkaaDoor
open Go.ChangeShapes Go.WideShapes Go.ChangeAt Go.RowKit
set_option maxRecDepth 100000
set_option maxHeartbeats 1000000 in
theorem Select_fault (w : World) (T : Option Addr) (N Nc : Nat) (zs : List Int) (n : NodeV) (a h : Int) (hT : Tabs w) (hi : n.In w) (hm : n.Small) (hz : Sl (· < w.heap.size) w 1 T N (zs.map (Value.int .i64))) (hN : N ≤ 9223372036854775807) (er : Int) (h0 : nodeFault zs n = er) (hne : (er == 0) = false) :
    Calls Tryd.prog 19 #[.slice T N Nc, n.val, markV (a, h)] w (RetTurn0 w zeroN.d er) := by
  obtain ⟨me, ep, up, rd, t, sA, sc, S, uA, uc, U, mA, mc, M⟩ := n
  have H1 := Lib.hid (fun W hT (hi : NodeV.In W (⟨me, ep, up, rd, t, sA, sc, S, uA, uc, U, mA, mc, M⟩ : NodeV)) hz => begin_no W T N Nc zs (⟨me, ep, up, rd, t, sA, sc, S, uA, uc, U, mA, mc, M⟩ : NodeV) hT hi hm hz hN er h0 hne)
  have HT := Lib.hid hT
  have HZ := Lib.hid hz
  have HI := Lib.hid hi
  clear hT hz hi hm h0
  have HA := Lib.hid (SelAt.new w #[.int .i64 me, .int .i64 ep, .int .i64 up, .bool rd, .string t, .slice sA S.length sc, .slice uA U.length uc, .slice mA M.length mc] a h)
  obtain ⟨WA, hWA⟩ : ∃ WA, WA = (((w.alloc (.cells #[.int .i64 me, .int .i64 ep, .int .i64 up, .bool rd, .string t, .slice sA S.length sc, .slice uA U.length uc, .slice mA M.length mc] 28)).alloc (.cells #[.int .i64 a, .int .i64 h] 52)).alloc (.cells #[.int .i64 0, .int .i64 0, .int .i64 0, .bool false, .string ⟨#[]⟩, .slice none 0 0, .slice none 0 0, .slice none 0 0, .slice none 0 0, .slice none 0 0] 35)) := ⟨_, rfl⟩
  rw [← hWA] at HA
  have HW := Lib.hid hWA.symm
  obtain ⟨R, hR⟩ : ∃ R, R = w.heap.size + 1 + 1 := ⟨_, rfl⟩
  rw [← hR] at HA
  have HRE := Lib.hid hR.symm
  clear hWA hR
  go_enter Tryd.func19, Tryd.ntmps19
  go_wp2_with fail
  rw [HW.out, HRE.out]
  refine (H1.out _ (HT.out.later HA.out.b) (HI.out.later HA.out.b) (Sl.later HZ.out HA.out.b)).mono ?_
  rintro r w1 ⟨rfl, hb1⟩
  have HB := Lib.hid (HA.out.later hb1)
  clear hb1
  have hne' : (er != 0) = true := by simp [bne, hne]
  obtain ⟨r0, r1, r2, r3, r4, r5, r6, r7, r8, r9, rz⟩ := ten_cell HB.out.r
  have F0 := tenF HB.out.r 0
  have F1 := tenF HB.out.r 1
  have F2 := tenF HB.out.r 2
  have F3 := tenF HB.out.r 3
  have F4 := tenF HB.out.r 4
  have F5 := tenF HB.out.r 5
  have F6 := tenF HB.out.r 6
  have F7 := tenF HB.out.r 7
  have F8 := tenF HB.out.r 8
  have F9 := tenF HB.out.r 9
  go_wp2_with fail
  refine post_hide (fun H => H.heap[R]? = some (.cells #[.int .i64 0, .int .i64 0, .int .i64 0, .bool false, .string ⟨#[]⟩, .slice none 0 0, .slice none 0 0, .slice none 0 0, .slice none 0 0, .slice none 0 0] 35 (0, 0)) ∧ Below w.heap.size w H) ⟨ten_sets HB.out.r _ _ _ _ _ _ _ _ _ _, ?_⟩ ?_
  · have hwR : w.heap.size ≤ R := by have := HB.out.hr; omega
    repeat (refine bSet ?_ (by exact hwR) _)
    exact HB.out.b
  clear r0 r1 r2 r3 r4 r5 r6 r7 r8 r9 rz F0 F1 F2 F3 F4 F5 F6 F7 F8 F9
  rintro H ⟨j1, j3⟩
  obtain ⟨r0, r1, r2, r3, r4, r5, r6, r7, r8, r9, rz⟩ := ten_cell j1
  refine bodyPost_ret (v := .tuple #[.agg #[.int .i64 0, .int .i64 0, .int .i64 0, .bool false, .string ⟨#[]⟩, .slice none 0 0, .slice none 0 0, .slice none 0 0, .slice none 0 0, .slice none 0 0], .int .i64 er]) (by simp [results, Tryd.results19, go_sem, r0, r1, r2, r3, r4, r5, r6, r7, r8, r9]) rfl ?_
  exact ⟨zeroN, rfl, rfl, zeroN_inS _ _, j3⟩
set_option maxHeartbeats 1000000 in
theorem Select_away (w : World) (T : Option Addr) (N Nc : Nat) (zs : List Int) (n : NodeV) (a h : Int) (hT : Tabs w) (hi : n.In w) (hm : n.Small) (hz : Sl (· < w.heap.size) w 1 T N (zs.map (Value.int .i64))) (hN : N ≤ 9223372036854775807) (h0 : nodeFault zs n = 0) (hrd : n.rd = false) :
    Calls Tryd.prog 19 #[.slice T N Nc, n.val, markV (a, h)] w (RetTurn0 w zeroN.d 12) := by
  obtain ⟨me, ep, up, rd, t, sA, sc, S, uA, uc, U, mA, mc, M⟩ := n
  dsimp only at hrd
  subst hrd
  have H1 := Lib.hid (fun W hT (hi : NodeV.In W (⟨me, ep, up, false, t, sA, sc, S, uA, uc, U, mA, mc, M⟩ : NodeV)) hz => begin_ok W T N Nc zs (⟨me, ep, up, false, t, sA, sc, S, uA, uc, U, mA, mc, M⟩ : NodeV) hT hi hm hz hN h0)
  have HT := Lib.hid hT
  have HZ := Lib.hid hz
  have HI := Lib.hid hi
  clear hT hz hi hm h0
  have HA := Lib.hid (SelAt.new w #[.int .i64 me, .int .i64 ep, .int .i64 up, .bool false, .string t, .slice sA S.length sc, .slice uA U.length uc, .slice mA M.length mc] a h)
  obtain ⟨WA, hWA⟩ : ∃ WA, WA = (((w.alloc (.cells #[.int .i64 me, .int .i64 ep, .int .i64 up, .bool false, .string t, .slice sA S.length sc, .slice uA U.length uc, .slice mA M.length mc] 28)).alloc (.cells #[.int .i64 a, .int .i64 h] 52)).alloc (.cells #[.int .i64 0, .int .i64 0, .int .i64 0, .bool false, .string ⟨#[]⟩, .slice none 0 0, .slice none 0 0, .slice none 0 0, .slice none 0 0, .slice none 0 0] 35)) := ⟨_, rfl⟩
  rw [← hWA] at HA
  have HW := Lib.hid hWA.symm
  obtain ⟨R, hR⟩ : ∃ R, R = w.heap.size + 1 + 1 := ⟨_, rfl⟩
  rw [← hR] at HA
  have HRE := Lib.hid hR.symm
  clear hWA hR
  go_enter Tryd.func19, Tryd.ntmps19
  go_wp2_with fail
  rw [HW.out, HRE.out]
  refine (H1.out _ (HT.out.later HA.out.b) (HI.out.later HA.out.b) (Sl.later HZ.out HA.out.b)).mono ?_
  rintro r w1 ⟨X, n', rfl, hd, hX, hx, hin, hb1⟩
  have HB := Lib.hid (HA.out.later hb1)
  obtain ⟨n0, n1, n2, n3, n4, n5, n6, n7, nz⟩ := eight_cell HB.out.nd
  clear hb1 hx hd hin
  obtain ⟨r0, r1, r2, r3, r4, r5, r6, r7, r8, r9, rz⟩ := ten_cell HB.out.r
  have F0 := tenF HB.out.r 0
  have F1 := tenF HB.out.r 1
  have F2 := tenF HB.out.r 2
  have F3 := tenF HB.out.r 3
  have F4 := tenF HB.out.r 4
  have F5 := tenF HB.out.r 5
  have F6 := tenF HB.out.r 6
  have F7 := tenF HB.out.r 7
  have F8 := tenF HB.out.r 8
  have F9 := tenF HB.out.r 9
  go_wp2_with fail
  refine post_hide (fun H => H.heap[R]? = some (.cells #[.int .i64 0, .int .i64 0, .int .i64 0, .bool false, .string ⟨#[]⟩, .slice none 0 0, .slice none 0 0, .slice none 0 0, .slice none 0 0, .slice none 0 0] 35 (0, 0)) ∧ Below w.heap.size w H) ⟨ten_sets HB.out.r _ _ _ _ _ _ _ _ _ _, ?_⟩ ?_
  · have hwR : w.heap.size ≤ R := by have := HB.out.hr; omega
    repeat (refine bSet ?_ (by exact hwR) _)
    exact HB.out.b
  clear r0 r1 r2 r3 r4 r5 r6 r7 r8 r9 rz F0 F1 F2 F3 F4 F5 F6 F7 F8 F9
  rintro H ⟨j1, j3⟩
  obtain ⟨r0, r1, r2, r3, r4, r5, r6, r7, r8, r9, rz⟩ := ten_cell j1
  refine bodyPost_ret (v := .tuple #[.agg #[.int .i64 0, .int .i64 0, .int .i64 0, .bool false, .string ⟨#[]⟩, .slice none 0 0, .slice none 0 0, .slice none 0 0, .slice none 0 0, .slice none 0 0], .int .i64 12]) (by simp [results, Tryd.results19, go_sem, r0, r1, r2, r3, r4, r5, r6, r7, r8, r9]) rfl ?_
  exact ⟨zeroN, rfl, rfl, zeroN_inS _ _, j3⟩
set_option maxHeartbeats 2000000 in
theorem Select_range (w : World) (T : Option Addr) (N Nc : Nat) (zs : List Int) (n : NodeV) (a h : Int) (hT : Tabs w) (hi : n.In w) (hm : n.Small) (hz : Sl (· < w.heap.size) w 1 T N (zs.map (Value.int .i64))) (hN : N ≤ 9223372036854775807) (h0 : nodeFault zs n = 0) (hrd : n.rd = true) (hmk : ¬ markOk (runesI n.t) (a, h)) :
    Calls Tryd.prog 19 #[.slice T N Nc, n.val, markV (a, h)] w (RetTurn0 w zeroN.d 2) := by
  obtain ⟨me, ep, up, rd, t, sA, sc, S, uA, uc, U, mA, mc, M⟩ := n
  dsimp only at hrd hmk
  subst hrd
  have HRC := Lib.hid (fun W => runeCount_c t W hm.text)
  unfold runesI at hmk
  generalize (Lib.runeCount t : Int) = rc at *
  have hq : a < 0 ∨ (0 ≤ a ∧ rc < a) ∨ ((0 ≤ a ∧ a ≤ rc) ∧ h < 0) ∨ ((0 ≤ a ∧ a ≤ rc) ∧ 0 ≤ h ∧ rc < h) := by
    unfold markOk at hmk
    dsimp only at hmk
    omega
  have hB : (decide (a < 0) = true) ∨ (decide (a < 0) = false ∧ decide (rc < a) = true) ∨ (decide (a < 0) = false ∧ decide (rc < a) = false ∧ decide (h < 0) = true) ∨ (decide (a < 0) = false ∧ decide (rc < a) = false ∧ decide (h < 0) = false ∧ decide (rc < h) = true) := by
    rcases hq with h1 | ⟨h1, h2⟩ | ⟨⟨h1, h2⟩, h3⟩ | ⟨⟨h1, h2⟩, h3, h4⟩
    · exact .inl (by simpa using h1)
    · exact .inr (.inl ⟨by simpa using h1, by simpa using h2⟩)
    · exact .inr (.inr (.inl ⟨by simpa using h1, by simpa using h2, by simpa using h3⟩))
    · exact .inr (.inr (.inr ⟨by simpa using h1, by simpa using h2, by simpa using h3, by simpa using h4⟩))
  clear hq hmk
  have H1 := Lib.hid (fun W hT (hi : NodeV.In W (⟨me, ep, up, true, t, sA, sc, S, uA, uc, U, mA, mc, M⟩ : NodeV)) hz => begin_ok W T N Nc zs (⟨me, ep, up, true, t, sA, sc, S, uA, uc, U, mA, mc, M⟩ : NodeV) hT hi hm hz hN h0)
  have HT := Lib.hid hT
  have HZ := Lib.hid hz
  have HI := Lib.hid hi
  clear hT hz hi hm h0
  have HA := Lib.hid (SelAt.new w #[.int .i64 me, .int .i64 ep, .int .i64 up, .bool true, .string t, .slice sA S.length sc, .slice uA U.length uc, .slice mA M.length mc] a h)
  obtain ⟨WA, hWA⟩ : ∃ WA, WA = (((w.alloc (.cells #[.int .i64 me, .int .i64 ep, .int .i64 up, .bool true, .string t, .slice sA S.length sc, .slice uA U.length uc, .slice mA M.length mc] 28)).alloc (.cells #[.int .i64 a, .int .i64 h] 52)).alloc (.cells #[.int .i64 0, .int .i64 0, .int .i64 0, .bool false, .string ⟨#[]⟩, .slice none 0 0, .slice none 0 0, .slice none 0 0, .slice none 0 0, .slice none 0 0] 35)) := ⟨_, rfl⟩
  rw [← hWA] at HA
  have HW := Lib.hid hWA.symm
  obtain ⟨R, hR⟩ : ∃ R, R = w.heap.size + 1 + 1 := ⟨_, rfl⟩
  rw [← hR] at HA
  have HRE := Lib.hid hR.symm
  clear hWA hR
  go_enter Tryd.func19, Tryd.ntmps19
  go_wp2_with fail
  rw [HW.out, HRE.out]
  refine (H1.out _ (HT.out.later HA.out.b) (HI.out.later HA.out.b) (Sl.later HZ.out HA.out.b)).mono ?_
  rintro r w1 ⟨X, n', rfl, hd, hX, hx, hin, hb1⟩
  have HB := Lib.hid (HA.out.later hb1)
  obtain ⟨n0, n1, n2, n3, n4, n5, n6, n7, nz⟩ := eight_cell HB.out.nd
  clear hb1 hx hd hin
  go_wp2_with fail
  refine (HRC.out _).mono ?_
  rintro r w2 ⟨rfl, hb2⟩
  have HB := Lib.hid (HB.out.later hb2)
  clear hb2 n0 n1 n2 n3 n4 n5 n6 n7 nz
  rcases hB with c1 | ⟨c1, c2⟩ | ⟨c1, c2, c3⟩ | ⟨c1, c2, c3, c4⟩
  all_goals (
    obtain ⟨r0, r1, r2, r3, r4, r5, r6, r7, r8, r9, rz⟩ := ten_cell HB.out.r
    obtain ⟨k0, k1, _, _, kz⟩ := two_cell HB.out.mc
    have F0 := tenF HB.out.r 0
    have F1 := tenF HB.out.r 1
    have F2 := tenF HB.out.r 2
    have F3 := tenF HB.out.r 3
    have F4 := tenF HB.out.r 4
    have F5 := tenF HB.out.r 5
    have F6 := tenF HB.out.r 6
    have F7 := tenF HB.out.r 7
    have F8 := tenF HB.out.r 8
    have F9 := tenF HB.out.r 9
    go_wp2_with fail
    refine post_hide (fun H => H.heap[R]? = some (.cells #[.int .i64 0, .int .i64 0, .int .i64 0, .bool false, .string ⟨#[]⟩, .slice none 0 0, .slice none 0 0, .slice none 0 0, .slice none 0 0, .slice none 0 0] 35 (0, 0)) ∧ Below w.heap.size w H) ⟨ten_sets HB.out.r _ _ _ _ _ _ _ _ _ _, ?_⟩ ?_
    · have hwR : w.heap.size ≤ R := by have := HB.out.hr; omega
      repeat (refine bSet ?_ (by exact hwR) _)
      exact HB.out.b
    clear r0 r1 r2 r3 r4 r5 r6 r7 r8 r9 rz F0 F1 F2 F3 F4 F5 F6 F7 F8 F9
    rintro H ⟨j1, j3⟩
    obtain ⟨r0, r1, r2, r3, r4, r5, r6, r7, r8, r9, rz⟩ := ten_cell j1
    refine bodyPost_ret (v := .tuple #[.agg #[.int .i64 0, .int .i64 0, .int .i64 0, .bool false, .string ⟨#[]⟩, .slice none 0 0, .slice none 0 0, .slice none 0 0, .slice none 0 0, .slice none 0 0], .int .i64 2]) (by simp [results, Tryd.results19, go_sem, r0, r1, r2, r3, r4, r5, r6, r7, r8, r9]) rfl ?_
    exact ⟨zeroN, rfl, rfl, zeroN_inS _ _, j3⟩)
end Go.Proofs.YtbmdepbmejnlkaaDoor
