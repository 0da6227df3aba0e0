/-
  Contract of edge.own.
-/
import Derived.Test.YtbmdepbmejnlkaaDoorRows
import Derived.Test.YtbmdepbmejnlkaaDoorEdgeOwn
namespace Go.Proofs.YtbmdepbmejnlkaaDoor
open Go.ChangeShapes Go.WideShapes Go.ChangeAt Go.RowKit
set_option maxRecDepth 100000
set_option maxHeartbeats 1000000 in
theorem own_c (w : World) (s h : Int) (A : Option Addr) (c : Nat) (L : List OpV) (hs : OpsIn w A L) (hl : L.length ≤ 1048576) (hm : ∀ o ∈ L, o.Small) :
    Calls Tryd.prog 47 #[edgeV s h A L.length c] w (RetEdge w s h L) := by
  obtain ⟨i0, hi, hz0, hz1, hz2⟩ := info_parts infoOp
  obtain ⟨W1, hW1⟩ : ∃ W1, W1 = w.alloc (.cells #[.int .i64 s, .int .i64 h, .slice A L.length c] 41) := ⟨_, rfl⟩
  obtain ⟨W2, hW2⟩ : ∃ W2, W2 = W1.alloc (.cells #[.int .i64 0, .int .i64 0, .slice none 0 0] 41) := ⟨_, rfl⟩
  obtain ⟨WA, hWA⟩ : ∃ WA, WA = W2.alloc (.cells #[.int .i64 s, .int .i64 h, .slice none 0 0] 41) := ⟨_, rfl⟩
  have g1 : W1.heap.size = w.heap.size + 1 := by rw [hW1]; simp
  have g2 : W2.heap.size = W1.heap.size + 1 := by rw [hW2]; simp
  have g3 : WA.heap.size = W2.heap.size + 1 := by rw [hWA]; simp
  have k1 : Below w.heap.size w W1 := by rw [hW1]; exact bAlloc (Below.refl _ _) _
  have k2 : Below W1.heap.size W1 W2 := by rw [hW2]; exact bAlloc (Below.refl _ _) _
  have k3 : Below W2.heap.size W2 WA := by rw [hWA]; exact bAlloc (Below.refl _ _) _
  have HEA := Lib.hid (show EdgeAt WA w.heap.size s h A L.length c from (k3.block _ (by omega)).trans ((k2.block _ (by omega)).trans (by rw [hW1]; show (w.heap.push _)[w.heap.size]? = _; simp)))
  have HRA := Lib.hid (show EdgeAt WA W1.heap.size 0 0 none 0 0 from (k3.block _ (by omega)).trans (by rw [hW2]; show (W1.heap.push _)[W1.heap.size]? = _; simp))
  have HXA := Lib.hid (show EdgeAt WA W2.heap.size s h none 0 0 by rw [hWA]; show (W2.heap.push _)[W2.heap.size]? = _; simp)
  have HBA := Lib.hid (bThen k1 (bThen k2 k3))
  have HW := Lib.hid (show ((w.alloc (.cells #[.int .i64 s, .int .i64 h, .slice A L.length c] 41)).alloc (.cells #[.int .i64 0, .int .i64 0, .slice none 0 0] 41)).alloc (.cells #[.int .i64 s, .int .i64 h, .slice none 0 0] 41) = WA by rw [hWA, hW2, hW1])
  obtain ⟨R, hR⟩ : ∃ R, R = W1.heap.size := ⟨_, rfl⟩
  obtain ⟨X, hX⟩ : ∃ X, X = W2.heap.size := ⟨_, rfl⟩
  have HE1 := Lib.hid (show w.heap.size + 1 + 1 = X by omega)
  have HE2 := Lib.hid (show w.heap.size + 1 = R by omega)
  have hRB : w.heap.size < R := by omega
  have hBX : R < X := by omega
  have hXz : X < WA.heap.size := by omega
  rw [← hR] at HRA
  rw [← hX] at HXA
  have HS := Lib.hid hs
  have HM := Lib.hid hm
  clear hR hX k1 k2 k3 g1 g2 g3 hWA hW2 hW1 hs hm
  go_enter Tryd.func47, Tryd.ntmps47
  go_wp2_with fail
  rw [HW.out, HE1.out, HE2.out]
  go_loopw [14] (fun i wr => ∃ (k : Nat) (L' : List OpV) (Ao : Option Addr) (co : Nat), k ≤ L.length ∧ i = .int .i64 k ∧ L'.length = k ∧ Hid (L'.map OpV.ps = (L.take k).map OpV.ps) ∧ EdgeAt wr X s h Ao k co ∧ OpsOwn wr WA.heap.size Ao co L' ∧ EdgeAt wr w.heap.size s h A L.length c ∧ EdgeAt wr R 0 0 none 0 0 ∧ Below w.heap.size w wr ∧ WA.heap.size ≤ wr.heap.size) (fun i _ => L.length - (intOf i).toNat)
  case atStart => exact ⟨0, [], none, 0, Nat.zero_le _, rfl, rfl, rfl, HXA.out, OpsOwn.nil _ _, HEA.out, HRA.out, HBA.out, Nat.le_refl _⟩
  case round =>
    obtain ⟨k, L', Ao, co, hk, rfl, hL', hps, hX, hown, hE, hR, hbw, hsz⟩ := hrel
    subst hL'
    obtain ⟨x0, x1, x2, f0, f1, f2, hxl⟩ := three_cell hX
    obtain ⟨e0, e1, e2, _, _, _, hel⟩ := three_cell hE
    by_cases hlt : L'.length < L.length
    · obtain ⟨b, o, rfl, hbs, g0, hop⟩ := (OpsIn.later HS.out hbw).at_ hlt
      have HC := Lib.hid (CloneOp_c wr L[L'.length].A L[L'.length].c L[L'.length].ps)
      generalize hq : L[L'.length] = q at *
      obtain ⟨qA, qc, qp⟩ := q
      dsimp only at *
      have HC := Lib.hid (fun W hs => CloneOp_c W qA qc qp hs (by have := (HM.out _ (List.getElem_mem hlt)).len; rw [hq] at this; exact this))
      have HOP := Lib.hid hop
      have HO := Lib.hid hown
      have HX := Lib.hid hX
      have HNE := Lib.hid (own_apart hown.row hX (by decide))
      clear hop hown hX
      go_wp2_with fail
      go_region_law (first
        | (refine step_append_sl _ rfl _ _ 25 rfl WA.heap.size 43 i0 (.slice none 0 0) 1 24 Tryd.underlying25 hi hz0 hz1 hz2 rfl (by decide) _ _ _ rfl (World.ownsRow.alloc (own_grow HO.out.row) _) (fun _ => True) _ _ _ _ rfl (op_top rfl (by simp)) ?_ ?_ ?_ ?_ ?_; (intro u hu; simp at hu; subst hu; rfl); (unfold maxLen; omega); omega; (simp; omega); intro A' c' w3 hown' hgrow hat; obtain ⟨y0, y1, y2, y3, y4, y5, y6⟩ := three_cell (at_after HX.out HNE.out hgrow))
        | (go_simp; go_at_call 48; refine (HC.out _ ?_).mono ?_; exact HOP.out; rintro e w2 ⟨A2, c2, rfl, ho2, hb2⟩; obtain ⟨⟨d2, os2⟩, rfl⟩ := beyond_of hb2))
      all_goals (
        have HB2 : Below wr.heap.size wr (Go.Sort.grow (redrawn wr d2) os2) := ⟨hb2.os, hb2.tape, hb2.output, hb2.size, hb2.block⟩
        have ho3 : (Go.Sort.grow (redrawn wr d2) os2).ownsRow wr.heap.size 90 3 (.slice A2 qp.length c2) qp.length (opCells qp) := ho2
        have hE3 := at_after hE (own_low HO.out.row (by omega)) hgrow
        have hR3 := at_after hR (own_low HO.out.row (by omega)) hgrow
        have hX3 := at_after HX.out HNE.out hgrow
        have hP := HO.out.push hsz HB2 ho3 hgrow hown' hat
        have hF := push_frame hbw HB2 hgrow (fun g hg => Nat.le_trans HBA.out.size (HO.out.row.lt g hg).1)
        have hS3 := hgrow.size
        have hS2 := HB2.size
        clear hown' hgrow hat ho2 ho3 hb2 HB2 y0 y1 y2 y3 y4 y5 y6
        refine post_hide (fun G => EdgeAt G X s h A' (L'.length + 1) c' ∧ OpsOwn G WA.heap.size A' c' (L' ++ [⟨A2, c2, qp⟩]) ∧ EdgeAt G w.heap.size s h (some ⟨b, o, none⟩) L.length c ∧ EdgeAt G R 0 0 none 0 0 ∧ Below w.heap.size w G ∧ WA.heap.size ≤ G.heap.size) ⟨three_set2 hX3, hP.kept (by simp [World.setCell]) (fun g hg _ => Below.heap_setCell _ _ _ _ (by show g ≠ X; omega)), (Below.heap_setCell _ _ _ _ (by show w.heap.size ≠ X; omega)).trans hE3, (Below.heap_setCell _ _ _ _ (by show R ≠ X; omega)).trans hR3, bSet hF (by show w.heap.size ≤ X; omega) _, by simp [World.setCell]; simp at hS3; omega⟩ ?_
        rintro G ⟨hX4, hP4, hE4, hR4, hF4, hS4⟩
        clear hE3 hR3 hX3 hP hF hS3 hS2
        go_wp2_with fail
        go_roundw
        case rel => exact ⟨L'.length + 1, L' ++ [⟨A2, c2, qp⟩], A', c', by omega, by go_num, by simp, by rw [List.map_append, hps.out, List.take_succ_eq_append_getElem hlt, List.map_append, hq]; rfl, hX4, hP4, hE4, hR4, hF4, hS4⟩
        case measure => simp [intOf]; omega)
    · obtain hk' : L'.length = L.length := by omega
      rw [hk', List.take_length] at hps
      have HO := Lib.hid hown
      obtain ⟨r0, r1, r2, q0, q1, q2, hrz⟩ := three_cell hR
      clear hown
      go_wp2_with fail
      have HR3 : EdgeAt (((wr.setCell ⟨R, 0, none⟩ (.int .i64 s)).setCell ⟨R, 1, none⟩ (.int .i64 h)).setCell ⟨R, 2, none⟩ (.slice Ao L.length co)) R s h Ao L.length co := three_set2 (three_set1 (three_set0 hR))
      have HO3 := HO.out.kept (w' := ((wr.setCell ⟨R, 0, none⟩ (.int .i64 s)).setCell ⟨R, 1, none⟩ (.int .i64 h)).setCell ⟨R, 2, none⟩ (.slice Ao L.length co)) (by simp [World.setCell]) (fun g hg _ => (Below.heap_setCell _ _ _ _ (by show g ≠ R; omega)).trans ((Below.heap_setCell _ _ _ _ (by show g ≠ R; omega)).trans (Below.heap_setCell _ _ _ _ (by show g ≠ R; omega))))
      have HF3 := bSet (bSet (bSet hbw (p := ⟨R, 0, none⟩) (Nat.le_of_lt hRB) (.int .i64 s)) (p := ⟨R, 1, none⟩) (Nat.le_of_lt hRB) (.int .i64 h)) (p := ⟨R, 2, none⟩) (Nat.le_of_lt hRB) (.slice Ao L.length co)
      refine post_hide (fun G => EdgeAt G R s h Ao L.length co ∧ OpsOwn G WA.heap.size Ao co L' ∧ Below w.heap.size w G) ⟨HR3, HO3, HF3⟩ ?_
      rintro G ⟨hR4, hO4, hF4⟩
      obtain ⟨t0, t1, t2, _, _, _, _⟩ := three_cell hR4
      clear HR3 HO3 HF3
      refine bodyPost_ret (v := edgeV s h Ao L.length co) (by simp [results, Tryd.results47, go_sem, t0, t1, t2]) rfl ?_
      exact ⟨Ao, co, L', by rw [hk'], hps.out, hO4.mono HBA.out.size, hF4⟩
end Go.Proofs.YtbmdepbmejnlkaaDoor
