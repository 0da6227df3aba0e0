/- A part of the proof of NodeUndoes. -/
import Derived.Test.YtacacoklddogmaaGreatDoorKBF
import Derived.BigRegion
import Derived.RangeFuncRecord
namespace Go.Proofs.YtacacoklddogmaaGreatDoor
set_option maxHeartbeats 4000000
open Go.ChangeShapes Go.WideShapes Go.ChangeAt Go.RowKit
set_option maxRecDepth 100000
theorem own_c (w : World) (s h : Int) (A : Option Addr) (c : Nat) (L : List OpV) (hs : OpsIn w A L) (hl : L.length ≤ 1048576) (hm : ∀ o ∈ L, o.Small) :
 Calls Tryz.prog 127 #[edgeV s h A L.length c] w (RetEdge w s h L) := by
 obtain ⟨i0, hi, hz0, hz1, hz2⟩ := info_parts infoOp
 obtain ⟨W1, hW1⟩ : ∃ W1, W1 = w.alloc (.cells #[.int .i64 s, .int .i64 h, .slice A L.length c] 55) := ⟨_, rfl⟩
 obtain ⟨W2, hW2⟩ : ∃ W2, W2 = W1.alloc (.cells #[.int .i64 0, .int .i64 0, .slice none 0 0] 55) := ⟨_, rfl⟩
 obtain ⟨WA, hWA⟩ : ∃ WA, WA = W2.alloc (.cells #[.int .i64 s, .int .i64 h, .slice none 0 0] 55) := ⟨_, rfl⟩
 have g1 : W1.heap.size = w.heap.size + 1 := by rw [hW1]; simp
 have g2 : W2.heap.size = W1.heap.size + 1 := by rw [hW2]; simp
 have g3 : WA.heap.size = W2.heap.size + 1 := by rw [hWA]; simp
 have k1 : Below w.heap.size w W1 := by rw [hW1]; exact bA_
 have k2 : Below W1.heap.size W1 W2 := by rw [hW2]; exact bA_
 have k3 : Below W2.heap.size W2 WA := by rw [hWA]; exact bA_
 have HEA := h_ (show EdgeAt WA w.heap.size s h A L.length c from (k3.block _ (by omega)).trans ((k2.block _ (by omega)).trans (by rw [hW1]; show (w.heap.push _)[w.heap.size]? = _; simp)))
 have HRA := h_ (show EdgeAt WA W1.heap.size 0 0 none 0 0 from (k3.block _ (by omega)).trans (by rw [hW2]; show (W1.heap.push _)[W1.heap.size]? = _; simp))
 have HXA := h_ (show EdgeAt WA W2.heap.size s h none 0 0 by rw [hWA]; show (W2.heap.push _)[W2.heap.size]? = _; simp)
 have HBA := h_ (bThen k1 (bThen k2 k3))
 have HW := h_ (show ((w.alloc (.cells #[.int .i64 s, .int .i64 h, .slice A L.length c] 55)).alloc (.cells #[.int .i64 0, .int .i64 0, .slice none 0 0] 55)).alloc (.cells #[.int .i64 s, .int .i64 h, .slice none 0 0] 55) = WA by rw [hWA, hW2, hW1])
 obtain ⟨R, hR⟩ : ∃ R, R = W1.heap.size := ⟨_, rfl⟩
 obtain ⟨X, hX⟩ : ∃ X, X = W2.heap.size := ⟨_, rfl⟩
 have HE1 := h_ (show w.heap.size + 1 + 1 = X by omega)
 have HE2 := h_ (show w.heap.size + 1 = R by omega)
 have hRB : w.heap.size < R := by omega
 have hBX : R < X := by omega
 have hXz : X < WA.heap.size := by omega
 rw [← hR] at HRA
 rw [← hX] at HXA
 have HS := h_ hs
 have HM := h_ hm
 clear hR hX k1 k2 k3 g1 g2 g3 hWA hW2 hW1 hs hm
 go_enter Tryz.func127, Tryz.ntmps127
 go_wp2_with fail
 rw [HW.out, HE1.out, HE2.out]
 go_loopw [14] (fun i wr => ∃ (k : Nat) (L' : List OpV) (Ao : Option Addr) (co : Nat), k ≤ L.length ∧ i = .int .i64 k ∧ L'.length = k ∧ Hid (L'.map OpV.ps = (L.take k).map OpV.ps) ∧ EdgeAt wr X s h Ao k co ∧ OpsOwn wr WA.heap.size Ao co L' ∧ EdgeAt wr w.heap.size s h A L.length c ∧ EdgeAt wr R 0 0 none 0 0 ∧ Below w.heap.size w wr ∧ WA.heap.size ≤ wr.heap.size) (fun i _ => L.length - (intOf i).toNat)
 case atStart => exact ⟨0, [], none, 0, Nat.zero_le _, rfl, rfl, rfl, HXA.out, OpsOwn.nil _ _, HEA.out, HRA.out, HBA.out, Nat.le_refl _⟩
 case round =>
  obtain ⟨k, L', Ao, co, hk, rfl, hL', hps, hX, hown, hE, hR, hbw, hsz⟩ := hrel
  subst hL'
  obtain ⟨x0, x1, x2, f0, f1, f2, hxl⟩ := b_ hX
  obtain ⟨e0, e1, e2, _, _, _, hel⟩ := b_ hE
  by_cases hlt : L'.length < L.length
  · obtain ⟨b, o, rfl, hbs, g0, hop⟩ := (OpsIn.later HS.out hbw).at_ hlt
    have HC := h_ (cr_ wr L[L'.length].A L[L'.length].c L[L'.length].ps)
    generalize hq : L[L'.length] = q at *
    obtain ⟨qA, qc, qp⟩ := q
    dsimp only at *
    have HC := h_ (fun W hs => cr_ W qA qc qp hs (by have := (HM.out _ (List.getElem_mem hlt)).len; rw [hq] at this; exact this))
    have HOP := h_ hop
    have HO := h_ hown
    have HX := h_ hX
    have HNE := h_ (m_ hown.row hX (by decide))
    clear hop hown hX
    go_wp2_with fail
    go_region_law (first
     | (refine w_ _ rfl _ _ 25 rfl WA.heap.size 30 i0 (.slice none 0 0) 1 24 Tryz.underlying25 hi hz0 hz1 hz2 rfl (by decide) _ _ _ rfl (World.ownsRow.alloc (el_ HO.out.row) _) (fun _ => True) _ _ _ _ rfl (et_ rfl (by simp)) ?_ ?_ ?_ ?_ ?_; (intro u hu; simp at hu; subst hu; rfl); (unfold maxLen; omega); omega; (simp; omega); intro A' c' w3 hown' hgrow hat; obtain ⟨y0, y1, y2, y3, y4, y5, y6⟩ := b_ (bh_ HX.out HNE.out hgrow))
     | (go_simp; go_at_call 100; refine (HC.out _ ?_).mono ?_; exact HOP.out; rintro e w2 ⟨A2, c2, rfl, ho2, hb2⟩; obtain ⟨⟨d2, os2⟩, rfl⟩ := a_ hb2))
    all_goals (
     have HB2 : Below wr.heap.size wr (Go.Sort.grow (redrawn wr d2) os2) := ⟨hb2.os, hb2.tape, hb2.output, hb2.size, hb2.block⟩
     have ho3 : (Go.Sort.grow (redrawn wr d2) os2).ownsRow wr.heap.size 73 3 (.slice A2 qp.length c2) qp.length (opCells qp) := ho2
     have hE3 := bh_ hE (ii_ HO.out.row (by omega)) hgrow
     have hR3 := bh_ hR (ii_ HO.out.row (by omega)) hgrow
     have hX3 := bh_ HX.out HNE.out hgrow
     have hP := HO.out.push hsz HB2 ho3 hgrow hown' hat
     have hF := bs_ hbw HB2 hgrow (fun g hg => Nat.le_trans HBA.out.size (HO.out.row.lt g hg).1)
     have hS3 := hgrow.size
     have hS2 := HB2.size
     clear hown' hgrow hat ho2 ho3 hb2 HB2 y0 y1 y2 y3 y4 y5 y6
     refine n_ (fun G => EdgeAt G X s h A' (L'.length + 1) c' ∧ OpsOwn G WA.heap.size A' c' (L' ++ [⟨A2, c2, qp⟩]) ∧ EdgeAt G w.heap.size s h (some ⟨b, o, none⟩) L.length c ∧ EdgeAt G R 0 0 none 0 0 ∧ Below w.heap.size w G ∧ WA.heap.size ≤ G.heap.size) ⟨y_ hX3, hP.kept (by simp [World.setCell]) (fun g hg _ => bH_ (by show g ≠ X; omega)), (bH_ (by show w.heap.size ≠ X; omega)).trans hE3, (bH_ (by show R ≠ X; omega)).trans hR3, bSet hF (by show w.heap.size ≤ X; omega) _, by simp [World.setCell]; simp at hS3; omega⟩ ?_
     rintro G ⟨hX4, hP4, hE4, hR4, hF4, hS4⟩
     clear hE3 hR3 hX3 hP hF hS3 hS2
     go_wp2_with fail
     go_roundw
     case rel => exact ⟨L'.length + 1, L' ++ [⟨A2, c2, qp⟩], A', c', by omega, by go_num, by simp, by rw [List.map_append, hps.out, List.take_succ_eq_append_getElem hlt, List.map_append, hq]; rfl, hX4, hP4, hE4, hR4, hF4, hS4⟩
     case measure => simp [intOf]; omega)
  · obtain hk' : L'.length = L.length := by omega
    rw [hk', List.take_length] at hps
    have HO := h_ hown
    obtain ⟨r0, r1, r2, q0, q1, q2, hrz⟩ := b_ hR
    clear hown
    go_wp2_with fail
    have HR3 : EdgeAt (((wr.setCell ⟨R, 0, none⟩ (.int .i64 s)).setCell ⟨R, 1, none⟩ (.int .i64 h)).setCell ⟨R, 2, none⟩ (.slice Ao L.length co)) R s h Ao L.length co := y_ (bn_ (bm_ hR))
    have HO3 := HO.out.kept (w' := ((wr.setCell ⟨R, 0, none⟩ (.int .i64 s)).setCell ⟨R, 1, none⟩ (.int .i64 h)).setCell ⟨R, 2, none⟩ (.slice Ao L.length co)) (by simp [World.setCell]) (fun g hg _ => (bH_ (by show g ≠ R; omega)).trans ((bH_ (by show g ≠ R; omega)).trans (bH_ (by show g ≠ R; omega))))
    have HF3 := bSet (bSet (bSet hbw (p := ⟨R, 0, none⟩) (Nat.le_of_lt hRB) (.int .i64 s)) (p := ⟨R, 1, none⟩) (Nat.le_of_lt hRB) (.int .i64 h)) (p := ⟨R, 2, none⟩) (Nat.le_of_lt hRB) (.slice Ao L.length co)
    refine n_ (fun G => EdgeAt G R s h Ao L.length co ∧ OpsOwn G WA.heap.size Ao co L' ∧ Below w.heap.size w G) ⟨HR3, HO3, HF3⟩ ?_
    rintro G ⟨hR4, hO4, hF4⟩
    obtain ⟨t0, t1, t2, _, _, _, _⟩ := b_ hR4
    clear HR3 HO3 HF3
    refine bodyPost_ret (v := edgeV s h Ao L.length co) (by simp [results, Tryz.results127, go_sem, t0, t1, t2]) rfl ?_
    exact ⟨Ao, co, L', by rw [hk'], hps.out, hO4.mono HBA.out.size, hF4⟩
theorem OpsOwn.set2 {w : World} {base O : Nat} {A A' : Option Addr} {c n c' : Nat} {L : List OpV} {s h : Int} {v : Value} (k : OpsOwn w base A c L) (hO : EdgeAt w O s h A' n c') : OpsOwn (w.setCell ⟨O, 2, none⟩ v) base A c L := by
 refine ⟨k.row.kept (row := some O) ⟨rfl, rfl, rfl, by simp [World.setCell], fun x _ hx => bH_ (fun e => hx (by simp [e]))⟩ (.inr (m_ k.row hO (by decide))), fun o ho => ⟨(k.each o ho).1, fun h0 => ?_⟩⟩
 obtain ⟨b, p, e, hb, hc⟩ := (k.each o ho).2 h0
 have hne : b ≠ O := fun e1 => by
  subst e1
  have h2 := hc 2 _ (by rw [show 2 = 0 * 3 + 2 from rfl, dl_ o.ps 0 2 h0 (by omega)]; rfl)
  simp only [World.cell?, hO] at h2
  have hp : p = 0 := by
   rcases Nat.eq_zero_or_pos p with h | h
   · exact h
   · rw [Array.getElem?_eq_none (by simp; omega)] at h2
     cases h2
  subst hp
  cases h2
 exact ⟨b, p, e, ⟨⟨hb.1.1, by simpa [World.setCell] using hb.1.2⟩, hb.2⟩, fun j u hu => (World.cell?_of_block (w := w) (a := ⟨b, p + j, none⟩) (bH_ hne)).trans (hc j u hu)⟩
theorem hc_ {w G : World} {base R n c' : Nat} {s h : Int} {A' : Option Addr} {L4 : List OpV} (hRB : w.heap.size < R) (hb : R < base) (hR : EdgeAt G R 0 0 none 0 0) (hO : OpsOwn G base A' c' L4) (hF : Below w.heap.size w G) :
 EdgeAt (((G.setCell ⟨R, 0, none⟩ (.int .i64 s)).setCell ⟨R, 1, none⟩ (.int .i64 h)).setCell ⟨R, 2, none⟩ (.slice A' n c')) R s h A' n c' ∧
 OpsOwn (((G.setCell ⟨R, 0, none⟩ (.int .i64 s)).setCell ⟨R, 1, none⟩ (.int .i64 h)).setCell ⟨R, 2, none⟩ (.slice A' n c')) base A' c' L4 ∧
 Below w.heap.size w (((G.setCell ⟨R, 0, none⟩ (.int .i64 s)).setCell ⟨R, 1, none⟩ (.int .i64 h)).setCell ⟨R, 2, none⟩ (.slice A' n c')) :=
 ⟨y_ (bn_ (bm_ hR)), hO.kept (by simp [World.setCell]) (fun g hg _ => (bH_ (by show g ≠ R; omega)).trans ((bH_ (by show g ≠ R; omega)).trans (bH_ (by show g ≠ R; omega)))),
  bSet (bSet (bSet hF (p := ⟨R, 0, none⟩) (Nat.le_of_lt hRB) _) (p := ⟨R, 1, none⟩) (Nat.le_of_lt hRB) _) (p := ⟨R, 2, none⟩) (Nat.le_of_lt hRB) _⟩
structure SendAt (w W : World) (R : Nat) (s h : Int) (A : Option Addr) (n c : Nat) : Prop where
 e : EdgeAt W w.heap.size s h A n c
 r : EdgeAt W R 0 0 none 0 0
 b : Below w.heap.size w W
theorem SendAt.later {w W W' : World} {R : Nat} {s h : Int} {A : Option Addr} {n c : Nat} (k : SendAt w W R s h A n c) (hb : Below W.heap.size W W') : SendAt w W' R s h A n c :=
 ⟨(hb.block _ (b_ k.e).2.2.2.2.2.2).trans k.e, (hb.block _ (b_ k.r).2.2.2.2.2.2).trans k.r, bThen k.b hb⟩
theorem da_ {w : World} {A : Option Addr} {L : List OpV} {o : OpV} (h : OpsIn w A L) (hl : L.getLast? = some o) :
 ∃ b k, A = some ⟨b, k, none⟩ ∧ b < w.heap.size ∧ w.cell? ⟨b, k + (L.length - 1), none⟩ = some o.val ∧ OpIn (· < w.heap.size) w o.A o.ps := by
 have hp : L.length ≠ 0 := fun e => by
  rw [List.eq_nil_of_length_eq_zero e] at hl
  cases hl
 obtain ⟨b, k, e, hb, hc, ho⟩ := h.at_ (k := L.length - 1) (by omega)
 rw [List.getLast?_eq_getElem?, List.getElem?_eq_getElem (by omega)] at hl
 obtain rfl := Option.some.inj hl
 exact ⟨b, k, e, hb, hc, ho⟩
theorem bp_ {L : List OpV} {o : OpV} (hl : L.getLast? = some o) : 0 < L.length := by
 cases L with
 | nil => cases hl
 | cons => simp
def badLast (L : List OpV) (ps : List PartD) : Bool :=
 match L.getLast? with
 | none => false
 | some o => decide ((lens ps).1 ≠ (lens o.ps).2)
def sendErr (s h : Int) (L : List OpV) (ps : List PartD) : Int :=
 if ¬ edgeMay s h L then 9 else if opFault ps ≠ 0 then opFault ps else if badLast L ps = true then 10 else if s = 1048576 then 8 else 0
def RetSent (w : World) (s h : Int) (L : List OpV) (ps : List PartD) (er : Int) (e : Ending) (w' : World) : Prop :=
 (er ≠ 0 → e = .returned (.tuple #[edgeV 0 0 none 0 0, .int .i64 er]) ∧ Below w.heap.size w w') ∧
 (er = 0 → ∃ A' c' L', e = .returned (.tuple #[edgeV (s + 1) h A' L'.length c', .int .i64 0]) ∧ L'.map OpV.ps = L.map OpV.ps ++ [ps] ∧ OpsOwn w' w.heap.size A' c' L' ∧ Below w.heap.size w w')
abbrev SideV.val (x : SideV) : Value := .agg #[.int .i64 x.p, .bool x.j, .int .i64 x.s, .int .i64 x.h, .slice x.A x.L.length x.c, .int .i64 x.k.e, .int .i64 x.k.n, .slice x.k.sA x.k.s.length x.k.sc, .slice x.k.qA x.k.q.length x.k.qc, .int .i64 x.k.h]
abbrev NodeAt (W : World) (B : Nat) (n : NodeV) : Prop := W.heap[B]? = some (.cells #[.int .i64 n.me, .int .i64 n.ep, .int .i64 n.up, .bool n.rd, .string n.t, .slice n.sA n.S.length n.sc, .slice n.uA n.U.length n.uc, .slice n.mA n.M.length n.mc] 28 (0, 0))
abbrev SideAt (W : World) (B : Nat) (x : SideV) : Prop := W.heap[B]? = some (.cells #[.int .i64 x.p, .bool x.j, .int .i64 x.s, .int .i64 x.h, .slice x.A x.L.length x.c, .int .i64 x.k.e, .int .i64 x.k.n, .slice x.k.sA x.k.s.length x.k.sc, .slice x.k.qA x.k.q.length x.k.qc, .int .i64 x.k.h] 60 (0, 0))
structure TwoAt (w : World) (n : NodeV) (x : SideV) (W : World) : Prop where
 nd : NodeAt W w.heap.size n
 sd : SideAt W (w.heap.size + 1) x
 b : Below w.heap.size w W
theorem TwoAt.new (w : World) (n : NodeV) (x : SideV) : TwoAt w n x ((w.alloc (.cells #[.int .i64 n.me, .int .i64 n.ep, .int .i64 n.up, .bool n.rd, .string n.t, .slice n.sA n.S.length n.sc, .slice n.uA n.U.length n.uc, .slice n.mA n.M.length n.mc] 28)).alloc (.cells #[.int .i64 x.p, .bool x.j, .int .i64 x.s, .int .i64 x.h, .slice x.A x.L.length x.c, .int .i64 x.k.e, .int .i64 x.k.n, .slice x.k.sA x.k.s.length x.k.sc, .slice x.k.qA x.k.q.length x.k.qc, .int .i64 x.k.h] 60)) :=
 ⟨(q_ _ _ _ (by simp)).trans (by show (w.heap.push _)[w.heap.size]? = _; simp), by have := World.alloc_heap_new (w.alloc (.cells #[.int .i64 n.me, .int .i64 n.ep, .int .i64 n.up, .bool n.rd, .string n.t, .slice n.sA n.S.length n.sc, .slice n.uA n.U.length n.uc, .slice n.mA n.M.length n.mc] 28)) (.cells #[.int .i64 x.p, .bool x.j, .int .i64 x.s, .int .i64 x.h, .slice x.A x.L.length x.c, .int .i64 x.k.e, .int .i64 x.k.n, .slice x.k.sA x.k.s.length x.k.sc, .slice x.k.qA x.k.q.length x.k.qc, .int .i64 x.k.h] 60); rwa [World.size_alloc] at this, bAlloc bA_ _⟩
theorem TwoAt.later {w W W' : World} {n : NodeV} {x : SideV} (k : TwoAt w n x W) (hb : Below W.heap.size W W') : TwoAt w n x W' :=
 ⟨(hb.block _ (Array.getElem?_eq_some_iff.1 k.nd).1).trans k.nd, (hb.block _ (Array.getElem?_eq_some_iff.1 k.sd).1).trans k.sd, bThen k.b hb⟩
theorem d_ {W : World} {B : Nat} {n : NodeV} (h : NodeAt W B n) : W.cell? ⟨B, 0, none⟩ = some (.int .i64 n.me) ∧ W.cell? ⟨B, 1, none⟩ = some (.int .i64 n.ep) ∧ W.cell? ⟨B, 2, none⟩ = some (.int .i64 n.up) ∧ W.cell? ⟨B, 3, none⟩ = some (.bool n.rd) ∧ W.cell? ⟨B, 4, none⟩ = some (.string n.t) ∧
 W.cell? ⟨B, 5, none⟩ = some (.slice n.sA n.S.length n.sc) ∧ W.cell? ⟨B, 6, none⟩ = some (.slice n.uA n.U.length n.uc) ∧ W.cell? ⟨B, 7, none⟩ = some (.slice n.mA n.M.length n.mc) ∧ B < W.heap.size := by
 have hz := (Array.getElem?_eq_some_iff.1 h).1
 refine ⟨?_, ?_, ?_, ?_, ?_, ?_, ?_, ?_, hz⟩ <;> (unfold World.cell?; rw [h]; rfl)
theorem v_ {W : World} {B : Nat} {x : SideV} (h : SideAt W B x) : W.cell? ⟨B, 0, none⟩ = some (.int .i64 x.p) ∧ W.cell? ⟨B, 1, none⟩ = some (.bool x.j) ∧ W.cell? ⟨B, 2, none⟩ = some (.int .i64 x.s) ∧ W.cell? ⟨B, 3, none⟩ = some (.int .i64 x.h) ∧ W.cell? ⟨B, 4, none⟩ = some (.slice x.A x.L.length x.c) ∧
 W.cell? ⟨B, 5, none⟩ = some (.int .i64 x.k.e) ∧ W.cell? ⟨B, 6, none⟩ = some (.int .i64 x.k.n) ∧ W.cell? ⟨B, 7, none⟩ = some (.slice x.k.sA x.k.s.length x.k.sc) ∧ W.cell? ⟨B, 8, none⟩ = some (.slice x.k.qA x.k.q.length x.k.qc) ∧ W.cell? ⟨B, 9, none⟩ = some (.int .i64 x.k.h) ∧ B < W.heap.size := by
 have hz := (Array.getElem?_eq_some_iff.1 h).1
 refine ⟨?_, ?_, ?_, ?_, ?_, ?_, ?_, ?_, ?_, ?_, hz⟩ <;> (unfold World.cell?; rw [h]; rfl)
theorem ht_ {r : Int} : lastFits r [] := fun o h => by cases h
theorem hi_ {r : Int} {L : List OpV} {o : OpV} (h : L.getLast? = some o) : lastFits r L ↔ (lens o.ps).2 = r :=
 ⟨fun k => k o h, fun k q hq => by rw [h] at hq; obtain rfl := Option.some.inj hq; exact k⟩
theorem nz_ (w : World) (A A' : Option Addr) (c c' n : Nat) (L L' : List OpV) (hs : OpsIn w A L) (hs' : OpsIn w A' L') (hp : L'.map OpV.ps = L.map OpV.ps) (hn : L.length = n) (hm : n ≤ 1048577) (hl : ∀ o ∈ L, o.ps.length ≤ 1048576) :
 Calls Tryz.prog 26 #[.slice A n c, .slice A' n c'] w (R_ w (.bool true)) := by
 have hn' : L'.length = n := by rw [← hn, ← List.length_map (f := OpV.ps), hp, List.length_map]
 have HS := h_ hs
 have HS' := h_ hs'
 have HL := h_ hl
 have HN := h_ hn
 have HN' := h_ hn'
 have HE := h_ (show ∀ k (h : k < L.length) (h' : k < L'.length), L'[k].ps = L[k].ps from fun k h h' => by
  have := congrArg (fun l => l[k]?) hp
  simpa [h, h'] using this)
 clear hs hs' hl hn hn' hp
 go_enter Tryz.func26, Tryz.ntmps26
 go_wp2_with fail
 go_loopw [4, 5] (fun r i wr => ∃ (k : Nat), k ≤ n ∧ i = .int .i64 k ∧ r = .bool false ∧ Below w.heap.size w wr) (fun _ i _ => n - (intOf i).toNat)
 case atStart => exact ⟨0, Nat.zero_le _, rfl, rfl, Below.refl _ _⟩
 case round =>
  obtain ⟨k, hk, rfl, rfl, hbw⟩ := hrel
  by_cases hlt : k < n
  · obtain ⟨b, o, rfl, hbs, g0, hop⟩ := (HS.out.later hbw).at_ (k := k) (by rw [HN.out]; exact hlt)
    obtain ⟨b', o', rfl, hbs', g0', hop'⟩ := (HS'.out.later hbw).at_ (k := k) (by rw [HN'.out]; exact hlt)
    have he := HE.out k (by rw [HN.out]; exact hlt) (by rw [HN'.out]; exact hlt)
    have hlen := HL.out _ (List.getElem_mem (show k < L.length by rw [HN.out]; exact hlt))
    generalize L[k]'(by rw [HN.out]; exact hlt) = q at *
    generalize L'[k]'(by rw [HN'.out]; exact hlt) = q' at *
    obtain ⟨qA, qc, qp⟩ := q
    obtain ⟨qA', qc', qp'⟩ := q'
    dsimp only at *
    subst he
    have HC := h_ (fun W h h' => kp_ W qA qA' qc qc' qp' h h' hlen)
    have HP := h_ hop
    have HP' := h_ hop'
    clear hop hop' hlen
    go_wp2_with fail
    go_region_law (first
     | (go_simp; go_at_call 67; refine (HC.out _ ?_ ?_).mono ?_; exact HP.out; exact HP'.out; rintro e w2 ⟨rfl, hb2⟩; obtain ⟨⟨d2, os2⟩, rfl⟩ := a_ hb2))
    all_goals (
     have HB2 := h_ (show Below wr.heap.size wr (Go.Sort.grow (redrawn wr d2) os2) from ⟨hb2.os, hb2.tape, hb2.output, hb2.size, hb2.block⟩)
     clear hb2
     go_wp2_with fail
     go_roundw
     case rel => exact ⟨k + 1, by omega, by go_num, rfl, bThen hbw HB2.out⟩
     case measure => simp [intOf]; omega)
  · obtain rfl : k = n := by omega
    go_wp2_with fail
    go_ret
    exact ⟨rfl, bf_⟩
theorem ue_ (w : World) (s h : Int) (A A' : Option Addr) (c c' n : Nat) (L L' : List OpV) (hs : OpsIn w A L) (hs' : OpsIn w A' L') (hp : L'.map OpV.ps = L.map OpV.ps) (hn : L.length = n) (hm : n ≤ 1048577) (hl : ∀ o ∈ L, o.ps.length ≤ 1048576) :
 Calls Tryz.prog 27 #[edgeV s h A n c, edgeV s h A' n c'] w (R_ w (.bool true)) := by
 have HC := h_ (fun W h h' => nz_ W A A' c c' n L L' h h' hp hn hm hl)
 have HS := h_ hs
 have HS' := h_ hs'
 clear hs hs' hp hl hn
 go_enter Tryz.func27, Tryz.ntmps27
 go_wp2_with fail
 refine (HC.out _ (HS.out.later bz_) (HS'.out.later bz_)).mono ?_
 rintro e w1 ⟨rfl, hb1⟩
 obtain ⟨⟨d1, os1⟩, rfl⟩ := a_ hb1
 go_wp2_with fail
 go_ret
 exact ⟨by simp, bz_⟩
theorem ic_ (w : World) (A A' : Option Addr) (c c' n : Nat) (L L' : List FrameV) (hs : FramesIn w A L) (hs' : FramesIn w A' L') (hp : L'.map FrameV.d = L.map FrameV.d) (hn : L.length = n) (hm : n ≤ 1048577) (hl : ∀ f ∈ L, f.o.ps.length ≤ 1048576) :
 Calls Tryz.prog 69 #[.slice A n c, .slice A' n c'] w (R_ w (.bool true)) := by
 have hn' : L'.length = n := by rw [← hn, ← List.length_map (f := FrameV.d), hp, List.length_map]
 have HS := h_ hs
 have HS' := h_ hs'
 have HL := h_ hl
 have HN := h_ hn
 have HN' := h_ hn'
 have HE := h_ hp
 clear hs hs' hl hn hn' hp
 go_enter Tryz.func69, Tryz.ntmps69
 go_wp2_with fail
 go_loopw [4, 5] (fun r i wr => ∃ (k : Nat), k ≤ n ∧ i = .int .i64 k ∧ r = .bool false ∧ Below w.heap.size w wr) (fun _ i _ => n - (intOf i).toNat)
 case atStart => exact ⟨0, Nat.zero_le _, rfl, rfl, Below.refl _ _⟩
 case round =>
  obtain ⟨k, hk, rfl, rfl, hbw⟩ := hrel
  by_cases hlt : k < n
  · obtain ⟨b, o, rfl, hbs, g0, g1, g2, g3, g4, hop⟩ := (HS.out.later hbw).at_ (k := k) (by rw [HN.out]; exact hlt)
    obtain ⟨b', o', rfl, hbs', g0', g1', g2', g3', g4', hop'⟩ := (HS'.out.later hbw).at_ (k := k) (by rw [HN'.out]; exact hlt)
    have he := d_at HE.out (i := k) (by rw [HN.out]; exact hlt) (by rw [HN'.out]; exact hlt)
    have hlen := HL.out _ (List.getElem_mem (show k < L.length by rw [HN.out]; exact hlt))
    generalize L[k]'(by rw [HN.out]; exact hlt) = q at *
    generalize L'[k]'(by rw [HN'.out]; exact hlt) = q' at *
    obtain ⟨fk, fh, fe, ⟨qA, qc, qp⟩, fs⟩ := q
    obtain ⟨fk', fh', fe', ⟨qA', qc', qp'⟩, fs'⟩ := q'
    dsimp only at *
    simp only [FrameV.d, FrameD.mk.injEq] at he
    obtain ⟨rfl, rfl, rfl, rfl, rfl⟩ := he
    have HC := h_ (fun W h h' => jl_ W fk' fh' fe' qA qA' qc qc' qp' fs' h h' hlen)
    have HP := h_ hop
    have HP' := h_ hop'
    clear hop hop' hlen
    go_wp2_with fail
    go_region_law (first
     | (go_simp; go_at_call 68; refine (HC.out _ ?_ ?_).mono ?_; exact HP.out; exact HP'.out; rintro e w2 ⟨rfl, hb2⟩; obtain ⟨⟨d2, os2⟩, rfl⟩ := a_ hb2))
    all_goals (
     have HB2 := h_ (show Below wr.heap.size wr (Go.Sort.grow (redrawn wr d2) os2) from ⟨hb2.os, hb2.tape, hb2.output, hb2.size, hb2.block⟩)
     clear hb2
     go_wp2_with fail
     go_roundw
     case rel => exact ⟨k + 1, by omega, by go_num, rfl, bThen hbw HB2.out⟩
     case measure => simp [intOf]; omega)
  · obtain rfl : k = n := by omega
    go_wp2_with fail
    go_ret
    exact ⟨rfl, bf_⟩
theorem uf_ (w : World) (l l' : LinkV) (hi : l.In w) (hi' : l'.In w) (hd : l'.d = l.d) (hl : l.s.length ≤ 1048577 ∧ l.q.length ≤ 1048577) (hm : (∀ f ∈ l.s, f.o.ps.length ≤ 1048576) ∧ ∀ f ∈ l.q, f.o.ps.length ≤ 1048576) :
 Calls Tryz.prog 28 #[l.val, l'.val] w (R_ w (.bool true)) := by
 obtain ⟨e, n, sA, sc, s, qA, qc, q, h⟩ := l
 obtain ⟨e', n', sA', sc', s', qA', qc', q', h'⟩ := l'
 simp only [LinkV.d, LinkD.mk.injEq] at hd
 obtain ⟨rfl, rfl, h1, h2, rfl⟩ := hd
 have l1 : s'.length = s.length := by rw [← List.length_map (f := FrameV.d), h1, List.length_map]
 have l2 : q'.length = q.length := by rw [← List.length_map (f := FrameV.d), h2, List.length_map]
 have H1 := h_ (fun W g g' => ic_ W sA sA' sc sc' s.length s s' g g' h1 rfl hl.1 hm.1)
 have H2 := h_ (fun W g g' => ic_ W qA qA' qc qc' q.length q q' g g' h2 rfl hl.2 hm.2)
 have HI := h_ hi
 have HI' := h_ hi'
 have hv : (LinkV.val ⟨e', n', sA', sc', s', qA', qc', q', h'⟩) = .agg #[.int .i64 e', .int .i64 n', .slice sA' s.length sc', .slice qA' q.length qc', .int .i64 h'] := by
  dsimp only [LinkV.val]
  rw [l1, l2]
 rw [hv]
 clear hi hi' h1 h2 l1 l2 hl hm hv
 go_enter Tryz.func28, Tryz.ntmps28
 go_wp2_with fail
 refine (H1.out _ (HI.out.s.later bz_) (HI'.out.s.later bz_)).mono ?_
 rintro r w1 ⟨rfl, hb1⟩
 obtain ⟨⟨d1, os1⟩, rfl⟩ := a_ hb1
 go_wp2_with fail
 refine (H2.out _ (HI.out.q.later bz_) (HI'.out.q.later bz_)).mono ?_
 rintro r w2 ⟨rfl, hb2⟩
 obtain ⟨⟨d2, os2⟩, rfl⟩ := a_ hb2
 go_wp2_with fail
 go_ret
 exact ⟨by simp, bz_⟩
structure PairAt (w : World) (vs us : Array Value) (W : World) : Prop where
 a : W.heap[w.heap.size]? = some (.cells vs 28 (0, 0))
 b : W.heap[w.heap.size + 1]? = some (.cells us 28 (0, 0))
 w : Below w.heap.size w W
theorem PairAt.new (w : World) (vs us : Array Value) : PairAt w vs us ((w.alloc (.cells vs 28)).alloc (.cells us 28)) :=
 ⟨(q_ _ _ _ (by simp)).trans (World.alloc_heap_new _ _), by have := World.alloc_heap_new (w.alloc (.cells vs 28)) (.cells us 28); rwa [World.size_alloc] at this, bAlloc bA_ _⟩
theorem PairAt.later {w W W' : World} {vs us : Array Value} (k : PairAt w vs us W) (hb : Below W.heap.size W W') : PairAt w vs us W' :=
 ⟨(hb.block _ (Array.getElem?_eq_some_iff.1 k.a).1).trans k.a, (hb.block _ (Array.getElem?_eq_some_iff.1 k.b).1).trans k.b, bThen k.w hb⟩
theorem l_ {W : World} {B : Nat} {v0 v1 v2 v3 v4 v5 v6 v7 : Value} {t : TypeId} (h : W.heap[B]? = some (.cells #[v0, v1, v2, v3, v4, v5, v6, v7] t (0, 0))) :
 W.cell? ⟨B, 0, none⟩ = some v0 ∧ W.cell? ⟨B, 1, none⟩ = some v1 ∧ W.cell? ⟨B, 2, none⟩ = some v2 ∧ W.cell? ⟨B, 3, none⟩ = some v3 ∧ W.cell? ⟨B, 4, none⟩ = some v4 ∧ W.cell? ⟨B, 5, none⟩ = some v5 ∧ W.cell? ⟨B, 6, none⟩ = some v6 ∧ W.cell? ⟨B, 7, none⟩ = some v7 ∧ B < W.heap.size := by
 have hz := (Array.getElem?_eq_some_iff.1 h).1
 refine ⟨?_, ?_, ?_, ?_, ?_, ?_, ?_, ?_, hz⟩ <;> (unfold World.cell?; rw [h]; rfl)
theorem PairAt.cells {w W : World} {v0 v1 v2 v3 v4 v5 v6 v7 u0 u1 u2 u3 u4 u5 u6 u7 : Value} (k : PairAt w #[v0, v1, v2, v3, v4, v5, v6, v7] #[u0, u1, u2, u3, u4, u5, u6, u7] W) :
 (W.cell? ⟨w.heap.size, 0, none⟩ = some v0 ∧ W.cell? ⟨w.heap.size, 1, none⟩ = some v1 ∧ W.cell? ⟨w.heap.size, 2, none⟩ = some v2 ∧ W.cell? ⟨w.heap.size, 3, none⟩ = some v3 ∧ W.cell? ⟨w.heap.size, 4, none⟩ = some v4 ∧ W.cell? ⟨w.heap.size, 5, none⟩ = some v5 ∧ W.cell? ⟨w.heap.size, 6, none⟩ = some v6 ∧ W.cell? ⟨w.heap.size, 7, none⟩ = some v7 ∧ w.heap.size < W.heap.size) ∧
 W.cell? ⟨w.heap.size + 1, 0, none⟩ = some u0 ∧ W.cell? ⟨w.heap.size + 1, 1, none⟩ = some u1 ∧ W.cell? ⟨w.heap.size + 1, 2, none⟩ = some u2 ∧ W.cell? ⟨w.heap.size + 1, 3, none⟩ = some u3 ∧ W.cell? ⟨w.heap.size + 1, 4, none⟩ = some u4 ∧ W.cell? ⟨w.heap.size + 1, 5, none⟩ = some u5 ∧ W.cell? ⟨w.heap.size + 1, 6, none⟩ = some u6 ∧ W.cell? ⟨w.heap.size + 1, 7, none⟩ = some u7 ∧ w.heap.size + 1 < W.heap.size :=
 ⟨l_ k.a, l_ k.b⟩
theorem ly_ (w : World) (n n' : NodeV) (hi : n.In w) (hi' : n'.In w) (hd : n'.d = n.d) (hm : n.Mid) :
 Calls Tryz.prog 11 #[n.val, n'.val] w (R_ w (.bool true)) := by
 obtain ⟨me, ep, up, rd, t, sA, sc, S, uA, uc, U, mA, mc, M⟩ := n
 obtain ⟨me', ep', up', rd', t', sA', sc', S', uA', uc', U', mA', mc', M'⟩ := n'
 simp only [NodeV.d, NodeD.mk.injEq] at hd
 obtain ⟨rfl, rfl, rfl, rfl, rfl, h1, h2, rfl⟩ := hd
 have l1 : S'.length = S.length := by rw [← List.length_map (f := SideV.d), h1, List.length_map]
 have l2 : U'.length = U.length := by rw [← List.length_map (f := OpV.ps), h2, List.length_map]
 have HU := h_ (fun W g g' => nz_ W uA uA' uc uc' U.length U U' g g' h2 rfl hm.ul hm.undo)
 have HI := h_ hi
 have HI' := h_ hi'
 have HM := h_ hm
 have H1 := h_ h1
 have HL1 := h_ l1
 have hml : M'.length ≤ 1048577 := hm.ml
 have hsl : S.length ≤ 1048577 := hm.sl
 have hv : (NodeV.val ⟨me', ep', up', rd', t', sA', sc', S', uA', uc', U', mA', mc', M'⟩) = .agg #[.int .i64 me', .int .i64 ep', .int .i64 up', .bool rd', .string t', .slice sA' S.length sc', .slice uA' U.length uc', .slice mA' M'.length mc'] := by
  dsimp only [NodeV.val]
  rw [l1, l2]
 rw [hv]
 obtain ⟨WA, hWA⟩ : ∃ WA, WA = (w.alloc (.cells #[.int .i64 me', .int .i64 ep', .int .i64 up', .bool rd', .string t', .slice sA S.length sc, .slice uA U.length uc, .slice mA M'.length mc] 28)).alloc (.cells #[.int .i64 me', .int .i64 ep', .int .i64 up', .bool rd', .string t', .slice sA' S.length sc', .slice uA' U.length uc', .slice mA' M'.length mc'] 28) := ⟨_, rfl⟩
 have HA2 := h_ (show PairAt w #[.int .i64 me', .int .i64 ep', .int .i64 up', .bool rd', .string t', .slice sA S.length sc, .slice uA U.length uc, .slice mA M'.length mc] #[.int .i64 me', .int .i64 ep', .int .i64 up', .bool rd', .string t', .slice sA' S.length sc', .slice uA' U.length uc', .slice mA' M'.length mc'] WA by
  rw [hWA]
  exact PairAt.new w _ _)
 have HW := h_ hWA.symm
 clear hi hi' hm h1 h2 l1 l2 hv hWA
 go_enter Tryz.func11, Tryz.ntmps11
 go_wp2_with fail
 rw [HW.out]
 refine (HU.out _ (HI.out.undo.later HA2.out.w) (HI'.out.undo.later HA2.out.w)).mono ?_
 rintro e w1 ⟨rfl, hb1⟩
 have H1A := h_ (HA2.out.later hb1)
 obtain ⟨⟨n0, n1, n2, n3, n4, n5, n6, n7, nz⟩, m0, m1, m2, m3, m4, m5, m6, m7, mz⟩ := H1A.out.cells
 clear hb1
 go_wp2_with fail
 clear n0 n1 n2 n3 n4 n5 n6 n7 nz m0 m1 m2 m3 m4 m5 m6 m7 mz
 go_loopw [5] (fun i wr => ∃ k : Nat, k ≤ M'.length ∧ i = .int .i64 k ∧ Hid (PairAt w #[.int .i64 me', .int .i64 ep', .int .i64 up', .bool rd', .string t', .slice sA S.length sc, .slice uA U.length uc, .slice mA M'.length mc] #[.int .i64 me', .int .i64 ep', .int .i64 up', .bool rd', .string t', .slice sA' S.length sc', .slice uA' U.length uc', .slice mA' M'.length mc'] wr)) (fun i _ => M'.length - (intOf i).toNat)
 case atStart => exact ⟨0, Nat.zero_le _, rfl, H1A⟩
 case round =>
 obtain ⟨k, hk, rfl, HO⟩ := hrel
 obtain ⟨⟨n0, n1, n2, n3, n4, n5, n6, n7, nz⟩, m0, m1, m2, m3, m4, m5, m6, m7, mz⟩ := HO.out.cells
 by_cases hlt : k < M'.length
 · obtain ⟨b, o, rfl, hbs, hc⟩ := x_ markCells 2 bb_ (Sl.later HI.out.marks HO.out.w) hlt
   obtain ⟨b', o', rfl, hbs', hc'⟩ := x_ markCells 2 bb_ (Sl.later HI'.out.marks HO.out.w) hlt
   have c0 : wr.cell? ⟨b, o + k * 2, none⟩ = some (.int .i64 M'[k].1) := hc 0 _ rfl
   have c1 : wr.cell? ⟨b, o + k * 2 + 1, none⟩ = some (.int .i64 M'[k].2) := hc 1 _ rfl
   have d0 : wr.cell? ⟨b', o' + k * 2, none⟩ = some (.int .i64 M'[k].1) := hc' 0 _ rfl
   have d1 : wr.cell? ⟨b', o' + k * 2 + 1, none⟩ = some (.int .i64 M'[k].2) := hc' 1 _ rfl
   have hki : (k : Int) < (M'.length : Int) := by omega
   clear hc hc'
   generalize M'[k] = m at *
   obtain ⟨ma, mh⟩ := m
   dsimp only at c0 c1 d0 d1
   go_wp2_with fail
   go_quiet (fail)
   go_wp2_with fail
   go_roundw
   case rel => exact ⟨k + 1, by omega, by go_num, h_ (HO.out.later bz_)⟩
   case measure => simp [intOf]; omega
 · obtain rfl : k = M'.length := by omega
   go_wp2_with fail
   clear n0 n1 n2 n3 n4 n5 n6 n7 nz m0 m1 m2 m3 m4 m5 m6 m7 mz
   go_loopw [6] (fun i wr => ∃ k : Nat, k ≤ S.length ∧ i = .int .i64 k ∧ Hid (PairAt w #[.int .i64 me', .int .i64 ep', .int .i64 up', .bool rd', .string t', .slice sA S.length sc, .slice uA U.length uc, .slice mA M'.length mc] #[.int .i64 me', .int .i64 ep', .int .i64 up', .bool rd', .string t', .slice sA' S.length sc', .slice uA' U.length uc', .slice mA' M'.length mc'] wr)) (fun i _ => S.length - (intOf i).toNat)
   case atStart => exact ⟨0, Nat.zero_le _, rfl, HO⟩
   case round =>
   obtain ⟨k, hk, rfl, HO⟩ := hrel
   obtain ⟨⟨n0, n1, n2, n3, n4, n5, n6, n7, nz⟩, m0, m1, m2, m3, m4, m5, m6, m7, mz⟩ := HO.out.cells
   by_cases hlt : k < S.length
   · have hlt' : k < S'.length := by rw [HL1.out]; exact hlt
     obtain ⟨b, o, rfl, hbs, hc⟩ := x_ SideV.cells 10 SideV.cells_len (Sl.later HI.out.sides.row HO.out.w) hlt
     obtain ⟨b', o', rfl, hbs', hc'⟩ := x_ SideV.cells 10 SideV.cells_len (Sl.later HI'.out.sides.row HO.out.w) hlt'
     have c0 : wr.cell? ⟨b, o + k * 10, none⟩ = some (.int .i64 (S[k]).p) := hc 0 _ rfl
     have c1 : wr.cell? ⟨b, o + k * 10 + 1, none⟩ = some (.bool (S[k]).j) := hc 1 _ rfl
     have c2 : wr.cell? ⟨b, o + k * 10 + 2, none⟩ = some (.int .i64 (S[k]).s) := hc 2 _ rfl
     have c3 : wr.cell? ⟨b, o + k * 10 + 3, none⟩ = some (.int .i64 (S[k]).h) := hc 3 _ rfl
     have c4 : wr.cell? ⟨b, o + k * 10 + 4, none⟩ = some (.slice (S[k]).A (S[k]).L.length (S[k]).c) := hc 4 _ rfl
     have c5 : wr.cell? ⟨b, o + k * 10 + 5, none⟩ = some (.int .i64 (S[k]).k.e) := hc 5 _ rfl
     have c6 : wr.cell? ⟨b, o + k * 10 + 6, none⟩ = some (.int .i64 (S[k]).k.n) := hc 6 _ rfl
     have c7 : wr.cell? ⟨b, o + k * 10 + 7, none⟩ = some (.slice (S[k]).k.sA (S[k]).k.s.length (S[k]).k.sc) := hc 7 _ rfl
     have c8 : wr.cell? ⟨b, o + k * 10 + 8, none⟩ = some (.slice (S[k]).k.qA (S[k]).k.q.length (S[k]).k.qc) := hc 8 _ rfl
     have c9 : wr.cell? ⟨b, o + k * 10 + 9, none⟩ = some (.int .i64 (S[k]).k.h) := hc 9 _ rfl
     have d0 : wr.cell? ⟨b', o' + k * 10, none⟩ = some (.int .i64 (S'[k]'hlt').p) := hc' 0 _ rfl
     have d1 : wr.cell? ⟨b', o' + k * 10 + 1, none⟩ = some (.bool (S'[k]'hlt').j) := hc' 1 _ rfl
     have d2 : wr.cell? ⟨b', o' + k * 10 + 2, none⟩ = some (.int .i64 (S'[k]'hlt').s) := hc' 2 _ rfl
     have d3 : wr.cell? ⟨b', o' + k * 10 + 3, none⟩ = some (.int .i64 (S'[k]'hlt').h) := hc' 3 _ rfl
     have d4 : wr.cell? ⟨b', o' + k * 10 + 4, none⟩ = some (.slice (S'[k]'hlt').A (S'[k]'hlt').L.length (S'[k]'hlt').c) := hc' 4 _ rfl
     have d5 : wr.cell? ⟨b', o' + k * 10 + 5, none⟩ = some (.int .i64 (S'[k]'hlt').k.e) := hc' 5 _ rfl
     have d6 : wr.cell? ⟨b', o' + k * 10 + 6, none⟩ = some (.int .i64 (S'[k]'hlt').k.n) := hc' 6 _ rfl
     have d7 : wr.cell? ⟨b', o' + k * 10 + 7, none⟩ = some (.slice (S'[k]'hlt').k.sA (S'[k]'hlt').k.s.length (S'[k]'hlt').k.sc) := hc' 7 _ rfl
     have d8 : wr.cell? ⟨b', o' + k * 10 + 8, none⟩ = some (.slice (S'[k]'hlt').k.qA (S'[k]'hlt').k.q.length (S'[k]'hlt').k.qc) := hc' 8 _ rfl
     have d9 : wr.cell? ⟨b', o' + k * 10 + 9, none⟩ = some (.int .i64 (S'[k]'hlt').k.h) := hc' 9 _ rfl
     have hki : (k : Int) < (S.length : Int) := by omega
     have HXI := h_ ((HI.out.sides.each _ (List.getElem_mem hlt)).later HO.out.w)
     have HYI := h_ ((HI'.out.sides.each _ (List.getElem_mem hlt')).later HO.out.w)
     have HMX := h_ (HM.out.sides _ (List.getElem_mem hlt))
     have HDD := h_ (sd_at H1.out hlt hlt')
     clear hc hc'
     generalize S[k] = x at *
     generalize S'[k] = y at *
     obtain ⟨p, j, s, h, A, c, L, kk⟩ := x
     obtain ⟨p', j', s', h', A', c', L', kk'⟩ := y
     have hdd := HDD.out
     simp only [SideV.d, SideD.mk.injEq] at hdd
     obtain ⟨rfl, rfl, rfl, rfl, e1, e2⟩ := hdd
     dsimp only at c0 c1 c2 c3 c4 c5 c6 c7 c8 c9 d0 d1 d2 d3 d4 d5 d6 d7 d8 d9
     have el : L'.length = L.length := by rw [← List.length_map (f := OpV.ps), e1, List.length_map]
     have HCE := h_ (fun W g g' => ue_ W s' h' A A' c c' L.length L L' g g' e1 rfl HMX.out.len HMX.out.ops)
     have HCL := h_ (fun W g g' => uf_ W kk kk' g g' e2 HMX.out.link HMX.out.frames)
     rw [el] at d4
     clear el e1 e2 HDD
     go_wp2_with fail
     all_goals (
      refine (HCE.out _ (HXI.out.ops.later bz_) (HYI.out.ops.later bz_)).mono ?_
      rintro r w5 ⟨rfl, hb5⟩
      obtain ⟨⟨d5, os5⟩, rfl⟩ := a_ hb5
      go_wp2_with fail
      refine (HCL.out _ (HXI.out.link.later bz_) (HYI.out.link.later bz_)).mono ?_
      rintro r w6 ⟨rfl, hb6⟩
      obtain ⟨⟨d6, os6⟩, rfl⟩ := a_ hb6
      go_wp2_with fail
      go_roundw
      case rel => exact ⟨k + 1, by omega, by go_num, h_ (HO.out.later bz_)⟩
      case measure => simp [intOf]; omega)
   · obtain rfl : k = S.length := by omega
     go_wp2_with fail
     go_ret
     exact ⟨rfl, HO.out.w⟩
end Go.Proofs.YtacacoklddogmaaGreatDoor
