/- A part of the proof of NodeUndoes. -/
import Derived.Test.YtacacoklddogmaaGreatDoorKDoor
import Derived.Test.YtacacoklddogmaaGreatDoorKBD
namespace Go.Proofs.YtacacoklddogmaaGreatDoor
set_option maxHeartbeats 4000000
open Go.ChangeShapes Go.WideShapes Go.ChangeAt Go.RowKit
set_option maxRecDepth 100000
theorem ge_ (w : World) (s h : Int) (A : Option Addr) (c : Nat) (L : List OpV) (hT : Tabs w) (hs : OpsIn w A L) (hm : ∀ o ∈ L, o.Small) :
 Calls Tryz.prog 122 #[edgeV s h A L.length c] w (R_ w (.int .i64 (edgeErr s h L))) := by
 by_cases hg : ((0 ≤ s ∧ s ≤ 1048576) ∧ (0 ≤ h ∧ h ≤ 1048576)) ∧ (L.length : Int) ≤ s
 · exact mf_ w s h A c L hg.1.1.1 hg.1.1.2 hg.1.2.1 hg.1.2.2 hg.2 hT hs hm
 · rw [show edgeErr s h L = 9 from if_neg fun k => hg ⟨k.1, k.2.1⟩]
   by_cases h1 : s < 0
   · exact kq_ w s h A c L h1
   by_cases h2 : 1048576 < s
   · exact kr_ w s h A c L h2
   by_cases h3 : h < 0
   · exact ks_ w s h A c L (by omega) (by omega) h3
   by_cases h4 : 1048576 < h
   · exact kt_ w s h A c L (by omega) (by omega) h4
   exact ku_ w s h A c L (by omega) (by omega) (by omega) (by omega) (by omega)
theorem hm_ (w : World) (s h : Int) (A : Option Addr) (c : Nat) (L : List OpV) (hT : Tabs w) (hs : OpsIn w A L) (hm : ∀ o ∈ L, o.Small) :
 Calls Tryz.prog 104 #[edgeV s h A L.length c] w (R_ w (.bool (edgeB s h L))) := by
 by_cases hg : ((0 ≤ s ∧ s ≤ 1048576) ∧ (0 ≤ h ∧ h ≤ 1048576)) ∧ (L.length : Int) ≤ s
 · exact os_ w s h A c L hg.1.1.1 hg.1.1.2 hg.1.2.1 hg.1.2.2 hg.2 hT hs hm
 · rw [show edgeB s h L = false from decide_eq_false fun k => hg ⟨k.1, k.2.1⟩]
   by_cases h1 : s < 0 ∨ 1048576 < s
   · exact oc_ w s h A c L (h_ h1)
   by_cases h2 : h < 0 ∨ 1048576 < h
   · exact od_ w s h A c L (by omega) (by omega) (h_ h2)
   exact oe_ w s h A c L (by omega) (by omega) (by omega) (by omega) (by omega)
namespace edgeChecks
end edgeChecks
theorem cr_ (w : World) (A : Option Addr) (c : Nat) (ps : List PartD) (hs : OpIn (· < w.heap.size) w A ps) (hm : ps.length ≤ 1048576) :
 Calls Tryz.prog 100 #[.slice A ps.length c] w (RetOp w ps) := by
 obtain ⟨i0, hi, hz0, hz1, hz2⟩ := info_parts infoPart
 rcases A with _ | ad
 · have hb : ps = [] := by
    rcases Nat.eq_zero_or_pos ps.length with h | h
    · exact List.eq_nil_of_length_eq_zero h
    · obtain ⟨_, _, h, _⟩ := hs.2 h
      cases h
   subst hb
   have hnil := fun wx => Lib.run_eql_slice_nil (P := Tryz.prog) wx 30 73 none 0 c 0 0 Tryz.underlying30
   go_enter Tryz.func100, Tryz.ntmps100
   go_wp2
   go_ret
   exact ⟨none, 0, by simp, World.ownsRow_nil _ _ _ _, Below.refl _ _⟩
 · have hnil := fun wx => Lib.run_eql_slice_nil (P := Tryz.prog) wx 30 73 (some ad) ps.length c 0 0 Tryz.underlying30
   go_enter Tryz.func100, Tryz.ntmps100
   go_wp2_with (at_builtin; refine j_ _ rfl _ _ 30 rfl w.heap.size 73 i0 (.agg #[.int .i64 0, .int .i64 0, .string ⟨#[]⟩]) 3 32 Tryz.underlying30 hi hz0 hz1 hz2 rfl (by decide) _ _ _ rfl (World.ownsRow_lit w #[] 0 (Nat.le_refl _) (by unfold maxLen; omega) rfl) _ _ _ _ _ rfl (hs.later bA_) (yi_ ps) ?c1 ?c2 ?c3 ?_)
   case c1 => unfold maxLen; omega
   case c2 => omega
   case c3 => simp
   intro A' c' w1 hown hgrow hat
   go_wp2
   go_ret
   exact ⟨A', c', by simp, hown, bA_.grown hgrow (by simp) (fun k hk => by simp [Value.ownBlock] at hk; omega)⟩
theorem infoOp : (Tryz.prog.info? 30).map (fun i => (i.zero, i.size, i.bytes)) = some (some (.slice none 0 0), 1, 24) := by kernel_rfl
structure OpsOwn (w : World) (base : Nat) (A : Option Addr) (c : Nat) (L : List OpV) : Prop where
 row : w.ownsRow base 30 1 (.slice A L.length c) L.length (L.map OpV.val)
 each : ∀ o ∈ L, OpIn (fun b => (base ≤ b ∧ b < w.heap.size) ∧ (Value.slice A L.length c).ownBlock ≠ some b) w o.A o.ps
theorem Sl.moved {S S' : Nat → Prop} {w w' : World} {n m : Nat} {A : Option Addr} {xs : List Value} (h : Sl S w n A m xs) (k : ∀ b, S b → S' b ∧ w'.heap[b]? = w.heap[b]?) : Sl S' w' n A m xs := by
 refine ⟨h.1, fun h0 => ?_⟩
 obtain ⟨b, o, e, hb, hc⟩ := h.2 h0
 exact ⟨b, o, e, (k b hb).1, fun j u hu => (World.cell?_of_block (w := w) (a := ⟨b, o + j, none⟩) (k b hb).2).trans (hc j u hu)⟩
theorem OpsOwn.kept {w w' : World} {base : Nat} {A : Option Addr} {c : Nat} {L : List OpV} (h : OpsOwn w base A c L) (hs : w.heap.size ≤ w'.heap.size) (hk : ∀ b, base ≤ b → b < w.heap.size → w'.heap[b]? = w.heap[b]?) : OpsOwn w' base A c L := by
 refine ⟨⟨h.row.1, ?_⟩, fun o ho => (h.each o ho).moved fun b hb => ⟨⟨⟨hb.1.1, Nat.lt_of_lt_of_le hb.1.2 hs⟩, hb.2⟩, hk b hb.1.1 hb.1.2⟩⟩
 rcases h.row.2 with hn | ⟨g, cap, cur, e, hb, hg, rest⟩
 · exact .inl hn
 · exact .inr ⟨g, cap, cur, e, hb, (hk g hb (Array.getElem?_eq_some_iff.1 hg).1).trans hg, rest⟩
theorem OpsOwn.nil (w : World) (base : Nat) : OpsOwn w base none 0 [] := ⟨World.ownsRow_nil _ _ _ _, by simp⟩
theorem OpsOwn.mono {w : World} {base base' : Nat} {A : Option Addr} {c : Nat} {L : List OpV} (h : OpsOwn w base A c L) (hb : base' ≤ base) : OpsOwn w base' A c L :=
 ⟨⟨h.row.1, h.row.2.imp id fun ⟨g, cap, cur, e, hg, rest⟩ => ⟨g, cap, cur, e, Nat.le_trans hb hg, rest⟩⟩, fun o ho => (h.each o ho).moved fun _ hx => ⟨⟨⟨Nat.le_trans hb hx.1.1, hx.1.2⟩, hx.2⟩, rfl⟩⟩
theorem OpsOwn.in_ {w : World} {base : Nat} {A : Option Addr} {c : Nat} {L : List OpV} (h : OpsOwn w base A c L) : OpsIn w A L :=
 ⟨(Sl.of_own _ h.row).moved fun _ hx => ⟨hx.2, rfl⟩, fun o ho => (h.each o ho).moved fun _ hx => ⟨hx.1.2, rfl⟩⟩
theorem OpsOwn.push {wr W2 w3 : World} {base : Nat} {Ao A' A2 : Option Addr} {co c' c2 : Nat} {L : List OpV} {qp : List PartD} {o : Obj} (hO : OpsOwn wr base Ao co L) (hbs : base ≤ wr.heap.size) (hW : Below wr.heap.size wr W2)
 (ho2 : W2.ownsRow wr.heap.size 73 3 (.slice A2 qp.length c2) qp.length (opCells qp)) (hg : (W2.alloc o).grownBy w3 (Value.slice Ao L.length co).ownBlock)
 (hown : w3.ownsRow base 30 1 (.slice A' (L.length + 1) c') (L.length + 1) (L.map OpV.val ++ [.slice A2 qp.length c2]))
 (hat : (Value.slice A' (L.length + 1) c').ownBlock = (Value.slice Ao L.length co).ownBlock ∨ (Value.slice A' (L.length + 1) c').ownBlock = some (W2.alloc o).heap.size) : OpsOwn w3 base A' c' (L ++ [⟨A2, c2, qp⟩]) := by
 have hs2 := hW.size
 have hs3 := hg.size
 simp at hs3
 have hlen : (L ++ [(⟨A2, c2, qp⟩ : OpV)]).length = L.length + 1 := by simp
 have hold : ∀ b, b < W2.heap.size → (Value.slice Ao L.length co).ownBlock ≠ some b → w3.heap[b]? = W2.heap[b]? := fun b hb hne =>
  (hg.block b (by simp; omega) (fun e => hne e.symm)).trans (q_ _ _ b hb)
 have hnew : ∀ b, b < W2.heap.size → (Value.slice Ao L.length co).ownBlock ≠ some b → (Value.slice A' (L.length + 1) c').ownBlock ≠ some b := fun b hb hne e => by
  rcases hat with h | h
  · exact hne (h.symm.trans e)
  · rw [h] at e
    simp at e
    omega
 refine ⟨by rw [hlen]; simpa using hown, fun p hp => ?_⟩
 rw [hlen]
 rcases List.mem_append.1 hp with hp | hp
 · refine (hO.each p hp).moved fun b hb => ⟨⟨⟨hb.1.1, by omega⟩, hnew b (by omega) hb.2⟩, (hold b (by omega) hb.2).trans (hW.block b hb.1.2)⟩
 · obtain rfl : p = ⟨A2, c2, qp⟩ := by simpa using hp
   refine (Sl.of_own _ ho2).moved fun b hb => ?_
   have hne : (Value.slice Ao L.length co).ownBlock ≠ some b := fun e => by have := (hO.row.lt b e).2; omega
   exact ⟨⟨⟨by omega, by omega⟩, hnew b (by omega) hne⟩, hold b hb.2 hne⟩
abbrev EdgeAt (w : World) (X : Nat) (s h : Int) (A : Option Addr) (n c : Nat) : Prop := w.heap[X]? = some (.cells #[.int .i64 s, .int .i64 h, .slice A n c] 55 (0, 0))
theorem el_ {w : World} {base size n d : Nat} {os : Array Obj} {e : TypeId} {v : Value} {xs : List Value} (h : w.ownsRow base e size v n xs) : (Go.Sort.grow (redrawn w d) os).ownsRow base e size v n xs := by
 have hb := below_regrown w d os
 exact h.kept (row := none) ⟨hb.os, hb.tape, hb.output, hb.size, fun k hk _ => hb.block k hk⟩ (by cases v.ownBlock <;> simp)
theorem bh_ {wr w3 : World} {X d : Nat} {os : Array Obj} {o ob : Obj} {v : Value} (hX : wr.heap[X]? = some ob) (hne : v.ownBlock ≠ some X) (hg : ((Go.Sort.grow (redrawn wr d) os).alloc o).grownBy w3 v.ownBlock) : w3.heap[X]? = some ob := by
 have hl : X < wr.heap.size := (Array.getElem?_eq_some_iff.1 hX).1
 exact (hg.block X (by simp; omega) (fun e => hne e.symm)).trans ((q_ _ _ X (by simp; omega)).trans (((below_regrown _ _ _).block X hl).trans hX))
theorem et_ {W : World} {cs : List Value} {t : TypeId} {n : Nat} {A : Option Addr} (hl : cs.length = n * 1) (hA : A = some ⟨W.heap.size, 0, none⟩) : Sl (fun _ => True) (W.alloc (.cells cs.toArray t)) 1 A n cs := by
 subst hA
 exact Sl.new W cs t 1 n hl trivial
theorem bm_ {w : World} {B : Nat} {v u z x : Value} {t : TypeId} (h : w.heap[B]? = some (.cells #[v, u, z] t (0, 0))) : (w.setCell ⟨B, 0, none⟩ x).heap[B]? = some (.cells #[x, u, z] t (0, 0)) := by
 rw [heap_setCell_same w B 0 _ _ _ h]
 rfl
theorem ii_ {w : World} {base : Nat} {e : TypeId} {size n k : Nat} {v : Value} {xs : List Value} (h : w.ownsRow base e size v n xs) (hk : k < base) : v.ownBlock ≠ some k := fun e1 => by have := (h.lt k e1).1; omega
theorem bs_ {w wr W2 w3 : World} {o : Obj} {ob : Option Nat} (hbw : Below w.heap.size w wr) (hW : Below wr.heap.size wr W2) (hg : (W2.alloc o).grownBy w3 ob) (hob : ∀ g, ob = some g → w.heap.size ≤ g) : Below w.heap.size w w3 :=
 (bAlloc (bThen hbw hW) o).grown hg (by have := hbw.size; have := hW.size; simp; omega) hob
def RetEdge (w : World) (s h : Int) (L : List OpV) (e : Ending) (w' : World) : Prop :=
 ∃ A' c' L', e = .returned (edgeV s h A' L'.length c') ∧ L'.map OpV.ps = L.map OpV.ps ∧ OpsOwn w' w.heap.size A' c' L' ∧ Below w.heap.size w w'
theorem kv_ (w : World) (s h : Int) (A : Option Addr) (c : Nat) (L : List OpV) (hs : OpsIn w A L) (hl : L.length ≤ 1048576) (hm : ∀ o ∈ L, o.Small) :
 Calls Tryz.prog 17 #[edgeV s h A L.length c] w (RetEdge w s h L) := by
 obtain ⟨i0, hi, hz0, hz1, hz2⟩ := info_parts infoOp
 obtain ⟨W1, hW1⟩ : ∃ W1, W1 = w.alloc (.cells #[.int .i64 s, .int .i64 h, .slice A L.length c] 55) := ⟨_, rfl⟩
 obtain ⟨W2, hW2⟩ : ∃ W2, W2 = W1.alloc (.cells #[.int .i64 0, .int .i64 0, .slice none 0 0] 55) := ⟨_, rfl⟩
 obtain ⟨WA, hWA⟩ : ∃ WA, WA = W2.alloc (.cells #[.int .i64 s, .int .i64 h, .slice none 0 0] 55) := ⟨_, rfl⟩
 have g1 : W1.heap.size = w.heap.size + 1 := by rw [hW1]; simp
 have g2 : W2.heap.size = W1.heap.size + 1 := by rw [hW2]; simp
 have g3 : WA.heap.size = W2.heap.size + 1 := by rw [hWA]; simp
 have k1 : Below w.heap.size w W1 := by rw [hW1]; exact bA_
 have k2 : Below W1.heap.size W1 W2 := by rw [hW2]; exact bA_
 have k3 : Below W2.heap.size W2 WA := by rw [hWA]; exact bA_
 have HEA := h_ (show EdgeAt WA w.heap.size s h A L.length c from (k3.block _ (by omega)).trans ((k2.block _ (by omega)).trans (by rw [hW1]; show (w.heap.push _)[w.heap.size]? = _; simp)))
 have HRA := h_ (show EdgeAt WA W1.heap.size 0 0 none 0 0 from (k3.block _ (by omega)).trans (by rw [hW2]; show (W1.heap.push _)[W1.heap.size]? = _; simp))
 have HXA := h_ (show EdgeAt WA W2.heap.size s h none 0 0 by rw [hWA]; show (W2.heap.push _)[W2.heap.size]? = _; simp)
 have HBA := h_ (bThen k1 (bThen k2 k3))
 have HW := h_ (show ((w.alloc (.cells #[.int .i64 s, .int .i64 h, .slice A L.length c] 55)).alloc (.cells #[.int .i64 0, .int .i64 0, .slice none 0 0] 55)).alloc (.cells #[.int .i64 s, .int .i64 h, .slice none 0 0] 55) = WA by rw [hWA, hW2, hW1])
 obtain ⟨R, hR⟩ : ∃ R, R = W1.heap.size := ⟨_, rfl⟩
 obtain ⟨X, hX⟩ : ∃ X, X = W2.heap.size := ⟨_, rfl⟩
 have HE1 := h_ (show w.heap.size + 1 + 1 = X by omega)
 have HE2 := h_ (show w.heap.size + 1 = R by omega)
 have hRB : w.heap.size < R := by omega
 have hBX : R < X := by omega
 have hXz : X < WA.heap.size := by omega
 rw [← hR] at HRA
 rw [← hX] at HXA
 have HS := h_ hs
 have HM := h_ hm
 clear hR hX k1 k2 k3 g1 g2 g3 hWA hW2 hW1 hs hm
 go_enter Tryz.func17, Tryz.ntmps17
 go_wp2_with fail
 rw [HW.out, HE1.out, HE2.out]
 go_loopw [4] (fun i wr => ∃ (k : Nat) (L' : List OpV) (Ao : Option Addr) (co : Nat), k ≤ L.length ∧ i = .int .i64 k ∧ L'.length = k ∧ Hid (L'.map OpV.ps = (L.take k).map OpV.ps) ∧ EdgeAt wr X s h Ao k co ∧ OpsOwn wr WA.heap.size Ao co L' ∧ EdgeAt wr w.heap.size s h A L.length c ∧ EdgeAt wr R 0 0 none 0 0 ∧ Below w.heap.size w wr ∧ WA.heap.size ≤ wr.heap.size) (fun i _ => L.length - (intOf i).toNat)
 case atStart => exact ⟨0, [], none, 0, Nat.zero_le _, rfl, rfl, rfl, HXA.out, OpsOwn.nil _ _, HEA.out, HRA.out, HBA.out, Nat.le_refl _⟩
 case round =>
  obtain ⟨k, L', Ao, co, hk, rfl, hL', hps, hX, hown, hE, hR, hbw, hsz⟩ := hrel
  subst hL'
  obtain ⟨x0, x1, x2, f0, f1, f2, hxl⟩ := b_ hX
  obtain ⟨e0, e1, e2, _, _, _, hel⟩ := b_ hE
  by_cases hlt : L'.length < L.length
  · obtain ⟨b, o, rfl, hbs, g0, hop⟩ := (OpsIn.later HS.out hbw).at_ hlt
    have HC := h_ (ds_ wr L[L'.length].A L[L'.length].c L[L'.length].ps)
    generalize hq : L[L'.length] = q at *
    obtain ⟨qA, qc, qp⟩ := q
    dsimp only at *
    have HC := h_ (fun W hs => ds_ W qA qc qp hs (by have := (HM.out _ (List.getElem_mem hlt)).len; rw [hq] at this; exact this))
    have HOP := h_ hop
    have HO := h_ hown
    have HX := h_ hX
    have HNE := h_ (m_ hown.row hX (by decide))
    clear hop hown hX
    go_wp2_with fail
    go_region_law (first
     | (refine w_ _ rfl _ _ 25 rfl WA.heap.size 30 i0 (.slice none 0 0) 1 24 Tryz.underlying25 hi hz0 hz1 hz2 rfl (by decide) _ _ _ rfl (World.ownsRow.alloc (el_ HO.out.row) _) (fun _ => True) _ _ _ _ rfl (et_ rfl (by simp)) ?_ ?_ ?_ ?_ ?_; (intro u hu; simp at hu; subst hu; rfl); (unfold maxLen; omega); omega; (simp; omega); intro A' c' w3 hown' hgrow hat; obtain ⟨y0, y1, y2, y3, y4, y5, y6⟩ := b_ (bh_ HX.out HNE.out hgrow))
     | (go_simp; go_at_call 8; refine (HC.out _ ?_).mono ?_; exact HOP.out; rintro e w2 ⟨A2, c2, rfl, ho2, hb2⟩; obtain ⟨⟨d2, os2⟩, rfl⟩ := a_ hb2))
    all_goals (
     have HB2 : Below wr.heap.size wr (Go.Sort.grow (redrawn wr d2) os2) := ⟨hb2.os, hb2.tape, hb2.output, hb2.size, hb2.block⟩
     have ho3 : (Go.Sort.grow (redrawn wr d2) os2).ownsRow wr.heap.size 73 3 (.slice A2 qp.length c2) qp.length (opCells qp) := ho2
     have hE3 := bh_ hE (ii_ HO.out.row (by omega)) hgrow
     have hR3 := bh_ hR (ii_ HO.out.row (by omega)) hgrow
     have hX3 := bh_ HX.out HNE.out hgrow
     have hP := HO.out.push hsz HB2 ho3 hgrow hown' hat
     have hF := bs_ hbw HB2 hgrow (fun g hg => Nat.le_trans HBA.out.size (HO.out.row.lt g hg).1)
     have hS3 := hgrow.size
     have hS2 := HB2.size
     clear hown' hgrow hat ho2 ho3 hb2 HB2 y0 y1 y2 y3 y4 y5 y6
     refine n_ (fun G => EdgeAt G X s h A' (L'.length + 1) c' ∧ OpsOwn G WA.heap.size A' c' (L' ++ [⟨A2, c2, qp⟩]) ∧ EdgeAt G w.heap.size s h (some ⟨b, o, none⟩) L.length c ∧ EdgeAt G R 0 0 none 0 0 ∧ Below w.heap.size w G ∧ WA.heap.size ≤ G.heap.size) ⟨y_ hX3, hP.kept (by simp [World.setCell]) (fun g hg _ => bH_ (by show g ≠ X; omega)), (bH_ (by show w.heap.size ≠ X; omega)).trans hE3, (bH_ (by show R ≠ X; omega)).trans hR3, bSet hF (by show w.heap.size ≤ X; omega) _, by simp [World.setCell]; simp at hS3; omega⟩ ?_
     rintro G ⟨hX4, hP4, hE4, hR4, hF4, hS4⟩
     clear hE3 hR3 hX3 hP hF hS3 hS2
     go_wp2_with fail
     go_roundw
     case rel => exact ⟨L'.length + 1, L' ++ [⟨A2, c2, qp⟩], A', c', by omega, by go_num, by simp, by rw [List.map_append, hps.out, List.take_succ_eq_append_getElem hlt, List.map_append, hq]; rfl, hX4, hP4, hE4, hR4, hF4, hS4⟩
     case measure => simp [intOf]; omega)
  · obtain hk' : L'.length = L.length := by omega
    rw [hk', List.take_length] at hps
    have HO := h_ hown
    obtain ⟨r0, r1, r2, q0, q1, q2, hrz⟩ := b_ hR
    clear hown
    go_wp2_with fail
    have HR3 : EdgeAt (((wr.setCell ⟨R, 0, none⟩ (.int .i64 s)).setCell ⟨R, 1, none⟩ (.int .i64 h)).setCell ⟨R, 2, none⟩ (.slice Ao L.length co)) R s h Ao L.length co := y_ (bn_ (bm_ hR))
    have HO3 := HO.out.kept (w' := ((wr.setCell ⟨R, 0, none⟩ (.int .i64 s)).setCell ⟨R, 1, none⟩ (.int .i64 h)).setCell ⟨R, 2, none⟩ (.slice Ao L.length co)) (by simp [World.setCell]) (fun g hg _ => (bH_ (by show g ≠ R; omega)).trans ((bH_ (by show g ≠ R; omega)).trans (bH_ (by show g ≠ R; omega))))
    have HF3 := bSet (bSet (bSet hbw (p := ⟨R, 0, none⟩) (Nat.le_of_lt hRB) (.int .i64 s)) (p := ⟨R, 1, none⟩) (Nat.le_of_lt hRB) (.int .i64 h)) (p := ⟨R, 2, none⟩) (Nat.le_of_lt hRB) (.slice Ao L.length co)
    refine n_ (fun G => EdgeAt G R s h Ao L.length co ∧ OpsOwn G WA.heap.size Ao co L' ∧ Below w.heap.size w G) ⟨HR3, HO3, HF3⟩ ?_
    rintro G ⟨hR4, hO4, hF4⟩
    obtain ⟨t0, t1, t2, _, _, _, _⟩ := b_ hR4
    clear HR3 HO3 HF3
    refine bodyPost_ret (v := edgeV s h Ao L.length co) (by simp [results, Tryz.results17, go_sem, t0, t1, t2]) rfl ?_
    exact ⟨Ao, co, L', by rw [hk'], hps.out, hO4.mono HBA.out.size, hF4⟩
structure RecV where
 ep : Int
 o : OpV
instance : Inhabited RecV := ⟨⟨0, ⟨none, 0, []⟩⟩⟩
def RecV.cells (r : RecV) : List Value := [.int .i64 r.ep, r.o.val]
theorem RecV.cells_len (r : RecV) : r.cells.length = 2 := rfl
structure RecsIn (w : World) (A : Option Addr) (L : List RecV) : Prop where
 row : Sl (· < w.heap.size) w 2 A L.length (L.flatMap RecV.cells)
 each : ∀ r ∈ L, OpIn (· < w.heap.size) w r.o.A r.o.ps
theorem RecsIn.later {w w' : World} {A : Option Addr} {L : List RecV} (h : RecsIn w A L) (hb : Below w.heap.size w w') : RecsIn w' A L := ⟨h.row.later hb, fun r hr => Sl.later (h.each r hr) hb⟩
theorem RecsIn.at_ {w : World} {A : Option Addr} {L : List RecV} (h : RecsIn w A L) {k : Nat} (hk : k < L.length) :
 ∃ b o, A = some ⟨b, o, none⟩ ∧ b < w.heap.size ∧ w.cell? ⟨b, o + k * 2, none⟩ = some (.int .i64 L[k].ep) ∧ w.cell? ⟨b, o + k * 2 + 1, none⟩ = some (.slice L[k].o.A L[k].o.ps.length L[k].o.c) ∧ OpIn (· < w.heap.size) w L[k].o.A L[k].o.ps := by
 obtain ⟨b, o, e, hb, hc⟩ := x_ RecV.cells 2 RecV.cells_len h.row hk
 exact ⟨b, o, e, hb, hc 0 _ rfl, hc 1 _ rfl, h.each _ (List.getElem_mem hk)⟩
theorem infoRec : (Tryz.prog.info? 119).map (fun i => (i.zero, i.size, i.bytes)) = some (some (.agg #[.int .i64 0, .slice none 0 0]), 2, 32) := by kernel_rfl
structure RowOwn {α : Type} (t : TypeId) (n : Nat) (f : α → List Value) (op : α → OpV) (w : World) (base : Nat) (A : Option Addr) (c : Nat) (L : List α) : Prop where
 row : w.ownsRow base t n (.slice A L.length c) L.length (L.flatMap f)
 each : ∀ x ∈ L, OpIn (fun b => (base ≤ b ∧ b < w.heap.size) ∧ (Value.slice A L.length c).ownBlock ≠ some b) w (op x).A (op x).ps
section
variable {α : Type} {t : TypeId} {n : Nat} {f : α → List Value} {op : α → OpV}
theorem RowOwn.kept {w w' : World} {base : Nat} {A : Option Addr} {c : Nat} {L : List α} (h : RowOwn t n f op w base A c L) (hs : w.heap.size ≤ w'.heap.size) (hk : ∀ b, base ≤ b → b < w.heap.size → w'.heap[b]? = w.heap[b]?) : RowOwn t n f op w' base A c L := by
 refine ⟨⟨h.row.1, ?_⟩, fun o ho => (h.each o ho).moved fun b hb => ⟨⟨⟨hb.1.1, Nat.lt_of_lt_of_le hb.1.2 hs⟩, hb.2⟩, hk b hb.1.1 hb.1.2⟩⟩
 rcases h.row.2 with hn | ⟨g, cap, cur, e, hb, hg, rest⟩
 · exact .inl hn
 · exact .inr ⟨g, cap, cur, e, hb, (hk g hb (Array.getElem?_eq_some_iff.1 hg).1).trans hg, rest⟩
theorem RowOwn.later {w w' : World} {base : Nat} {A : Option Addr} {c : Nat} {L : List α} (h : RowOwn t n f op w base A c L) (hb : Below w.heap.size w w') : RowOwn t n f op w' base A c L := h.kept hb.size fun b _ hl => hb.block b hl
theorem RowOwn.nil (w : World) (base : Nat) : RowOwn t n f op w base none 0 [] := ⟨World.ownsRow_nil _ _ _ _, by simp⟩
theorem RowOwn.mono {w : World} {base base' : Nat} {A : Option Addr} {c : Nat} {L : List α} (h : RowOwn t n f op w base A c L) (hb : base' ≤ base) : RowOwn t n f op w base' A c L :=
 ⟨⟨h.row.1, h.row.2.imp id fun ⟨g, cap, cur, e, hg, rest⟩ => ⟨g, cap, cur, e, Nat.le_trans hb hg, rest⟩⟩, fun o ho => (h.each o ho).moved fun _ hx => ⟨⟨⟨Nat.le_trans hb hx.1.1, hx.1.2⟩, hx.2⟩, rfl⟩⟩
theorem RowOwn.push {wr W2 w3 : World} {base : Nat} {Ao A' : Option Addr} {co c' : Nat} {L : List α} {x : α} {o : Obj} (hO : RowOwn t n f op wr base Ao co L) (hbs : base ≤ wr.heap.size) (hW : Below wr.heap.size wr W2)
 (hx : OpIn (fun b => wr.heap.size ≤ b ∧ b < W2.heap.size) W2 (op x).A (op x).ps) (hg : (W2.alloc o).grownBy w3 (Value.slice Ao L.length co).ownBlock)
 (hown : w3.ownsRow base t n (.slice A' (L.length + 1) c') (L.length + 1) (L.flatMap f ++ f x))
 (hat : (Value.slice A' (L.length + 1) c').ownBlock = (Value.slice Ao L.length co).ownBlock ∨ (Value.slice A' (L.length + 1) c').ownBlock = some (W2.alloc o).heap.size) : RowOwn t n f op w3 base A' c' (L ++ [x]) := by
 have hs2 := hW.size
 have hs3 := hg.size
 simp at hs3
 have hlen : (L ++ [x]).length = L.length + 1 := by simp
 have hold : ∀ b, b < W2.heap.size → (Value.slice Ao L.length co).ownBlock ≠ some b → w3.heap[b]? = W2.heap[b]? := fun b hb hne =>
  (hg.block b (by simp; omega) (fun e => hne e.symm)).trans (q_ _ _ b hb)
 have hnew : ∀ b, b < W2.heap.size → (Value.slice Ao L.length co).ownBlock ≠ some b → (Value.slice A' (L.length + 1) c').ownBlock ≠ some b := fun b hb hne e => by
  rcases hat with h | h
  · exact hne (h.symm.trans e)
  · rw [h] at e
    simp at e
    omega
 refine ⟨by rw [hlen]; simpa using hown, fun p hp => ?_⟩
 rw [hlen]
 rcases List.mem_append.1 hp with hp | hp
 · refine (hO.each p hp).moved fun b hb => ⟨⟨⟨hb.1.1, by omega⟩, hnew b (by omega) hb.2⟩, (hold b (by omega) hb.2).trans (hW.block b hb.1.2)⟩
 · obtain rfl : p = x := by simpa using hp
   refine hx.moved fun b hb => ?_
   have hne : (Value.slice Ao L.length co).ownBlock ≠ some b := fun e => by have := (hO.row.lt b e).2; omega
   exact ⟨⟨⟨by omega, by omega⟩, hnew b (by omega) hne⟩, hold b hb.2 hne⟩
end
abbrev RecsOwn (w : World) (base : Nat) (A : Option Addr) (c : Nat) (L : List RecV) : Prop := RowOwn 119 2 RecV.cells RecV.o w base A c L
theorem RecsOwn.in_ {w : World} {base : Nat} {A : Option Addr} {c : Nat} {L : List RecV} (h : RecsOwn w base A c L) : RecsIn w A L :=
 ⟨(Sl.of_own _ h.row).moved fun _ hx => ⟨hx.2, rfl⟩, fun o ho => (h.each o ho).moved fun _ hx => ⟨hx.1.2, rfl⟩⟩
theorem i_ {w : World} {B : Nat} {v0 v1 v2 v3 v4 : Value} {t : TypeId} (h : w.heap[B]? = some (.cells #[v0, v1, v2, v3, v4] t (0, 0))) :
 w.cell? ⟨B, 0, none⟩ = some v0 ∧ w.cell? ⟨B, 1, none⟩ = some v1 ∧ w.cell? ⟨B, 2, none⟩ = some v2 ∧ w.cell? ⟨B, 3, none⟩ = some v3 ∧ w.cell? ⟨B, 4, none⟩ = some v4 ∧
  w.frozen? ⟨B, 0, none⟩ = false ∧ w.frozen? ⟨B, 1, none⟩ = false ∧ w.frozen? ⟨B, 2, none⟩ = false ∧ w.frozen? ⟨B, 3, none⟩ = false ∧ w.frozen? ⟨B, 4, none⟩ = false ∧ B < w.heap.size :=
 ⟨by simp [World.cell?, h], by simp [World.cell?, h], by simp [World.cell?, h], by simp [World.cell?, h], by simp [World.cell?, h], by simp [World.frozen?, h], by simp [World.frozen?, h], by simp [World.frozen?, h], by simp [World.frozen?, h], by simp [World.frozen?, h], (Array.getElem?_eq_some_iff.1 h).1⟩
theorem e_ {w : World} {B : Nat} {vs : Array Value} {t : TypeId} (j : Nat) (x : Value) (h : w.heap[B]? = some (.cells vs t (0, 0))) : (w.setCell ⟨B, j, none⟩ x).heap[B]? = some (.cells (vs.setIfInBounds j x) t (0, 0)) := by
 rw [heap_setCell_same w B j _ _ _ h]
abbrev FrameAt (w : World) (X : Nat) (k h e : Int) (A : Option Addr) (n c : Nat) (s : ByteArray) : Prop := w.heap[X]? = some (.cells #[.int .i64 k, .int .i64 h, .int .i64 e, .slice A n c, .string s] 46 (0, 0))
def RetFrame (w : World) (f : FrameD) (e : Ending) (w' : World) : Prop :=
 ∃ A c, e = .returned (frameV f.kind f.heard f.epoch A f.op.length c f.text) ∧ OpIn (fun b => w.heap.size ≤ b ∧ b < w'.heap.size) w' A f.op ∧ Below w.heap.size w w'
theorem en_ (w : World) (k h e : Int) (A : Option Addr) (c : Nat) (ps : List PartD) (s : ByteArray) (hs : OpIn (· < w.heap.size) w A ps) (hm : ps.length ≤ 1048576) :
 Calls Tryz.prog 82 #[frameV k h e A ps.length c s] w (RetFrame w ⟨k, h, e, ps, s⟩) := by
 obtain ⟨W1, hW1⟩ : ∃ W1, W1 = w.alloc (.cells #[.int .i64 k, .int .i64 h, .int .i64 e, .slice A ps.length c, .string s] 46) := ⟨_, rfl⟩
 obtain ⟨WA, hWA⟩ : ∃ WA, WA = W1.alloc (.cells #[.int .i64 0, .int .i64 0, .int .i64 0, .slice none 0 0, .string ⟨#[]⟩] 46) := ⟨_, rfl⟩
 have g1 : W1.heap.size = w.heap.size + 1 := by rw [hW1]; simp
 have g2 : WA.heap.size = W1.heap.size + 1 := by rw [hWA]; simp
 have k1 : Below w.heap.size w W1 := by rw [hW1]; exact bA_
 have k2 : Below W1.heap.size W1 WA := by rw [hWA]; exact bA_
 have HPA := h_ (show FrameAt WA w.heap.size k h e A ps.length c s from (k2.block _ (by omega)).trans (by rw [hW1]; show (w.heap.push _)[w.heap.size]? = _; simp))
 have HRA := h_ (show FrameAt WA W1.heap.size 0 0 0 none 0 0 ⟨#[]⟩ by rw [hWA]; show (W1.heap.push _)[W1.heap.size]? = _; simp)
 have HBA := h_ (bThen k1 k2)
 have HW := h_ (show (w.alloc (.cells #[.int .i64 k, .int .i64 h, .int .i64 e, .slice A ps.length c, .string s] 46)).alloc (.cells #[.int .i64 0, .int .i64 0, .int .i64 0, .slice none 0 0, .string ⟨#[]⟩] 46) = WA by rw [hWA, hW1])
 obtain ⟨R, hR⟩ : ∃ R, R = W1.heap.size := ⟨_, rfl⟩
 have HE := h_ (show w.heap.size + 1 = R by omega)
 have hRB : w.heap.size < R := by omega
 have hRz : R < WA.heap.size := by omega
 have n1 : ¬ w.heap.size = R := by omega
 have n2 : ¬ R = w.heap.size := by omega
 rw [← hR] at HRA
 have HS := h_ hs
 clear hR k1 k2 g1 g2 hWA hW1 hs
 go_enter Tryz.func82, Tryz.ntmps82
 go_wp2_with fail
 rw [HW.out, HE.out]
 refine (ds_ _ A c ps (Sl.later HS.out HBA.out) hm).mono ?_
 rintro r w1 ⟨A1, c1, rfl, ho1, hb1⟩
 have hz1 := hb1.size
 have HP1 := h_ (show FrameAt w1 w.heap.size k h e A ps.length c s from (hb1.block _ (by omega)).trans HPA.out)
 have HR1 := h_ (show FrameAt w1 R 0 0 0 none 0 0 ⟨#[]⟩ from (hb1.block _ hRz).trans HRA.out)
 have HO1 := h_ (show OpIn (fun b => R < b ∧ b < w1.heap.size) w1 A1 ps from (Sl.of_own _ ho1).moved fun b hb => ⟨⟨by omega, hb.2⟩, rfl⟩)
 have HB1 := h_ (bThen HBA.out hb1)
 obtain ⟨p0, p1, p2, p3, p4, q0, q1, q2, q3, q4, hpz⟩ := i_ HP1.out
 obtain ⟨r0, r1, r2, r3, r4, s0, s1, s2, s3, s4, hrz⟩ := i_ HR1.out
 clear ho1 hb1
 go_wp2_with fail
 refine n_ (fun G => FrameAt G R k h e A1 ps.length c1 s ∧ OpIn (fun b => w.heap.size ≤ b ∧ b < G.heap.size) G A1 ps ∧ Below w.heap.size w G) ⟨?_, ?_, ?_⟩ ?_
 · exact e_ 4 _ (e_ 3 _ (e_ 2 _ (e_ 1 _ (e_ 0 _ ((bH_ n2).trans HR1.out)))))
 · exact HO1.out.moved fun b hb => ⟨⟨by omega, by simp [World.setCell]; omega⟩, have hR : b ≠ R := by omega
    have hP : b ≠ w.heap.size := by omega
    (bH_ hR).trans ((bH_ hR).trans ((bH_ hR).trans ((bH_ hR).trans ((bH_ hR).trans (bH_ hP)))))⟩
 · exact bSet (bSet (bSet (bSet (bSet (bSet HB1.out (p := ⟨w.heap.size, 3, none⟩) (Nat.le_refl _) _) (p := ⟨R, 0, none⟩) (Nat.le_of_lt hRB) _) (p := ⟨R, 1, none⟩) (Nat.le_of_lt hRB) _) (p := ⟨R, 2, none⟩) (Nat.le_of_lt hRB) _) (p := ⟨R, 3, none⟩) (Nat.le_of_lt hRB) _) (p := ⟨R, 4, none⟩) (Nat.le_of_lt hRB) _
 rintro G ⟨hR4, hO4, hF4⟩
 clear r0 r1 r2 r3 r4
 obtain ⟨r0, r1, r2, r3, r4, _, _, _, _, _, _⟩ := i_ hR4
 refine bodyPost_ret (v := frameV k h e A1 ps.length c1 s) (by simp [results, Tryz.results82, go_sem, r0, r1, r2, r3, r4]) rfl ?_
 exact ⟨A1, c1, rfl, hO4, hF4⟩
theorem ep_ (w : World) (k h e : Int) (A : Option Addr) (c : Nat) (ps : List PartD) (s : ByteArray) (hs : OpIn (· < w.heap.size) w A ps) (hm : ps.length ≤ 1048576) :
 Calls Tryz.prog 112 #[frameV k h e A ps.length c s] w (RetFrame w ⟨k, h, e, ps, s⟩) := by
 obtain ⟨W1, hW1⟩ : ∃ W1, W1 = w.alloc (.cells #[.int .i64 k, .int .i64 h, .int .i64 e, .slice A ps.length c, .string s] 46) := ⟨_, rfl⟩
 obtain ⟨WA, hWA⟩ : ∃ WA, WA = W1.alloc (.cells #[.int .i64 0, .int .i64 0, .int .i64 0, .slice none 0 0, .string ⟨#[]⟩] 46) := ⟨_, rfl⟩
 have g1 : W1.heap.size = w.heap.size + 1 := by rw [hW1]; simp
 have g2 : WA.heap.size = W1.heap.size + 1 := by rw [hWA]; simp
 have k1 : Below w.heap.size w W1 := by rw [hW1]; exact bA_
 have k2 : Below W1.heap.size W1 WA := by rw [hWA]; exact bA_
 have HPA := h_ (show FrameAt WA w.heap.size k h e A ps.length c s from (k2.block _ (by omega)).trans (by rw [hW1]; show (w.heap.push _)[w.heap.size]? = _; simp))
 have HRA := h_ (show FrameAt WA W1.heap.size 0 0 0 none 0 0 ⟨#[]⟩ by rw [hWA]; show (W1.heap.push _)[W1.heap.size]? = _; simp)
 have HBA := h_ (bThen k1 k2)
 have HW := h_ (show (w.alloc (.cells #[.int .i64 k, .int .i64 h, .int .i64 e, .slice A ps.length c, .string s] 46)).alloc (.cells #[.int .i64 0, .int .i64 0, .int .i64 0, .slice none 0 0, .string ⟨#[]⟩] 46) = WA by rw [hWA, hW1])
 obtain ⟨R, hR⟩ : ∃ R, R = W1.heap.size := ⟨_, rfl⟩
 have HE := h_ (show w.heap.size + 1 = R by omega)
 have hRB : w.heap.size < R := by omega
 have hRz : R < WA.heap.size := by omega
 have n1 : ¬ w.heap.size = R := by omega
 have n2 : ¬ R = w.heap.size := by omega
 rw [← hR] at HRA
 have HS := h_ hs
 clear hR k1 k2 g1 g2 hWA hW1 hs
 go_enter Tryz.func112, Tryz.ntmps112
 go_wp2_with fail
 rw [HW.out, HE.out]
 refine (cr_ _ A c ps (Sl.later HS.out HBA.out) hm).mono ?_
 rintro r w1 ⟨A1, c1, rfl, ho1, hb1⟩
 have hz1 := hb1.size
 have HP1 := h_ (show FrameAt w1 w.heap.size k h e A ps.length c s from (hb1.block _ (by omega)).trans HPA.out)
 have HR1 := h_ (show FrameAt w1 R 0 0 0 none 0 0 ⟨#[]⟩ from (hb1.block _ hRz).trans HRA.out)
 have HO1 := h_ (show OpIn (fun b => R < b ∧ b < w1.heap.size) w1 A1 ps from (Sl.of_own _ ho1).moved fun b hb => ⟨⟨by omega, hb.2⟩, rfl⟩)
 have HB1 := h_ (bThen HBA.out hb1)
 obtain ⟨p0, p1, p2, p3, p4, q0, q1, q2, q3, q4, hpz⟩ := i_ HP1.out
 obtain ⟨r0, r1, r2, r3, r4, s0, s1, s2, s3, s4, hrz⟩ := i_ HR1.out
 clear ho1 hb1
 go_wp2_with fail
 refine n_ (fun G => FrameAt G R k h e A1 ps.length c1 s ∧ OpIn (fun b => w.heap.size ≤ b ∧ b < G.heap.size) G A1 ps ∧ Below w.heap.size w G) ⟨?_, ?_, ?_⟩ ?_
 · exact e_ 4 _ (e_ 3 _ (e_ 2 _ (e_ 1 _ (e_ 0 _ ((bH_ n2).trans HR1.out)))))
 · exact HO1.out.moved fun b hb => ⟨⟨by omega, by simp [World.setCell]; omega⟩, have hR : b ≠ R := by omega
    have hP : b ≠ w.heap.size := by omega
    (bH_ hR).trans ((bH_ hR).trans ((bH_ hR).trans ((bH_ hR).trans ((bH_ hR).trans (bH_ hP)))))⟩
 · exact bSet (bSet (bSet (bSet (bSet (bSet HB1.out (p := ⟨w.heap.size, 3, none⟩) (Nat.le_refl _) _) (p := ⟨R, 0, none⟩) (Nat.le_of_lt hRB) _) (p := ⟨R, 1, none⟩) (Nat.le_of_lt hRB) _) (p := ⟨R, 2, none⟩) (Nat.le_of_lt hRB) _) (p := ⟨R, 3, none⟩) (Nat.le_of_lt hRB) _) (p := ⟨R, 4, none⟩) (Nat.le_of_lt hRB) _
 rintro G ⟨hR4, hO4, hF4⟩
 clear r0 r1 r2 r3 r4
 obtain ⟨r0, r1, r2, r3, r4, _, _, _, _, _, _⟩ := i_ hR4
 refine bodyPost_ret (v := frameV k h e A1 ps.length c1 s) (by simp [results, Tryz.results112, go_sem, r0, r1, r2, r3, r4]) rfl ?_
 exact ⟨A1, c1, rfl, hO4, hF4⟩
theorem infoFrame : (Tryz.prog.info? 46).map (fun i => (i.zero, i.size, i.bytes)) = some (some (.agg #[.int .i64 0, .int .i64 0, .int .i64 0, .slice none 0 0, .string ⟨#[]⟩]), 5, 64) := by kernel_rfl
abbrev FramesOwn (w : World) (base : Nat) (A : Option Addr) (c : Nat) (L : List FrameV) : Prop := RowOwn 46 5 FrameV.cells FrameV.o w base A c L
theorem FramesOwn.in_ {w : World} {base : Nat} {A : Option Addr} {c : Nat} {L : List FrameV} (h : FramesOwn w base A c L) : FramesIn w A L :=
 ⟨(Sl.of_own _ h.row).moved fun _ hx => ⟨hx.2, rfl⟩, fun o ho => (h.each o ho).moved fun _ hx => ⟨hx.1.2, rfl⟩⟩
theorem FramesIn.nil (w : World) : FramesIn w none [] := ⟨Sl.nil, by simp⟩
theorem bl_ {W : World} {cs : List Value} {t : TypeId} {n m : Nat} {A : Option Addr} (hl : cs.length = n * m) (hA : A = some ⟨W.heap.size, 0, none⟩) : Sl (fun _ => True) (W.alloc (.cells cs.toArray t)) m A n cs := by
 subst hA
 exact Sl.new W cs t m n hl trivial
def RetFrames (w : World) (D : List FrameD) (e : Ending) (w' : World) : Prop :=
 ∃ A c L, e = .returned (.slice A L.length c) ∧ L.map FrameV.d = D ∧ FramesOwn w' w.heap.size A c L ∧ Below w.heap.size w w'
theorem co_ (w : World) (A : Option Addr) (c : Nat) (L : List FrameV) (hs : FramesIn w A L) (hl : L.length ≤ 1048576) (hm : ∀ f ∈ L, f.o.ps.length ≤ 1048576) :
 Calls Tryz.prog 42 #[.slice A L.length c] w (RetFrames w (L.map FrameV.d)) := by
 obtain ⟨i0, hi, hz0, hz1, hz2⟩ := info_parts infoFrame
 have HS := h_ hs
 have HM := h_ hm
 clear hs hm
 go_enter Tryz.func42, Tryz.ntmps42
 go_wp2_with fail
 go_loopw [3, 4] (fun out i wr => ∃ (k : Nat) (L' : List FrameV) (Ao : Option Addr) (co : Nat), k ≤ L.length ∧ i = .int .i64 k ∧ L'.length = k ∧ out = .slice Ao k co ∧ Hid (L'.map FrameV.d = (L.take k).map FrameV.d) ∧ FramesOwn wr w.heap.size Ao co L' ∧ Below w.heap.size w wr) (fun _ i _ => L.length - (intOf i).toNat)
 case atStart => exact ⟨0, [], none, 0, Nat.zero_le _, rfl, rfl, rfl, rfl, RowOwn.nil _ _, Below.refl _ _⟩
 case round =>
  obtain ⟨k, L', Ao, co, hk, rfl, hL', rfl, hps, hown, hbw⟩ := hrel
  subst hL'
  by_cases hlt : L'.length < L.length
  · obtain ⟨b, o, rfl, hbs, g0, g1, g2, g3, g4, hop⟩ := (FramesIn.later HS.out hbw).at_ hlt
    have hsm := HM.out _ (List.getElem_mem hlt)
    have HT := h_ (show (L.take (L'.length + 1)).map FrameV.d = (L.take L'.length).map FrameV.d ++ [L[L'.length].d] by rw [List.take_succ_eq_append_getElem hlt, List.map_append]; rfl)
    generalize L[L'.length] = q at *
    obtain ⟨fk, fh, fe, ⟨fA, fc, fp⟩, fs⟩ := q
    dsimp only at *
    have HC := h_ (fun W hs => en_ W fk fh fe fA fc fp fs hs hsm)
    have HOP := h_ hop
    have HO := h_ hown
    have hsz := hbw.size
    clear hop hown hsm
    go_wp2_with fail
    refine (HC.out _ (Sl.later HOP.out bz_)).mono ?_
    rintro e w2 ⟨A2, c2, rfl, ho2, hb2⟩
    have HX := h_ (((HO.out.later hb2).row.alloc (.cells #[.int .i64 fk, .int .i64 fh, .int .i64 fe, .slice A2 fp.length c2, .string fs] 46)).alloc (.cells #[.int .i64 fk, .int .i64 fh, .int .i64 fe, .slice A2 fp.length c2, .string fs] 46))
    have HO2 := h_ ho2
    have HB2 := h_ hb2
    have hzw := hb2.size
    clear ho2 hb2
    go_wp2_with (refine bg_ rfl ?_)
    refine ⟨?_⟩
    refine j_ _ rfl _ _ 56 rfl w.heap.size 46 i0 (.agg #[.int .i64 0, .int .i64 0, .int .i64 0, .slice none 0 0, .string ⟨#[]⟩]) 5 64 Tryz.underlying56 hi hz0 hz1 hz2 rfl (by decide) _ _ _ rfl HX.out (fun _ => True) _ _ _ _ rfl (bl_ (by rfl) (by simp)) ?c1 ?c2 ?c3 ?c4 ?_
    case c1 => intro u hu; simp at hu; rcases hu with rfl | rfl | rfl | rfl | rfl <;> rfl
    case c2 => unfold maxLen; omega
    case c3 => omega
    case c4 => simp; omega
    intro A' c' w3 hown' hgrow hat
    have hP := RowOwn.push (f := FrameV.cells) (op := FrameV.o) (x := ⟨fk, fh, fe, ⟨A2, c2, fp⟩, fs⟩) (W2 := w2.alloc (.cells #[.int .i64 fk, .int .i64 fh, .int .i64 fe, .slice A2 fp.length c2, .string fs] 46)) HO.out hsz (bAlloc HB2.out _) (HO2.out.moved fun b hb => ⟨⟨hb.1, by simp; omega⟩, q_ _ _ b hb.2⟩) hgrow hown' hat
    have hF := bs_ hbw (bAlloc HB2.out _) hgrow (fun g hg => (HO.out.row.lt g hg).1)
    clear hown' hgrow hat
    go_wp2_with fail
    go_roundw
    case rel => exact ⟨L'.length + 1, L' ++ [⟨fk, fh, fe, ⟨A2, c2, fp⟩, fs⟩], A', c', by omega, by go_num, by simp, rfl, by rw [List.map_append, hps.out, HT.out]; rfl, hP, hF⟩
    case measure => simp [intOf]; omega
  · obtain hk' : L'.length = L.length := by omega
    rw [hk', List.take_length] at hps
    go_wp2_with fail
    go_ret
    exact ⟨Ao, co, L', rfl, hps.out, hown, hbw⟩
structure PacketD where
 epoch : Int
 number : Int
 bare : Bool
 ack : Int
 frame : FrameD
def emptyF (f : FrameD) : Prop := f.kind = 0 ∧ f.heard = 0 ∧ f.epoch = 0 ∧ f.op = [] ∧ f.text.toList = []
instance (f : FrameD) : Decidable (emptyF f) := by
 unfold emptyF
 exact inferInstance
abbrev packetV (ep nu : Int) (b : Bool) (ak k h e : Int) (A : Option Addr) (n c : Nat) (s : ByteArray) : Value := .agg #[.int .i64 ep, .int .i64 nu, .bool b, .int .i64 ak, .int .i64 k, .int .i64 h, .int .i64 e, .slice A n c, .string s]
theorem jl_ (w : World) (k h e : Int) (A A' : Option Addr) (c c' : Nat) (ps : List PartD) (s : ByteArray) (hs : OpIn (· < w.heap.size) w A ps) (hs' : OpIn (· < w.heap.size) w A' ps) (hm : ps.length ≤ 1048576) :
 Calls Tryz.prog 68 #[frameV k h e A ps.length c s, frameV k h e A' ps.length c' s] w (R_ w (.bool true)) := by
 have HC := h_ (fun W h h' => kp_ W A A' c c' ps h h' hm)
 have HS := h_ hs
 have HS' := h_ hs'
 clear hs hs'
 go_enter Tryz.func68, Tryz.ntmps68
 go_wp2_with fail
 refine (HC.out _ (Sl.later HS.out bz_) (Sl.later HS'.out bz_)).mono ?_
 rintro r w1 ⟨rfl, hb1⟩
 obtain ⟨⟨d1, os1⟩, rfl⟩ := a_ hb1
 go_wp2_with fail
 go_ret
 exact ⟨by simp, bz_⟩
theorem ra_ (w : World) (ep nu : Int) (b : Bool) (ak k h e : Int) (A A' : Option Addr) (c c' : Nat) (ps : List PartD) (s : ByteArray) (hs : OpIn (· < w.heap.size) w A ps) (hs' : OpIn (· < w.heap.size) w A' ps) (hm : ps.length ≤ 1048576) :
 Calls Tryz.prog 25 #[packetV ep nu b ak k h e A ps.length c s, packetV ep nu b ak k h e A' ps.length c' s] w (R_ w (.bool true)) := by
 have HC := h_ (fun W g g' => jl_ W k h e A A' c c' ps s g g' hm)
 have HS := h_ hs
 have HS' := h_ hs'
 clear hs hs'
 go_enter Tryz.func25, Tryz.ntmps25
 go_wp2_with fail
 refine (HC.out _ (Sl.later HS.out bz_) (Sl.later HS'.out bz_)).mono ?_
 rintro r w1 ⟨rfl, hb1⟩
 obtain ⟨⟨d1, os1⟩, rfl⟩ := a_ hb1
 go_wp2_with fail
 go_ret
 exact ⟨by simp, bz_⟩
structure PacketV where
 ep : Int
 nu : Int
 b : Bool
 ak : Int
 f : FrameV
instance : Inhabited PacketV := ⟨⟨0, 0, false, 0, default⟩⟩
def PacketV.cells (p : PacketV) : List Value := [.int .i64 p.ep, .int .i64 p.nu, .bool p.b, .int .i64 p.ak, .int .i64 p.f.k, .int .i64 p.f.h, .int .i64 p.f.e, p.f.o.val, .string p.f.s]
theorem PacketV.cells_len (p : PacketV) : p.cells.length = 9 := rfl
abbrev PacketV.op (p : PacketV) : OpV := p.f.o
abbrev PacketV.d (p : PacketV) : PacketD := ⟨p.ep, p.nu, p.b, p.ak, p.f.d⟩
structure PacketsIn (w : World) (A : Option Addr) (L : List PacketV) : Prop where
 row : Sl (· < w.heap.size) w 9 A L.length (L.flatMap PacketV.cells)
 each : ∀ p ∈ L, OpIn (· < w.heap.size) w p.f.o.A p.f.o.ps
theorem PacketsIn.later {w w' : World} {A : Option Addr} {L : List PacketV} (h : PacketsIn w A L) (hb : Below w.heap.size w w') : PacketsIn w' A L := ⟨h.row.later hb, fun r hr => Sl.later (h.each r hr) hb⟩
theorem PacketsIn.nil (w : World) : PacketsIn w none [] := ⟨Sl.nil, by simp⟩
theorem PacketsIn.at_ {w : World} {A : Option Addr} {L : List PacketV} (h : PacketsIn w A L) {k : Nat} (hk : k < L.length) :
 ∃ b o, A = some ⟨b, o, none⟩ ∧ b < w.heap.size ∧ w.cell? ⟨b, o + k * 9, none⟩ = some (.int .i64 L[k].ep) ∧ w.cell? ⟨b, o + k * 9 + 1, none⟩ = some (.int .i64 L[k].nu) ∧ w.cell? ⟨b, o + k * 9 + 2, none⟩ = some (.bool L[k].b) ∧ w.cell? ⟨b, o + k * 9 + 3, none⟩ = some (.int .i64 L[k].ak) ∧
  w.cell? ⟨b, o + k * 9 + 4, none⟩ = some (.int .i64 L[k].f.k) ∧ w.cell? ⟨b, o + k * 9 + 5, none⟩ = some (.int .i64 L[k].f.h) ∧ w.cell? ⟨b, o + k * 9 + 6, none⟩ = some (.int .i64 L[k].f.e) ∧
  w.cell? ⟨b, o + k * 9 + 7, none⟩ = some (.slice L[k].f.o.A L[k].f.o.ps.length L[k].f.o.c) ∧ w.cell? ⟨b, o + k * 9 + 8, none⟩ = some (.string L[k].f.s) ∧ OpIn (· < w.heap.size) w L[k].f.o.A L[k].f.o.ps := by
 obtain ⟨b, o, e, hb, hc⟩ := x_ PacketV.cells 9 PacketV.cells_len h.row hk
 exact ⟨b, o, e, hb, hc 0 _ rfl, hc 1 _ rfl, hc 2 _ rfl, hc 3 _ rfl, hc 4 _ rfl, hc 5 _ rfl, hc 6 _ rfl, hc 7 _ rfl, hc 8 _ rfl, h.each _ (List.getElem_mem hk)⟩
end Go.Proofs.YtacacoklddogmaaGreatDoor
