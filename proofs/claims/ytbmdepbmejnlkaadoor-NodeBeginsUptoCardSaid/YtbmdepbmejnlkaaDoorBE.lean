/-
  wherrylaw.EdgeChecks returns true for every edge, where what it reads is of bulk at most 1048576, and unicode/utf8's two tables are as their text lays them.
  Contracts of slices.Clone of an operation, of edge.own and of the reference's EdgeCopy.
  Rows of records: that came in, and that the call owns, each record's parts in blocks of their own.
  Contracts of the copies of one frame, and of link.packet, link.bare and the reference's packetAt.
  Contract of the reference's framesCopy: a row of frames of the call's own.
  Contracts of wire.CheckPacket and its reference PacketFault.
  The laws' sameFrame, samePacket and samePackets, where both read the same.
-/
import Derived.Test.YtbmdepbmejnlkaaDoorRows
import Derived.Test.YtbmdepbmejnlkaaDoorDoor
import Derived.Test.YtbmdepbmejnlkaaDoorBC
import Derived.Test.YtbmdepbmejnlkaaDoorBD
import Derived.Test.YtbmdepbmejnlkaaDoorBA
import Derived.Test.YtbmdepbmejnlkaaDoorFrames
namespace Go.Proofs.YtbmdepbmejnlkaaDoor
open Go.ChangeShapes Go.WideShapes Go.ChangeAt Go.RowKit
set_option maxRecDepth 100000
theorem EdgeCheck_c (w : World) (s h : Int) (A : Option Addr) (c : Nat) (L : List OpV) (hT : Tabs w) (hs : OpsIn w A L) (hm : ∀ o ∈ L, o.Small) :
    Calls Tryd.prog 45 #[edgeV s h A L.length c] w fun r w' => r = .returned (.int .i64 (edgeErr s h L)) ∧ Below w.heap.size w w' := by
  by_cases hg : ((0 ≤ s ∧ s ≤ 1048576) ∧ (0 ≤ h ∧ h ≤ 1048576)) ∧ (L.length : Int) ≤ s
  · exact EdgeCheck_loop w s h A c L hg.1.1.1 hg.1.1.2 hg.1.2.1 hg.1.2.2 hg.2 hT hs hm
  · rw [show edgeErr s h L = 9 from if_neg fun k => hg ⟨k.1, k.2.1⟩]
    by_cases h1 : s < 0
    · exact EdgeCheck_head1 w s h A c L h1
    by_cases h2 : 1048576 < s
    · exact EdgeCheck_head2 w s h A c L h2
    by_cases h3 : h < 0
    · exact EdgeCheck_head3 w s h A c L (by omega) (by omega) h3
    by_cases h4 : 1048576 < h
    · exact EdgeCheck_head4 w s h A c L (by omega) (by omega) h4
    exact EdgeCheck_head5 w s h A c L (by omega) (by omega) (by omega) (by omega) (by omega)
theorem EdgeMay_c (w : World) (s h : Int) (A : Option Addr) (c : Nat) (L : List OpV) (hT : Tabs w) (hs : OpsIn w A L) (hm : ∀ o ∈ L, o.Small) :
    Calls Tryd.prog 50 #[edgeV s h A L.length c] w fun r w' => r = .returned (.bool (edgeB s h L)) ∧ Below w.heap.size w w' := by
  by_cases hg : ((0 ≤ s ∧ s ≤ 1048576) ∧ (0 ≤ h ∧ h ≤ 1048576)) ∧ (L.length : Int) ≤ s
  · exact EdgeMay_loop w s h A c L hg.1.1.1 hg.1.1.2 hg.1.2.1 hg.1.2.2 hg.2 hT hs hm
  · rw [show edgeB s h L = false from decide_eq_false fun k => hg ⟨k.1, k.2.1⟩]
    by_cases h1 : s < 0 ∨ 1048576 < s
    · exact EdgeMay_head1 w s h A c L (Lib.hid h1)
    by_cases h2 : h < 0 ∨ 1048576 < h
    · exact EdgeMay_head2 w s h A c L (by omega) (by omega) (Lib.hid h2)
    exact EdgeMay_head3 w s h A c L (by omega) (by omega) (by omega) (by omega) (by omega)
namespace edgeChecks
end edgeChecks
end Go.Proofs.YtbmdepbmejnlkaaDoor
namespace Go.Proofs.YtbmdepbmejnlkaaDoor
open Go.ChangeShapes Go.WideShapes Go.ChangeAt Go.RowKit
set_option maxRecDepth 100000
theorem CloneOp_c (w : World) (A : Option Addr) (c : Nat) (ps : List PartD) (hs : OpIn (· < w.heap.size) w A ps) (hm : ps.length ≤ 1048576) :
    Calls Tryd.prog 48 #[.slice A ps.length c] w (RetOp w ps) := by
  obtain ⟨i0, hi, hz0, hz1, hz2⟩ := info_parts infoPart
  rcases A with _ | ad
  · have hb : ps = [] := by
      rcases Nat.eq_zero_or_pos ps.length with h | h
      · exact List.eq_nil_of_length_eq_zero h
      · obtain ⟨_, _, h, _⟩ := hs.2 h
        cases h
    subst hb
    have hnil := fun wx => Lib.run_eql_slice_nil (P := Tryd.prog) wx 43 90 none 0 c 0 0 Tryd.underlying43
    go_enter Tryd.func48, Tryd.ntmps48
    go_wp2
    go_ret
    exact ⟨none, 0, by simp, World.ownsRow_nil _ _ _ _, Below.refl _ _⟩
  · have hnil := fun wx => Lib.run_eql_slice_nil (P := Tryd.prog) wx 43 90 (some ad) ps.length c 0 0 Tryd.underlying43
    go_enter Tryd.func48, Tryd.ntmps48
    go_wp2_with (at_builtin; refine wpList_append_sl _ rfl _ _ 43 rfl w.heap.size 90 i0 (.agg #[.int .i64 0, .int .i64 0, .string ⟨#[]⟩]) 3 32 Tryd.underlying43 hi hz0 hz1 hz2 rfl (by decide) _ _ _ rfl (World.ownsRow_lit w #[] 0 (Nat.le_refl _) (by unfold maxLen; omega) rfl) _ _ _ _ _ rfl (hs.later (bAlloc (Below.refl _ _) _)) (part_one ps) ?c1 ?c2 ?c3 ?_)
    case c1 => unfold maxLen; omega
    case c2 => omega
    case c3 => simp
    intro A' c' w1 hown hgrow hat
    go_wp2
    go_ret
    exact ⟨A', c', by simp, hown, (bAlloc (Below.refl _ _) _).grown hgrow (by simp) (fun k hk => by simp [Value.ownBlock] at hk; omega)⟩
theorem infoOp : (Tryd.prog.info? 43).map (fun i => (i.zero, i.size, i.bytes)) = some (some (.slice none 0 0), 1, 24) := by kernel_rfl
/-- A row of operations that the call owns, their parts in blocks of their own. -/
structure OpsOwn (w : World) (base : Nat) (A : Option Addr) (c : Nat) (L : List OpV) : Prop where
  row : w.ownsRow base 43 1 (.slice A L.length c) L.length (L.map OpV.val)
  each : ∀ o ∈ L, OpIn (fun b => (base ≤ b ∧ b < w.heap.size) ∧ (Value.slice A L.length c).ownBlock ≠ some b) w o.A o.ps
theorem Sl.moved {S S' : Nat → Prop} {w w' : World} {n m : Nat} {A : Option Addr} {xs : List Value} (h : Sl S w n A m xs) (k : ∀ b, S b → S' b ∧ w'.heap[b]? = w.heap[b]?) : Sl S' w' n A m xs := by
  refine ⟨h.1, fun h0 => ?_⟩
  obtain ⟨b, o, e, hb, hc⟩ := h.2 h0
  exact ⟨b, o, e, (k b hb).1, fun j u hu => (World.cell?_of_block (w := w) (a := ⟨b, o + j, none⟩) (k b hb).2).trans (hc j u hu)⟩
theorem OpsOwn.kept {w w' : World} {base : Nat} {A : Option Addr} {c : Nat} {L : List OpV} (h : OpsOwn w base A c L) (hs : w.heap.size ≤ w'.heap.size) (hk : ∀ b, base ≤ b → b < w.heap.size → w'.heap[b]? = w.heap[b]?) : OpsOwn w' base A c L := by
  refine ⟨⟨h.row.1, ?_⟩, fun o ho => (h.each o ho).moved fun b hb => ⟨⟨⟨hb.1.1, Nat.lt_of_lt_of_le hb.1.2 hs⟩, hb.2⟩, hk b hb.1.1 hb.1.2⟩⟩
  rcases h.row.2 with hn | ⟨g, cap, cur, e, hb, hg, rest⟩
  · exact .inl hn
  · exact .inr ⟨g, cap, cur, e, hb, (hk g hb (Array.getElem?_eq_some_iff.1 hg).1).trans hg, rest⟩
theorem OpsOwn.nil (w : World) (base : Nat) : OpsOwn w base none 0 [] := ⟨World.ownsRow_nil _ _ _ _, by simp⟩
theorem OpsOwn.mono {w : World} {base base' : Nat} {A : Option Addr} {c : Nat} {L : List OpV} (h : OpsOwn w base A c L) (hb : base' ≤ base) : OpsOwn w base' A c L :=
  ⟨⟨h.row.1, h.row.2.imp id fun ⟨g, cap, cur, e, hg, rest⟩ => ⟨g, cap, cur, e, Nat.le_trans hb hg, rest⟩⟩, fun o ho => (h.each o ho).moved fun _ hx => ⟨⟨⟨Nat.le_trans hb hx.1.1, hx.1.2⟩, hx.2⟩, rfl⟩⟩
theorem OpsOwn.in_ {w : World} {base : Nat} {A : Option Addr} {c : Nat} {L : List OpV} (h : OpsOwn w base A c L) : OpsIn w A L :=
  ⟨(Sl.of_own _ h.row).moved fun _ hx => ⟨hx.2, rfl⟩, fun o ho => (h.each o ho).moved fun _ hx => ⟨hx.1.2, rfl⟩⟩
/-- One operation more: its parts new, the row as it was or new. -/
theorem OpsOwn.push {wr W2 w3 : World} {base : Nat} {Ao A' A2 : Option Addr} {co c' c2 : Nat} {L : List OpV} {qp : List PartD} {o : Obj} (hO : OpsOwn wr base Ao co L) (hbs : base ≤ wr.heap.size) (hW : Below wr.heap.size wr W2)
    (ho2 : W2.ownsRow wr.heap.size 90 3 (.slice A2 qp.length c2) qp.length (opCells qp)) (hg : (W2.alloc o).grownBy w3 (Value.slice Ao L.length co).ownBlock)
    (hown : w3.ownsRow base 43 1 (.slice A' (L.length + 1) c') (L.length + 1) (L.map OpV.val ++ [.slice A2 qp.length c2]))
    (hat : (Value.slice A' (L.length + 1) c').ownBlock = (Value.slice Ao L.length co).ownBlock ∨ (Value.slice A' (L.length + 1) c').ownBlock = some (W2.alloc o).heap.size) : OpsOwn w3 base A' c' (L ++ [⟨A2, c2, qp⟩]) := by
  have hs2 := hW.size
  have hs3 := hg.size
  simp at hs3
  have hlen : (L ++ [(⟨A2, c2, qp⟩ : OpV)]).length = L.length + 1 := by simp
  have hold : ∀ b, b < W2.heap.size → (Value.slice Ao L.length co).ownBlock ≠ some b → w3.heap[b]? = W2.heap[b]? := fun b hb hne =>
    (hg.block b (by simp; omega) (fun e => hne e.symm)).trans (heap_alloc_old _ _ b hb)
  have hnew : ∀ b, b < W2.heap.size → (Value.slice Ao L.length co).ownBlock ≠ some b → (Value.slice A' (L.length + 1) c').ownBlock ≠ some b := fun b hb hne e => by
    rcases hat with h | h
    · exact hne (h.symm.trans e)
    · rw [h] at e
      simp at e
      omega
  refine ⟨by rw [hlen]; simpa using hown, fun p hp => ?_⟩
  rw [hlen]
  rcases List.mem_append.1 hp with hp | hp
  · refine (hO.each p hp).moved fun b hb => ⟨⟨⟨hb.1.1, by omega⟩, hnew b (by omega) hb.2⟩, (hold b (by omega) hb.2).trans (hW.block b hb.1.2)⟩
  · obtain rfl : p = ⟨A2, c2, qp⟩ := by simpa using hp
    refine (Sl.of_own _ ho2).moved fun b hb => ?_
    have hne : (Value.slice Ao L.length co).ownBlock ≠ some b := fun e => by have := (hO.row.lt b e).2; omega
    exact ⟨⟨⟨by omega, by omega⟩, hnew b (by omega) hne⟩, hold b hb.2 hne⟩
theorem opV_one (L : List OpV) : ∀ u ∈ L.map OpV.val, u.oneCell' = true := by
  intro u hu
  obtain ⟨o, _, rfl⟩ := List.mem_map.1 hu
  rfl
/-- The block of an edge's own three cells. -/
abbrev EdgeAt (w : World) (X : Nat) (s h : Int) (A : Option Addr) (n c : Nat) : Prop := w.heap[X]? = some (.cells #[.int .i64 s, .int .i64 h, .slice A n c] 41 (0, 0))
theorem own_grow {w : World} {base size n d : Nat} {os : Array Obj} {e : TypeId} {v : Value} {xs : List Value} (h : w.ownsRow base e size v n xs) : (Go.Sort.grow (redrawn w d) os).ownsRow base e size v n xs := by
  have hb := below_regrown w d os
  exact h.kept (row := none) ⟨hb.os, hb.tape, hb.output, hb.size, fun k hk _ => hb.block k hk⟩ (by cases v.ownBlock <;> simp)
theorem at_after {wr w3 : World} {X d : Nat} {os : Array Obj} {o ob : Obj} {v : Value} (hX : wr.heap[X]? = some ob) (hne : v.ownBlock ≠ some X) (hg : ((Go.Sort.grow (redrawn wr d) os).alloc o).grownBy w3 v.ownBlock) : w3.heap[X]? = some ob := by
  have hl : X < wr.heap.size := (Array.getElem?_eq_some_iff.1 hX).1
  exact (hg.block X (by simp; omega) (fun e => hne e.symm)).trans ((heap_alloc_old _ _ X (by simp; omega)).trans (((below_regrown _ _ _).block X hl).trans hX))
theorem op_top {W : World} {cs : List Value} {t : TypeId} {n : Nat} {A : Option Addr} (hl : cs.length = n * 1) (hA : A = some ⟨W.heap.size, 0, none⟩) : Sl (fun _ => True) (W.alloc (.cells cs.toArray t)) 1 A n cs := by
  subst hA
  exact Sl.new W cs t 1 n hl trivial
theorem three_set0 {w : World} {B : Nat} {v u z x : Value} {t : TypeId} (h : w.heap[B]? = some (.cells #[v, u, z] t (0, 0))) : (w.setCell ⟨B, 0, none⟩ x).heap[B]? = some (.cells #[x, u, z] t (0, 0)) := by
  rw [heap_setCell_same w B 0 _ _ _ h]
  rfl
theorem own_low {w : World} {base : Nat} {e : TypeId} {size n k : Nat} {v : Value} {xs : List Value} (h : w.ownsRow base e size v n xs) (hk : k < base) : v.ownBlock ≠ some k := fun e1 => by have := (h.lt k e1).1; omega
theorem push_frame {w wr W2 w3 : World} {o : Obj} {ob : Option Nat} (hbw : Below w.heap.size w wr) (hW : Below wr.heap.size wr W2) (hg : (W2.alloc o).grownBy w3 ob) (hob : ∀ g, ob = some g → w.heap.size ≤ g) : Below w.heap.size w w3 :=
  (bAlloc (bThen hbw hW) o).grown hg (by have := hbw.size; have := hW.size; simp; omega) hob
/-- A call that hands back an edge of these operations, in memory of its own. -/
def RetEdge (w : World) (s h : Int) (L : List OpV) (e : Ending) (w' : World) : Prop :=
  ∃ A' c' L', e = .returned (edgeV s h A' L'.length c') ∧ L'.map OpV.ps = L.map OpV.ps ∧ OpsOwn w' w.heap.size A' c' L' ∧ Below w.heap.size w w'
set_option maxHeartbeats 1000000 in
theorem EdgeCopy_c (w : World) (s h : Int) (A : Option Addr) (c : Nat) (L : List OpV) (hs : OpsIn w A L) (hl : L.length ≤ 1048576) (hm : ∀ o ∈ L, o.Small) :
    Calls Tryd.prog 13 #[edgeV s h A L.length c] w (RetEdge w s h L) := by
  obtain ⟨i0, hi, hz0, hz1, hz2⟩ := info_parts infoOp
  obtain ⟨W1, hW1⟩ : ∃ W1, W1 = w.alloc (.cells #[.int .i64 s, .int .i64 h, .slice A L.length c] 41) := ⟨_, rfl⟩
  obtain ⟨W2, hW2⟩ : ∃ W2, W2 = W1.alloc (.cells #[.int .i64 0, .int .i64 0, .slice none 0 0] 41) := ⟨_, rfl⟩
  obtain ⟨WA, hWA⟩ : ∃ WA, WA = W2.alloc (.cells #[.int .i64 s, .int .i64 h, .slice none 0 0] 41) := ⟨_, rfl⟩
  have g1 : W1.heap.size = w.heap.size + 1 := by rw [hW1]; simp
  have g2 : W2.heap.size = W1.heap.size + 1 := by rw [hW2]; simp
  have g3 : WA.heap.size = W2.heap.size + 1 := by rw [hWA]; simp
  have k1 : Below w.heap.size w W1 := by rw [hW1]; exact bAlloc (Below.refl _ _) _
  have k2 : Below W1.heap.size W1 W2 := by rw [hW2]; exact bAlloc (Below.refl _ _) _
  have k3 : Below W2.heap.size W2 WA := by rw [hWA]; exact bAlloc (Below.refl _ _) _
  have HEA := Lib.hid (show EdgeAt WA w.heap.size s h A L.length c from (k3.block _ (by omega)).trans ((k2.block _ (by omega)).trans (by rw [hW1]; show (w.heap.push _)[w.heap.size]? = _; simp)))
  have HRA := Lib.hid (show EdgeAt WA W1.heap.size 0 0 none 0 0 from (k3.block _ (by omega)).trans (by rw [hW2]; show (W1.heap.push _)[W1.heap.size]? = _; simp))
  have HXA := Lib.hid (show EdgeAt WA W2.heap.size s h none 0 0 by rw [hWA]; show (W2.heap.push _)[W2.heap.size]? = _; simp)
  have HBA := Lib.hid (bThen k1 (bThen k2 k3))
  have HW := Lib.hid (show ((w.alloc (.cells #[.int .i64 s, .int .i64 h, .slice A L.length c] 41)).alloc (.cells #[.int .i64 0, .int .i64 0, .slice none 0 0] 41)).alloc (.cells #[.int .i64 s, .int .i64 h, .slice none 0 0] 41) = WA by rw [hWA, hW2, hW1])
  obtain ⟨R, hR⟩ : ∃ R, R = W1.heap.size := ⟨_, rfl⟩
  obtain ⟨X, hX⟩ : ∃ X, X = W2.heap.size := ⟨_, rfl⟩
  have HE1 := Lib.hid (show w.heap.size + 1 + 1 = X by omega)
  have HE2 := Lib.hid (show w.heap.size + 1 = R by omega)
  have hRB : w.heap.size < R := by omega
  have hBX : R < X := by omega
  have hXz : X < WA.heap.size := by omega
  rw [← hR] at HRA
  rw [← hX] at HXA
  have HS := Lib.hid hs
  have HM := Lib.hid hm
  clear hR hX k1 k2 k3 g1 g2 g3 hWA hW2 hW1 hs hm
  go_enter Tryd.func13, Tryd.ntmps13
  go_wp2_with fail
  rw [HW.out, HE1.out, HE2.out]
  go_loopw [4] (fun i wr => ∃ (k : Nat) (L' : List OpV) (Ao : Option Addr) (co : Nat), k ≤ L.length ∧ i = .int .i64 k ∧ L'.length = k ∧ Hid (L'.map OpV.ps = (L.take k).map OpV.ps) ∧ EdgeAt wr X s h Ao k co ∧ OpsOwn wr WA.heap.size Ao co L' ∧ EdgeAt wr w.heap.size s h A L.length c ∧ EdgeAt wr R 0 0 none 0 0 ∧ Below w.heap.size w wr ∧ WA.heap.size ≤ wr.heap.size) (fun i _ => L.length - (intOf i).toNat)
  case atStart => exact ⟨0, [], none, 0, Nat.zero_le _, rfl, rfl, rfl, HXA.out, OpsOwn.nil _ _, HEA.out, HRA.out, HBA.out, Nat.le_refl _⟩
  case round =>
    obtain ⟨k, L', Ao, co, hk, rfl, hL', hps, hX, hown, hE, hR, hbw, hsz⟩ := hrel
    subst hL'
    obtain ⟨x0, x1, x2, f0, f1, f2, hxl⟩ := three_cell hX
    obtain ⟨e0, e1, e2, _, _, _, hel⟩ := three_cell hE
    by_cases hlt : L'.length < L.length
    · obtain ⟨b, o, rfl, hbs, g0, hop⟩ := (OpsIn.later HS.out hbw).at_ hlt
      have HC := Lib.hid (OpCopy_c wr L[L'.length].A L[L'.length].c L[L'.length].ps)
      generalize hq : L[L'.length] = q at *
      obtain ⟨qA, qc, qp⟩ := q
      dsimp only at *
      have HC := Lib.hid (fun W hs => OpCopy_c W qA qc qp hs (by have := (HM.out _ (List.getElem_mem hlt)).len; rw [hq] at this; exact this))
      have HOP := Lib.hid hop
      have HO := Lib.hid hown
      have HX := Lib.hid hX
      have HNE := Lib.hid (own_apart hown.row hX (by decide))
      clear hop hown hX
      go_wp2_with fail
      go_region_law (first
        | (refine step_append_sl _ rfl _ _ 25 rfl WA.heap.size 43 i0 (.slice none 0 0) 1 24 Tryd.underlying25 hi hz0 hz1 hz2 rfl (by decide) _ _ _ rfl (World.ownsRow.alloc (own_grow HO.out.row) _) (fun _ => True) _ _ _ _ rfl (op_top rfl (by simp)) ?_ ?_ ?_ ?_ ?_; (intro u hu; simp at hu; subst hu; rfl); (unfold maxLen; omega); omega; (simp; omega); intro A' c' w3 hown' hgrow hat; obtain ⟨y0, y1, y2, y3, y4, y5, y6⟩ := three_cell (at_after HX.out HNE.out hgrow))
        | (go_simp; go_at_call 14; refine (HC.out _ ?_).mono ?_; exact HOP.out; rintro e w2 ⟨A2, c2, rfl, ho2, hb2⟩; obtain ⟨⟨d2, os2⟩, rfl⟩ := beyond_of hb2))
      all_goals (
        have HB2 : Below wr.heap.size wr (Go.Sort.grow (redrawn wr d2) os2) := ⟨hb2.os, hb2.tape, hb2.output, hb2.size, hb2.block⟩
        have ho3 : (Go.Sort.grow (redrawn wr d2) os2).ownsRow wr.heap.size 90 3 (.slice A2 qp.length c2) qp.length (opCells qp) := ho2
        have hE3 := at_after hE (own_low HO.out.row (by omega)) hgrow
        have hR3 := at_after hR (own_low HO.out.row (by omega)) hgrow
        have hX3 := at_after HX.out HNE.out hgrow
        have hP := HO.out.push hsz HB2 ho3 hgrow hown' hat
        have hF := push_frame hbw HB2 hgrow (fun g hg => Nat.le_trans HBA.out.size (HO.out.row.lt g hg).1)
        have hS3 := hgrow.size
        have hS2 := HB2.size
        clear hown' hgrow hat ho2 ho3 hb2 HB2 y0 y1 y2 y3 y4 y5 y6
        refine post_hide (fun G => EdgeAt G X s h A' (L'.length + 1) c' ∧ OpsOwn G WA.heap.size A' c' (L' ++ [⟨A2, c2, qp⟩]) ∧ EdgeAt G w.heap.size s h (some ⟨b, o, none⟩) L.length c ∧ EdgeAt G R 0 0 none 0 0 ∧ Below w.heap.size w G ∧ WA.heap.size ≤ G.heap.size) ⟨three_set2 hX3, hP.kept (by simp [World.setCell]) (fun g hg _ => Below.heap_setCell _ _ _ _ (by show g ≠ X; omega)), (Below.heap_setCell _ _ _ _ (by show w.heap.size ≠ X; omega)).trans hE3, (Below.heap_setCell _ _ _ _ (by show R ≠ X; omega)).trans hR3, bSet hF (by show w.heap.size ≤ X; omega) _, by simp [World.setCell]; simp at hS3; omega⟩ ?_
        rintro G ⟨hX4, hP4, hE4, hR4, hF4, hS4⟩
        clear hE3 hR3 hX3 hP hF hS3 hS2
        go_wp2_with fail
        go_roundw
        case rel => exact ⟨L'.length + 1, L' ++ [⟨A2, c2, qp⟩], A', c', by omega, by go_num, by simp, by rw [List.map_append, hps.out, List.take_succ_eq_append_getElem hlt, List.map_append, hq]; rfl, hX4, hP4, hE4, hR4, hF4, hS4⟩
        case measure => simp [intOf]; omega)
    · obtain hk' : L'.length = L.length := by omega
      rw [hk', List.take_length] at hps
      have HO := Lib.hid hown
      obtain ⟨r0, r1, r2, q0, q1, q2, hrz⟩ := three_cell hR
      clear hown
      go_wp2_with fail
      have HR3 : EdgeAt (((wr.setCell ⟨R, 0, none⟩ (.int .i64 s)).setCell ⟨R, 1, none⟩ (.int .i64 h)).setCell ⟨R, 2, none⟩ (.slice Ao L.length co)) R s h Ao L.length co := three_set2 (three_set1 (three_set0 hR))
      have HO3 := HO.out.kept (w' := ((wr.setCell ⟨R, 0, none⟩ (.int .i64 s)).setCell ⟨R, 1, none⟩ (.int .i64 h)).setCell ⟨R, 2, none⟩ (.slice Ao L.length co)) (by simp [World.setCell]) (fun g hg _ => (Below.heap_setCell _ _ _ _ (by show g ≠ R; omega)).trans ((Below.heap_setCell _ _ _ _ (by show g ≠ R; omega)).trans (Below.heap_setCell _ _ _ _ (by show g ≠ R; omega))))
      have HF3 := bSet (bSet (bSet hbw (p := ⟨R, 0, none⟩) (Nat.le_of_lt hRB) (.int .i64 s)) (p := ⟨R, 1, none⟩) (Nat.le_of_lt hRB) (.int .i64 h)) (p := ⟨R, 2, none⟩) (Nat.le_of_lt hRB) (.slice Ao L.length co)
      refine post_hide (fun G => EdgeAt G R s h Ao L.length co ∧ OpsOwn G WA.heap.size Ao co L' ∧ Below w.heap.size w G) ⟨HR3, HO3, HF3⟩ ?_
      rintro G ⟨hR4, hO4, hF4⟩
      obtain ⟨t0, t1, t2, _, _, _, _⟩ := three_cell hR4
      clear HR3 HO3 HF3
      refine bodyPost_ret (v := edgeV s h Ao L.length co) (by simp [results, Tryd.results13, go_sem, t0, t1, t2]) rfl ?_
      exact ⟨Ao, co, L', by rw [hk'], hps.out, hO4.mono HBA.out.size, hF4⟩
end Go.Proofs.YtbmdepbmejnlkaaDoor
namespace Go.Proofs.YtbmdepbmejnlkaaDoor
open Go.ChangeShapes Go.WideShapes Go.ChangeAt Go.RowKit
set_option maxRecDepth 100000
/-- A record as a slice's cells hold it. -/
structure RecV where
  ep : Int
  o : OpV
instance : Inhabited RecV := ⟨⟨0, ⟨none, 0, []⟩⟩⟩
def RecV.cells (r : RecV) : List Value := [.int .i64 r.ep, r.o.val]
theorem RecV.cells_len (r : RecV) : r.cells.length = 2 := rfl
structure RecsIn (w : World) (A : Option Addr) (L : List RecV) : Prop where
  row : Sl (· < w.heap.size) w 2 A L.length (L.flatMap RecV.cells)
  each : ∀ r ∈ L, OpIn (· < w.heap.size) w r.o.A r.o.ps
theorem RecsIn.later {w w' : World} {A : Option Addr} {L : List RecV} (h : RecsIn w A L) (hb : Below w.heap.size w w') : RecsIn w' A L := ⟨h.row.later hb, fun r hr => Sl.later (h.each r hr) hb⟩
theorem RecsIn.at_ {w : World} {A : Option Addr} {L : List RecV} (h : RecsIn w A L) {k : Nat} (hk : k < L.length) :
    ∃ b o, A = some ⟨b, o, none⟩ ∧ b < w.heap.size ∧ w.cell? ⟨b, o + k * 2, none⟩ = some (.int .i64 L[k].ep) ∧ w.cell? ⟨b, o + k * 2 + 1, none⟩ = some (.slice L[k].o.A L[k].o.ps.length L[k].o.c) ∧ OpIn (· < w.heap.size) w L[k].o.A L[k].o.ps := by
  obtain ⟨b, o, e, hb, hc⟩ := row_at RecV.cells 2 RecV.cells_len h.row hk
  exact ⟨b, o, e, hb, hc 0 _ rfl, hc 1 _ rfl, h.each _ (List.getElem_mem hk)⟩
theorem infoRec : (Tryd.prog.info? 121).map (fun i => (i.zero, i.size, i.bytes)) = some (some (.agg #[.int .i64 0, .slice none 0 0]), 2, 32) := by kernel_rfl
theorem rec_one (L : List RecV) : ∀ u ∈ L.flatMap RecV.cells, u.oneCell' = true := by
  intro u hu
  obtain ⟨r, _, h⟩ := List.mem_flatMap.1 hu
  simp only [RecV.cells, List.mem_cons, List.not_mem_nil, or_false] at h
  rcases h with rfl | rfl <;> rfl
/-- A row of elements that the call owns (n cells each), each element's operation in a block of its own. -/
structure RowOwn {α : Type} (t : TypeId) (n : Nat) (f : α → List Value) (op : α → OpV) (w : World) (base : Nat) (A : Option Addr) (c : Nat) (L : List α) : Prop where
  row : w.ownsRow base t n (.slice A L.length c) L.length (L.flatMap f)
  each : ∀ x ∈ L, OpIn (fun b => (base ≤ b ∧ b < w.heap.size) ∧ (Value.slice A L.length c).ownBlock ≠ some b) w (op x).A (op x).ps
section
variable {α : Type} {t : TypeId} {n : Nat} {f : α → List Value} {op : α → OpV}
theorem RowOwn.kept {w w' : World} {base : Nat} {A : Option Addr} {c : Nat} {L : List α} (h : RowOwn t n f op w base A c L) (hs : w.heap.size ≤ w'.heap.size) (hk : ∀ b, base ≤ b → b < w.heap.size → w'.heap[b]? = w.heap[b]?) : RowOwn t n f op w' base A c L := by
  refine ⟨⟨h.row.1, ?_⟩, fun o ho => (h.each o ho).moved fun b hb => ⟨⟨⟨hb.1.1, Nat.lt_of_lt_of_le hb.1.2 hs⟩, hb.2⟩, hk b hb.1.1 hb.1.2⟩⟩
  rcases h.row.2 with hn | ⟨g, cap, cur, e, hb, hg, rest⟩
  · exact .inl hn
  · exact .inr ⟨g, cap, cur, e, hb, (hk g hb (Array.getElem?_eq_some_iff.1 hg).1).trans hg, rest⟩
theorem RowOwn.later {w w' : World} {base : Nat} {A : Option Addr} {c : Nat} {L : List α} (h : RowOwn t n f op w base A c L) (hb : Below w.heap.size w w') : RowOwn t n f op w' base A c L := h.kept hb.size fun b _ hl => hb.block b hl
theorem RowOwn.nil (w : World) (base : Nat) : RowOwn t n f op w base none 0 [] := ⟨World.ownsRow_nil _ _ _ _, by simp⟩
theorem RowOwn.mono {w : World} {base base' : Nat} {A : Option Addr} {c : Nat} {L : List α} (h : RowOwn t n f op w base A c L) (hb : base' ≤ base) : RowOwn t n f op w base' A c L :=
  ⟨⟨h.row.1, h.row.2.imp id fun ⟨g, cap, cur, e, hg, rest⟩ => ⟨g, cap, cur, e, Nat.le_trans hb hg, rest⟩⟩, fun o ho => (h.each o ho).moved fun _ hx => ⟨⟨⟨Nat.le_trans hb hx.1.1, hx.1.2⟩, hx.2⟩, rfl⟩⟩
/-- One element more: its operation new, the row as it was or new. -/
theorem RowOwn.push {wr W2 w3 : World} {base : Nat} {Ao A' : Option Addr} {co c' : Nat} {L : List α} {x : α} {o : Obj} (hO : RowOwn t n f op wr base Ao co L) (hbs : base ≤ wr.heap.size) (hW : Below wr.heap.size wr W2)
    (hx : OpIn (fun b => wr.heap.size ≤ b ∧ b < W2.heap.size) W2 (op x).A (op x).ps) (hg : (W2.alloc o).grownBy w3 (Value.slice Ao L.length co).ownBlock)
    (hown : w3.ownsRow base t n (.slice A' (L.length + 1) c') (L.length + 1) (L.flatMap f ++ f x))
    (hat : (Value.slice A' (L.length + 1) c').ownBlock = (Value.slice Ao L.length co).ownBlock ∨ (Value.slice A' (L.length + 1) c').ownBlock = some (W2.alloc o).heap.size) : RowOwn t n f op w3 base A' c' (L ++ [x]) := by
  have hs2 := hW.size
  have hs3 := hg.size
  simp at hs3
  have hlen : (L ++ [x]).length = L.length + 1 := by simp
  have hold : ∀ b, b < W2.heap.size → (Value.slice Ao L.length co).ownBlock ≠ some b → w3.heap[b]? = W2.heap[b]? := fun b hb hne =>
    (hg.block b (by simp; omega) (fun e => hne e.symm)).trans (heap_alloc_old _ _ b hb)
  have hnew : ∀ b, b < W2.heap.size → (Value.slice Ao L.length co).ownBlock ≠ some b → (Value.slice A' (L.length + 1) c').ownBlock ≠ some b := fun b hb hne e => by
    rcases hat with h | h
    · exact hne (h.symm.trans e)
    · rw [h] at e
      simp at e
      omega
  refine ⟨by rw [hlen]; simpa using hown, fun p hp => ?_⟩
  rw [hlen]
  rcases List.mem_append.1 hp with hp | hp
  · refine (hO.each p hp).moved fun b hb => ⟨⟨⟨hb.1.1, by omega⟩, hnew b (by omega) hb.2⟩, (hold b (by omega) hb.2).trans (hW.block b hb.1.2)⟩
  · obtain rfl : p = x := by simpa using hp
    refine hx.moved fun b hb => ?_
    have hne : (Value.slice Ao L.length co).ownBlock ≠ some b := fun e => by have := (hO.row.lt b e).2; omega
    exact ⟨⟨⟨by omega, by omega⟩, hnew b (by omega) hne⟩, hold b hb.2 hne⟩
end
abbrev RecsOwn (w : World) (base : Nat) (A : Option Addr) (c : Nat) (L : List RecV) : Prop := RowOwn 121 2 RecV.cells RecV.o w base A c L
theorem RecsOwn.in_ {w : World} {base : Nat} {A : Option Addr} {c : Nat} {L : List RecV} (h : RecsOwn w base A c L) : RecsIn w A L :=
  ⟨(Sl.of_own _ h.row).moved fun _ hx => ⟨hx.2, rfl⟩, fun o ho => (h.each o ho).moved fun _ hx => ⟨hx.1.2, rfl⟩⟩
end Go.Proofs.YtbmdepbmejnlkaaDoor
namespace Go.Proofs.YtbmdepbmejnlkaaDoor
open Go.ChangeShapes Go.WideShapes Go.ChangeAt Go.RowKit
set_option maxRecDepth 100000
theorem five_cell {w : World} {B : Nat} {v0 v1 v2 v3 v4 : Value} {t : TypeId} (h : w.heap[B]? = some (.cells #[v0, v1, v2, v3, v4] t (0, 0))) :
    w.cell? ⟨B, 0, none⟩ = some v0 ∧ w.cell? ⟨B, 1, none⟩ = some v1 ∧ w.cell? ⟨B, 2, none⟩ = some v2 ∧ w.cell? ⟨B, 3, none⟩ = some v3 ∧ w.cell? ⟨B, 4, none⟩ = some v4 ∧
      w.frozen? ⟨B, 0, none⟩ = false ∧ w.frozen? ⟨B, 1, none⟩ = false ∧ w.frozen? ⟨B, 2, none⟩ = false ∧ w.frozen? ⟨B, 3, none⟩ = false ∧ w.frozen? ⟨B, 4, none⟩ = false ∧ B < w.heap.size :=
  ⟨by simp [World.cell?, h], by simp [World.cell?, h], by simp [World.cell?, h], by simp [World.cell?, h], by simp [World.cell?, h], by simp [World.frozen?, h], by simp [World.frozen?, h], by simp [World.frozen?, h], by simp [World.frozen?, h], by simp [World.frozen?, h], (Array.getElem?_eq_some_iff.1 h).1⟩
theorem any_set {w : World} {B : Nat} {vs : Array Value} {t : TypeId} (j : Nat) (x : Value) (h : w.heap[B]? = some (.cells vs t (0, 0))) : (w.setCell ⟨B, j, none⟩ x).heap[B]? = some (.cells (vs.setIfInBounds j x) t (0, 0)) := by
  rw [heap_setCell_same w B j _ _ _ h]
/-- The block of a frame's own five cells. -/
abbrev FrameAt (w : World) (X : Nat) (k h e : Int) (A : Option Addr) (n c : Nat) (s : ByteArray) : Prop := w.heap[X]? = some (.cells #[.int .i64 k, .int .i64 h, .int .i64 e, .slice A n c, .string s] 83 (0, 0))
/-- A call that hands back this frame, its operation in memory of its own. -/
def RetFrame (w : World) (f : FrameD) (e : Ending) (w' : World) : Prop :=
  ∃ A c, e = .returned (frameV f.kind f.heard f.epoch A f.op.length c f.text) ∧ OpIn (fun b => w.heap.size ≤ b ∧ b < w'.heap.size) w' A f.op ∧ Below w.heap.size w w'
set_option maxHeartbeats 1000000 in
theorem FrameCopy_c (w : World) (k h e : Int) (A : Option Addr) (c : Nat) (ps : List PartD) (s : ByteArray) (hs : OpIn (· < w.heap.size) w A ps) (hm : ps.length ≤ 1048576) :
    Calls Tryd.prog 100 #[frameV k h e A ps.length c s] w (RetFrame w ⟨k, h, e, ps, s⟩) := by
  obtain ⟨W1, hW1⟩ : ∃ W1, W1 = w.alloc (.cells #[.int .i64 k, .int .i64 h, .int .i64 e, .slice A ps.length c, .string s] 83) := ⟨_, rfl⟩
  obtain ⟨WA, hWA⟩ : ∃ WA, WA = W1.alloc (.cells #[.int .i64 0, .int .i64 0, .int .i64 0, .slice none 0 0, .string ⟨#[]⟩] 83) := ⟨_, rfl⟩
  have g1 : W1.heap.size = w.heap.size + 1 := by rw [hW1]; simp
  have g2 : WA.heap.size = W1.heap.size + 1 := by rw [hWA]; simp
  have k1 : Below w.heap.size w W1 := by rw [hW1]; exact bAlloc (Below.refl _ _) _
  have k2 : Below W1.heap.size W1 WA := by rw [hWA]; exact bAlloc (Below.refl _ _) _
  have HPA := Lib.hid (show FrameAt WA w.heap.size k h e A ps.length c s from (k2.block _ (by omega)).trans (by rw [hW1]; show (w.heap.push _)[w.heap.size]? = _; simp))
  have HRA := Lib.hid (show FrameAt WA W1.heap.size 0 0 0 none 0 0 ⟨#[]⟩ by rw [hWA]; show (W1.heap.push _)[W1.heap.size]? = _; simp)
  have HBA := Lib.hid (bThen k1 k2)
  have HW := Lib.hid (show (w.alloc (.cells #[.int .i64 k, .int .i64 h, .int .i64 e, .slice A ps.length c, .string s] 83)).alloc (.cells #[.int .i64 0, .int .i64 0, .int .i64 0, .slice none 0 0, .string ⟨#[]⟩] 83) = WA by rw [hWA, hW1])
  obtain ⟨R, hR⟩ : ∃ R, R = W1.heap.size := ⟨_, rfl⟩
  have HE := Lib.hid (show w.heap.size + 1 = R by omega)
  have hRB : w.heap.size < R := by omega
  have hRz : R < WA.heap.size := by omega
  have n1 : ¬ w.heap.size = R := by omega
  have n2 : ¬ R = w.heap.size := by omega
  rw [← hR] at HRA
  have HS := Lib.hid hs
  clear hR k1 k2 g1 g2 hWA hW1 hs
  go_enter Tryd.func100, Tryd.ntmps100
  go_wp2_with fail
  rw [HW.out, HE.out]
  refine (OpCopy_c _ A c ps (Sl.later HS.out HBA.out) hm).mono ?_
  rintro r w1 ⟨A1, c1, rfl, ho1, hb1⟩
  have hz1 := hb1.size
  have HP1 := Lib.hid (show FrameAt w1 w.heap.size k h e A ps.length c s from (hb1.block _ (by omega)).trans HPA.out)
  have HR1 := Lib.hid (show FrameAt w1 R 0 0 0 none 0 0 ⟨#[]⟩ from (hb1.block _ hRz).trans HRA.out)
  have HO1 := Lib.hid (show OpIn (fun b => R < b ∧ b < w1.heap.size) w1 A1 ps from (Sl.of_own _ ho1).moved fun b hb => ⟨⟨by omega, hb.2⟩, rfl⟩)
  have HB1 := Lib.hid (bThen HBA.out hb1)
  obtain ⟨p0, p1, p2, p3, p4, q0, q1, q2, q3, q4, hpz⟩ := five_cell HP1.out
  obtain ⟨r0, r1, r2, r3, r4, s0, s1, s2, s3, s4, hrz⟩ := five_cell HR1.out
  clear ho1 hb1
  go_wp2_with fail
  refine post_hide (fun G => FrameAt G R k h e A1 ps.length c1 s ∧ OpIn (fun b => w.heap.size ≤ b ∧ b < G.heap.size) G A1 ps ∧ Below w.heap.size w G) ⟨?_, ?_, ?_⟩ ?_
  · exact any_set 4 _ (any_set 3 _ (any_set 2 _ (any_set 1 _ (any_set 0 _ ((Below.heap_setCell _ _ _ _ n2).trans HR1.out)))))
  · exact HO1.out.moved fun b hb => ⟨⟨by omega, by simp [World.setCell]; omega⟩, have hR : b ≠ R := by omega
      have hP : b ≠ w.heap.size := by omega
      (Below.heap_setCell _ _ _ _ hR).trans ((Below.heap_setCell _ _ _ _ hR).trans ((Below.heap_setCell _ _ _ _ hR).trans ((Below.heap_setCell _ _ _ _ hR).trans ((Below.heap_setCell _ _ _ _ hR).trans (Below.heap_setCell _ _ _ _ hP)))))⟩
  · exact bSet (bSet (bSet (bSet (bSet (bSet HB1.out (p := ⟨w.heap.size, 3, none⟩) (Nat.le_refl _) _) (p := ⟨R, 0, none⟩) (Nat.le_of_lt hRB) _) (p := ⟨R, 1, none⟩) (Nat.le_of_lt hRB) _) (p := ⟨R, 2, none⟩) (Nat.le_of_lt hRB) _) (p := ⟨R, 3, none⟩) (Nat.le_of_lt hRB) _) (p := ⟨R, 4, none⟩) (Nat.le_of_lt hRB) _
  rintro G ⟨hR4, hO4, hF4⟩
  clear r0 r1 r2 r3 r4
  obtain ⟨r0, r1, r2, r3, r4, _, _, _, _, _, _⟩ := five_cell hR4
  refine bodyPost_ret (v := frameV k h e A1 ps.length c1 s) (by simp [results, Tryd.results100, go_sem, r0, r1, r2, r3, r4]) rfl ?_
  exact ⟨A1, c1, rfl, hO4, hF4⟩
set_option maxHeartbeats 1000000 in
theorem copyFrame_c (w : World) (k h e : Int) (A : Option Addr) (c : Nat) (ps : List PartD) (s : ByteArray) (hs : OpIn (· < w.heap.size) w A ps) (hm : ps.length ≤ 1048576) :
    Calls Tryd.prog 101 #[frameV k h e A ps.length c s] w (RetFrame w ⟨k, h, e, ps, s⟩) := by
  obtain ⟨W1, hW1⟩ : ∃ W1, W1 = w.alloc (.cells #[.int .i64 k, .int .i64 h, .int .i64 e, .slice A ps.length c, .string s] 83) := ⟨_, rfl⟩
  obtain ⟨WA, hWA⟩ : ∃ WA, WA = W1.alloc (.cells #[.int .i64 0, .int .i64 0, .int .i64 0, .slice none 0 0, .string ⟨#[]⟩] 83) := ⟨_, rfl⟩
  have g1 : W1.heap.size = w.heap.size + 1 := by rw [hW1]; simp
  have g2 : WA.heap.size = W1.heap.size + 1 := by rw [hWA]; simp
  have k1 : Below w.heap.size w W1 := by rw [hW1]; exact bAlloc (Below.refl _ _) _
  have k2 : Below W1.heap.size W1 WA := by rw [hWA]; exact bAlloc (Below.refl _ _) _
  have HPA := Lib.hid (show FrameAt WA w.heap.size k h e A ps.length c s from (k2.block _ (by omega)).trans (by rw [hW1]; show (w.heap.push _)[w.heap.size]? = _; simp))
  have HRA := Lib.hid (show FrameAt WA W1.heap.size 0 0 0 none 0 0 ⟨#[]⟩ by rw [hWA]; show (W1.heap.push _)[W1.heap.size]? = _; simp)
  have HBA := Lib.hid (bThen k1 k2)
  have HW := Lib.hid (show (w.alloc (.cells #[.int .i64 k, .int .i64 h, .int .i64 e, .slice A ps.length c, .string s] 83)).alloc (.cells #[.int .i64 0, .int .i64 0, .int .i64 0, .slice none 0 0, .string ⟨#[]⟩] 83) = WA by rw [hWA, hW1])
  obtain ⟨R, hR⟩ : ∃ R, R = W1.heap.size := ⟨_, rfl⟩
  have HE := Lib.hid (show w.heap.size + 1 = R by omega)
  have hRB : w.heap.size < R := by omega
  have hRz : R < WA.heap.size := by omega
  have n1 : ¬ w.heap.size = R := by omega
  have n2 : ¬ R = w.heap.size := by omega
  rw [← hR] at HRA
  have HS := Lib.hid hs
  clear hR k1 k2 g1 g2 hWA hW1 hs
  go_enter Tryd.func101, Tryd.ntmps101
  go_wp2_with fail
  rw [HW.out, HE.out]
  refine (CloneOp_c _ A c ps (Sl.later HS.out HBA.out) hm).mono ?_
  rintro r w1 ⟨A1, c1, rfl, ho1, hb1⟩
  have hz1 := hb1.size
  have HP1 := Lib.hid (show FrameAt w1 w.heap.size k h e A ps.length c s from (hb1.block _ (by omega)).trans HPA.out)
  have HR1 := Lib.hid (show FrameAt w1 R 0 0 0 none 0 0 ⟨#[]⟩ from (hb1.block _ hRz).trans HRA.out)
  have HO1 := Lib.hid (show OpIn (fun b => R < b ∧ b < w1.heap.size) w1 A1 ps from (Sl.of_own _ ho1).moved fun b hb => ⟨⟨by omega, hb.2⟩, rfl⟩)
  have HB1 := Lib.hid (bThen HBA.out hb1)
  obtain ⟨p0, p1, p2, p3, p4, q0, q1, q2, q3, q4, hpz⟩ := five_cell HP1.out
  obtain ⟨r0, r1, r2, r3, r4, s0, s1, s2, s3, s4, hrz⟩ := five_cell HR1.out
  clear ho1 hb1
  go_wp2_with fail
  refine post_hide (fun G => FrameAt G R k h e A1 ps.length c1 s ∧ OpIn (fun b => w.heap.size ≤ b ∧ b < G.heap.size) G A1 ps ∧ Below w.heap.size w G) ⟨?_, ?_, ?_⟩ ?_
  · exact any_set 4 _ (any_set 3 _ (any_set 2 _ (any_set 1 _ (any_set 0 _ ((Below.heap_setCell _ _ _ _ n2).trans HR1.out)))))
  · exact HO1.out.moved fun b hb => ⟨⟨by omega, by simp [World.setCell]; omega⟩, have hR : b ≠ R := by omega
      have hP : b ≠ w.heap.size := by omega
      (Below.heap_setCell _ _ _ _ hR).trans ((Below.heap_setCell _ _ _ _ hR).trans ((Below.heap_setCell _ _ _ _ hR).trans ((Below.heap_setCell _ _ _ _ hR).trans ((Below.heap_setCell _ _ _ _ hR).trans (Below.heap_setCell _ _ _ _ hP)))))⟩
  · exact bSet (bSet (bSet (bSet (bSet (bSet HB1.out (p := ⟨w.heap.size, 3, none⟩) (Nat.le_refl _) _) (p := ⟨R, 0, none⟩) (Nat.le_of_lt hRB) _) (p := ⟨R, 1, none⟩) (Nat.le_of_lt hRB) _) (p := ⟨R, 2, none⟩) (Nat.le_of_lt hRB) _) (p := ⟨R, 3, none⟩) (Nat.le_of_lt hRB) _) (p := ⟨R, 4, none⟩) (Nat.le_of_lt hRB) _
  rintro G ⟨hR4, hO4, hF4⟩
  clear r0 r1 r2 r3 r4
  obtain ⟨r0, r1, r2, r3, r4, _, _, _, _, _, _⟩ := five_cell hR4
  refine bodyPost_ret (v := frameV k h e A1 ps.length c1 s) (by simp [results, Tryd.results101, go_sem, r0, r1, r2, r3, r4]) rfl ?_
  exact ⟨A1, c1, rfl, hO4, hF4⟩
end Go.Proofs.YtbmdepbmejnlkaaDoor
namespace Go.Proofs.YtbmdepbmejnlkaaDoor
open Go.ChangeShapes Go.WideShapes Go.ChangeAt Go.RowKit
set_option maxRecDepth 100000
theorem infoFrame : (Tryd.prog.info? 83).map (fun i => (i.zero, i.size, i.bytes)) = some (some (.agg #[.int .i64 0, .int .i64 0, .int .i64 0, .slice none 0 0, .string ⟨#[]⟩]), 5, 64) := by kernel_rfl
abbrev FramesOwn (w : World) (base : Nat) (A : Option Addr) (c : Nat) (L : List FrameV) : Prop := RowOwn 83 5 FrameV.cells FrameV.o w base A c L
theorem FramesOwn.in_ {w : World} {base : Nat} {A : Option Addr} {c : Nat} {L : List FrameV} (h : FramesOwn w base A c L) : FramesIn w A L :=
  ⟨(Sl.of_own _ h.row).moved fun _ hx => ⟨hx.2, rfl⟩, fun o ho => (h.each o ho).moved fun _ hx => ⟨hx.1.2, rfl⟩⟩
theorem FramesIn.nil (w : World) : FramesIn w none [] := ⟨Sl.nil, by simp⟩
theorem row_top {W : World} {cs : List Value} {t : TypeId} {n m : Nat} {A : Option Addr} (hl : cs.length = n * m) (hA : A = some ⟨W.heap.size, 0, none⟩) : Sl (fun _ => True) (W.alloc (.cells cs.toArray t)) m A n cs := by
  subst hA
  exact Sl.new W cs t m n hl trivial
/-- A call that hands back these frames in memory of its own. -/
def RetFrames (w : World) (D : List FrameD) (e : Ending) (w' : World) : Prop :=
  ∃ A c L, e = .returned (.slice A L.length c) ∧ L.map FrameV.d = D ∧ FramesOwn w' w.heap.size A c L ∧ Below w.heap.size w w'
set_option maxHeartbeats 1000000 in
theorem framesCopy_c (w : World) (A : Option Addr) (c : Nat) (L : List FrameV) (hs : FramesIn w A L) (hl : L.length ≤ 1048576) (hm : ∀ f ∈ L, f.o.ps.length ≤ 1048576) :
    Calls Tryd.prog 85 #[.slice A L.length c] w (RetFrames w (L.map FrameV.d)) := by
  obtain ⟨i0, hi, hz0, hz1, hz2⟩ := info_parts infoFrame
  have HS := Lib.hid hs
  have HM := Lib.hid hm
  clear hs hm
  go_enter Tryd.func85, Tryd.ntmps85
  go_wp2_with fail
  go_loopw [3, 4] (fun out i wr => ∃ (k : Nat) (L' : List FrameV) (Ao : Option Addr) (co : Nat), k ≤ L.length ∧ i = .int .i64 k ∧ L'.length = k ∧ out = .slice Ao k co ∧ Hid (L'.map FrameV.d = (L.take k).map FrameV.d) ∧ FramesOwn wr w.heap.size Ao co L' ∧ Below w.heap.size w wr) (fun _ i _ => L.length - (intOf i).toNat)
  case atStart => exact ⟨0, [], none, 0, Nat.zero_le _, rfl, rfl, rfl, rfl, RowOwn.nil _ _, Below.refl _ _⟩
  case round =>
    obtain ⟨k, L', Ao, co, hk, rfl, hL', rfl, hps, hown, hbw⟩ := hrel
    subst hL'
    by_cases hlt : L'.length < L.length
    · obtain ⟨b, o, rfl, hbs, g0, g1, g2, g3, g4, hop⟩ := (FramesIn.later HS.out hbw).at_ hlt
      have hsm := HM.out _ (List.getElem_mem hlt)
      have HT := Lib.hid (show (L.take (L'.length + 1)).map FrameV.d = (L.take L'.length).map FrameV.d ++ [L[L'.length].d] by rw [List.take_succ_eq_append_getElem hlt, List.map_append]; rfl)
      generalize L[L'.length] = q at *
      obtain ⟨fk, fh, fe, ⟨fA, fc, fp⟩, fs⟩ := q
      dsimp only at *
      have HC := Lib.hid (fun W hs => FrameCopy_c W fk fh fe fA fc fp fs hs hsm)
      have HOP := Lib.hid hop
      have HO := Lib.hid hown
      have hsz := hbw.size
      clear hop hown hsm
      go_wp2_with fail
      refine (HC.out _ (Sl.later HOP.out (by repeat (first | exact Below.refl _ _ | apply bGrow | apply bAlloc | apply Below.drew | apply bDrewN | apply bIter)))).mono ?_
      rintro e w2 ⟨A2, c2, rfl, ho2, hb2⟩
      have HX := Lib.hid (((HO.out.later hb2).row.alloc (.cells #[.int .i64 fk, .int .i64 fh, .int .i64 fe, .slice A2 fp.length c2, .string fs] 83)).alloc (.cells #[.int .i64 fk, .int .i64 fh, .int .i64 fe, .slice A2 fp.length c2, .string fs] 83))
      have HO2 := Lib.hid ho2
      have HB2 := Lib.hid hb2
      have hzw := hb2.size
      clear ho2 hb2
      go_wp2_with (refine stop_append rfl ?_)
      refine ⟨?_⟩
      refine wpList_append_sl _ rfl _ _ 61 rfl w.heap.size 83 i0 (.agg #[.int .i64 0, .int .i64 0, .int .i64 0, .slice none 0 0, .string ⟨#[]⟩]) 5 64 Tryd.underlying61 hi hz0 hz1 hz2 rfl (by decide) _ _ _ rfl HX.out (fun _ => True) _ _ _ _ rfl (row_top (by rfl) (by simp)) ?c1 ?c2 ?c3 ?c4 ?_
      case c1 => intro u hu; simp at hu; rcases hu with rfl | rfl | rfl | rfl | rfl <;> rfl
      case c2 => unfold maxLen; omega
      case c3 => omega
      case c4 => simp; omega
      intro A' c' w3 hown' hgrow hat
      have hP := RowOwn.push (f := FrameV.cells) (op := FrameV.o) (x := ⟨fk, fh, fe, ⟨A2, c2, fp⟩, fs⟩) (W2 := w2.alloc (.cells #[.int .i64 fk, .int .i64 fh, .int .i64 fe, .slice A2 fp.length c2, .string fs] 83)) HO.out hsz (bAlloc HB2.out _) (HO2.out.moved fun b hb => ⟨⟨hb.1, by simp; omega⟩, heap_alloc_old _ _ b hb.2⟩) hgrow hown' hat
      have hF := push_frame hbw (bAlloc HB2.out _) hgrow (fun g hg => (HO.out.row.lt g hg).1)
      clear hown' hgrow hat
      go_wp2_with fail
      go_roundw
      case rel => exact ⟨L'.length + 1, L' ++ [⟨fk, fh, fe, ⟨A2, c2, fp⟩, fs⟩], A', c', by omega, by go_num, by simp, rfl, by rw [List.map_append, hps.out, HT.out]; rfl, hP, hF⟩
      case measure => simp [intOf]; omega
    · obtain hk' : L'.length = L.length := by omega
      rw [hk', List.take_length] at hps
      go_wp2_with fail
      go_ret
      exact ⟨Ao, co, L', rfl, hps.out, hown, hbw⟩
end Go.Proofs.YtbmdepbmejnlkaaDoor
namespace Go.Proofs.YtbmdepbmejnlkaaDoor
open Go.ChangeShapes Go.WideShapes Go.ChangeAt Go.RowKit
set_option maxRecDepth 100000
/-- A packet's data. -/
structure PacketD where
  epoch : Int
  number : Int
  bare : Bool
  ack : Int
  frame : FrameD
def emptyF (f : FrameD) : Prop := f.kind = 0 ∧ f.heard = 0 ∧ f.epoch = 0 ∧ f.op = [] ∧ f.text.toList = []
instance (f : FrameD) : Decidable (emptyF f) := by
  unfold emptyF
  exact inferInstance
/-- What a packet is refused for. -/
def packetFault (p : PacketD) : Int :=
  if (p.epoch < 0 ∨ 1048576 < p.epoch) ∨ (p.number < 0 ∨ 1048576 < p.number) ∨ (p.ack < 0 ∨ 1048576 < p.ack) then 2
  else if p.bare = true then (if p.number = 0 ∧ emptyF p.frame then 0 else 4)
  else if p.number = 0 ∨ p.epoch = 0 then 4 else frameFault p.frame
abbrev packetV (ep nu : Int) (b : Bool) (ak k h e : Int) (A : Option Addr) (n c : Nat) (s : ByteArray) : Value := .agg #[.int .i64 ep, .int .i64 nu, .bool b, .int .i64 ak, .int .i64 k, .int .i64 h, .int .i64 e, .slice A n c, .string s]
end Go.Proofs.YtbmdepbmejnlkaaDoor
namespace Go.Proofs.YtbmdepbmejnlkaaDoor
open Go.ChangeShapes Go.WideShapes Go.ChangeAt Go.RowKit
set_option maxRecDepth 100000
theorem sameFrame_c (w : World) (k h e : Int) (A A' : Option Addr) (c c' : Nat) (ps : List PartD) (s : ByteArray) (hs : OpIn (· < w.heap.size) w A ps) (hs' : OpIn (· < w.heap.size) w A' ps) (hm : ps.length ≤ 1048576) :
    Calls Tryd.prog 72 #[frameV k h e A ps.length c s, frameV k h e A' ps.length c' s] w fun r w' => r = .returned (.bool true) ∧ Below w.heap.size w w' := by
  have HC := Lib.hid (fun W h h' => sameOp_c W A A' c c' ps h h' hm)
  have HS := Lib.hid hs
  have HS' := Lib.hid hs'
  clear hs hs'
  go_enter Tryd.func72, Tryd.ntmps72
  go_wp2_with fail
  refine (HC.out _ (Sl.later HS.out (by repeat (first | exact Below.refl _ _ | apply bGrow | apply bAlloc | apply Below.drew | apply bDrewN | apply bIter))) (Sl.later HS'.out (by repeat (first | exact Below.refl _ _ | apply bGrow | apply bAlloc | apply Below.drew | apply bDrewN | apply bIter)))).mono ?_
  rintro r w1 ⟨rfl, hb1⟩
  obtain ⟨⟨d1, os1⟩, rfl⟩ := beyond_of hb1
  go_wp2_with fail
  go_ret
  exact ⟨by simp, (by repeat (first | exact Below.refl _ _ | apply bGrow | apply bAlloc | apply Below.drew | apply bDrewN | apply bIter))⟩
theorem samePacket_c (w : World) (ep nu : Int) (b : Bool) (ak k h e : Int) (A A' : Option Addr) (c c' : Nat) (ps : List PartD) (s : ByteArray) (hs : OpIn (· < w.heap.size) w A ps) (hs' : OpIn (· < w.heap.size) w A' ps) (hm : ps.length ≤ 1048576) :
    Calls Tryd.prog 44 #[packetV ep nu b ak k h e A ps.length c s, packetV ep nu b ak k h e A' ps.length c' s] w fun r w' => r = .returned (.bool true) ∧ Below w.heap.size w w' := by
  have HC := Lib.hid (fun W g g' => sameFrame_c W k h e A A' c c' ps s g g' hm)
  have HS := Lib.hid hs
  have HS' := Lib.hid hs'
  clear hs hs'
  go_enter Tryd.func44, Tryd.ntmps44
  go_wp2_with fail
  refine (HC.out _ (Sl.later HS.out (by repeat (first | exact Below.refl _ _ | apply bGrow | apply bAlloc | apply Below.drew | apply bDrewN | apply bIter))) (Sl.later HS'.out (by repeat (first | exact Below.refl _ _ | apply bGrow | apply bAlloc | apply Below.drew | apply bDrewN | apply bIter)))).mono ?_
  rintro r w1 ⟨rfl, hb1⟩
  obtain ⟨⟨d1, os1⟩, rfl⟩ := beyond_of hb1
  go_wp2_with fail
  go_ret
  exact ⟨by simp, (by repeat (first | exact Below.refl _ _ | apply bGrow | apply bAlloc | apply Below.drew | apply bDrewN | apply bIter))⟩
/-- A packet as a slice's cells hold it. -/
structure PacketV where
  ep : Int
  nu : Int
  b : Bool
  ak : Int
  f : FrameV
instance : Inhabited PacketV := ⟨⟨0, 0, false, 0, default⟩⟩
def PacketV.cells (p : PacketV) : List Value := [.int .i64 p.ep, .int .i64 p.nu, .bool p.b, .int .i64 p.ak, .int .i64 p.f.k, .int .i64 p.f.h, .int .i64 p.f.e, p.f.o.val, .string p.f.s]
theorem PacketV.cells_len (p : PacketV) : p.cells.length = 9 := rfl
abbrev PacketV.op (p : PacketV) : OpV := p.f.o
abbrev PacketV.d (p : PacketV) : PacketD := ⟨p.ep, p.nu, p.b, p.ak, p.f.d⟩
structure PacketsIn (w : World) (A : Option Addr) (L : List PacketV) : Prop where
  row : Sl (· < w.heap.size) w 9 A L.length (L.flatMap PacketV.cells)
  each : ∀ p ∈ L, OpIn (· < w.heap.size) w p.f.o.A p.f.o.ps
theorem PacketsIn.later {w w' : World} {A : Option Addr} {L : List PacketV} (h : PacketsIn w A L) (hb : Below w.heap.size w w') : PacketsIn w' A L := ⟨h.row.later hb, fun r hr => Sl.later (h.each r hr) hb⟩
theorem PacketsIn.nil (w : World) : PacketsIn w none [] := ⟨Sl.nil, by simp⟩
theorem PacketsIn.at_ {w : World} {A : Option Addr} {L : List PacketV} (h : PacketsIn w A L) {k : Nat} (hk : k < L.length) :
    ∃ b o, A = some ⟨b, o, none⟩ ∧ b < w.heap.size ∧ w.cell? ⟨b, o + k * 9, none⟩ = some (.int .i64 L[k].ep) ∧ w.cell? ⟨b, o + k * 9 + 1, none⟩ = some (.int .i64 L[k].nu) ∧ w.cell? ⟨b, o + k * 9 + 2, none⟩ = some (.bool L[k].b) ∧ w.cell? ⟨b, o + k * 9 + 3, none⟩ = some (.int .i64 L[k].ak) ∧
      w.cell? ⟨b, o + k * 9 + 4, none⟩ = some (.int .i64 L[k].f.k) ∧ w.cell? ⟨b, o + k * 9 + 5, none⟩ = some (.int .i64 L[k].f.h) ∧ w.cell? ⟨b, o + k * 9 + 6, none⟩ = some (.int .i64 L[k].f.e) ∧
      w.cell? ⟨b, o + k * 9 + 7, none⟩ = some (.slice L[k].f.o.A L[k].f.o.ps.length L[k].f.o.c) ∧ w.cell? ⟨b, o + k * 9 + 8, none⟩ = some (.string L[k].f.s) ∧ OpIn (· < w.heap.size) w L[k].f.o.A L[k].f.o.ps := by
  obtain ⟨b, o, e, hb, hc⟩ := row_at PacketV.cells 9 PacketV.cells_len h.row hk
  exact ⟨b, o, e, hb, hc 0 _ rfl, hc 1 _ rfl, hc 2 _ rfl, hc 3 _ rfl, hc 4 _ rfl, hc 5 _ rfl, hc 6 _ rfl, hc 7 _ rfl, hc 8 _ rfl, h.each _ (List.getElem_mem hk)⟩
end Go.Proofs.YtbmdepbmejnlkaaDoor
