/-
  The walk through wherrylaw.EdgeSends, where both calls answer the same edge and error.
-/
import Derived.Test.YtiooimnlkcpnnaaDoorRows
import Derived.Test.YtiooimnlkcpnnaaDoorSendC
import Derived.Test.YtiooimnlkcpnnaaDoorSameEdge
namespace Go.Proofs.YtiooimnlkcpnnaaDoor
open Go.ChangeShapes Go.WideShapes Go.ChangeAt Go.RowKit
set_option maxRecDepth 100000
namespace edgeSends
/-- A call that hands back this edge and this error. -/
def SentAs (w : World) (s h : Int) (PS : List (List PartD)) (er : Int) (e : Ending) (w' : World) : Prop :=
  ∃ A' c' L', e = .returned (.tuple #[edgeV s h A' L'.length c', .int .i64 er]) ∧ L'.map OpV.ps = PS ∧ OpsOwn w' w.heap.size A' c' L' ∧ Below w.heap.size w w'
/-- What holds once the first answer lies in a block of its own. -/
structure Held (WX : World) (Q : Nat) (s h : Int) (A : Option Addr) (n c : Nat) (L : List OpV) (G : World) : Prop where
  e : EdgeAt G Q s h A n c
  i : OpsIn G A L
  b : Below WX.heap.size WX G
theorem held_new {WX w3 : World} {base : Nat} {s h : Int} {A : Option Addr} {c : Nat} {L : List OpV} (ho : OpsOwn w3 base A c L) (hb : Below WX.heap.size WX w3) :
    Held WX w3.heap.size s h A L.length c L (w3.alloc (.cells #[.int .i64 s, .int .i64 h, .slice A L.length c] 43)) :=
  ⟨by show (w3.heap.push _)[w3.heap.size]? = _; simp, ho.in_.later (bAlloc (Below.refl _ _) _), bAlloc hb _⟩
theorem held_set {WX w3 : World} {Q base : Nat} {s h : Int} {A : Option Addr} {c : Nat} {L : List OpV} (hZ : EdgeAt w3 Q 0 0 none 0 0) (ho : OpsOwn w3 base A c L) (hq : Q < base) (hb : Below WX.heap.size WX w3) (hQ : WX.heap.size ≤ Q) :
    Held WX Q s h A L.length c L (((w3.setCell ⟨Q, 0, none⟩ (.int .i64 s)).setCell ⟨Q, 1, none⟩ (.int .i64 h)).setCell ⟨Q, 2, none⟩ (.slice A L.length c)) :=
  ⟨three_set2 (three_set1 (three_set0 hZ)), (ho.kept (w' := ((w3.setCell ⟨Q, 0, none⟩ (.int .i64 s)).setCell ⟨Q, 1, none⟩ (.int .i64 h)).setCell ⟨Q, 2, none⟩ (.slice A L.length c)) (by simp [World.setCell]) (fun g hg _ => (Below.heap_setCell _ _ _ _ (by show g ≠ Q; omega)).trans ((Below.heap_setCell _ _ _ _ (by show g ≠ Q; omega)).trans (Below.heap_setCell _ _ _ _ (by show g ≠ Q; omega))))).in_,
    bSet (bSet (bSet hb (p := ⟨Q, 0, none⟩) hQ _) (p := ⟨Q, 1, none⟩) hQ _) (p := ⟨Q, 2, none⟩) hQ _⟩
set_option maxHeartbeats 1000000 in
theorem walk_of (w : World) (s h : Int) (A : Option Addr) (c : Nat) (L : List OpV) (HT : Hid (Tabs w)) (HS : Hid (OpsIn w A L)) (HM : Hid (∀ o ∈ L, o.Small)) (hll : L.length ≤ 1048576) (B : Option Addr) (cc : Nat) (ps : List PartD) (HP : Hid (OpIn (· < w.heap.size) w B ps)) (hpl : ps.length ≤ 1048576)
    (s' h' er : Int) (PS : List (List PartD)) (hPn : PS.length ≤ 1048577) (hPS : ∀ q ∈ PS, q.length ≤ 1048576)
    (hC : Hid (∀ (W : World) (A1 : Option Addr) (c1 : Nat) (L1 : List OpV) (B1 : Option Addr) (cc1 : Nat), Tabs W → OpsIn W A1 L1 → L1.map OpV.ps = L.map OpV.ps → OpIn (· < W.heap.size) W B1 ps → Calls Tryd.prog 26 #[edgeV s h A1 L1.length c1, .slice B1 ps.length cc1] W (SentAs W s' h' PS er)))
    (hR : Hid (∀ (W : World), Tabs W → OpsIn W A L → OpIn (· < W.heap.size) W B ps → Calls Tryd.prog 28 #[edgeV s h A L.length c, .slice B ps.length cc] W (SentAs W s' h' PS er))) :
    Calls Tryd.prog 6 #[edgeV s h A L.length c, .slice B ps.length cc] w fun e w' => e = .returned (.bool true) ∧ Below w.heap.size w w' := by
  have HCP := Lib.hid (fun W hs => EdgeCopy_c W s h A c L hs hll HM.out)
  have HOC := Lib.hid (fun W hs => OpCopy_c W B cc ps hs hpl)
  go_enter Tryd.func6, Tryd.ntmps6
  go_wp2_with fail
  refine (HCP.out _ (HS.out.later (by repeat (first | exact Below.refl _ _ | apply bGrow | apply bAlloc | apply Below.drew | apply bDrewN | apply bIter)))).mono ?_
  rintro e w1 ⟨A1, c1, L1, rfl, hps1, ho1, hb1⟩
  obtain ⟨W0, hW0⟩ : ∃ W0, W0 = w.alloc (.cells #[.int .i64 s, .int .i64 h, .slice A L.length c] 43) := ⟨_, rfl⟩
  have HW0 := Lib.hid hW0
  rw [← HW0.out] at hb1 ho1
  have hk0 : Below w.heap.size w W0 := by rw [hW0]; exact bAlloc (Below.refl _ _) _
  have hE0 : EdgeAt W0 w.heap.size s h A L.length c := by rw [hW0]; show (w.heap.push _)[w.heap.size]? = _; simp
  have hz0 : w.heap.size < W0.heap.size := by rw [hW0]; simp
  have hz1 := hb1.size
  obtain ⟨O, hO⟩ : ∃ O, O = w1.heap.size := ⟨_, rfl⟩
  obtain ⟨WX, hWX⟩ : ∃ WX, WX = w1.alloc (.cells #[.int .i64 s, .int .i64 h, .slice A1 L1.length c1] 43) := ⟨_, rfl⟩
  have hkX : Below w1.heap.size w1 WX := by rw [hWX]; exact bAlloc (Below.refl _ _) _
  have HBX := Lib.hid (bThen (bThen hk0 hb1) hkX)
  have HEX := Lib.hid (show EdgeAt WX w.heap.size s h A L.length c from (hkX.block _ (by omega)).trans ((hb1.block _ hz0).trans hE0))
  have HOX := Lib.hid (show EdgeAt WX O s h A1 L1.length c1 by rw [hWX, hO]; show (w1.heap.push _)[w1.heap.size]? = _; simp)
  have HS1 := Lib.hid (ho1.in_.later hkX)
  have HPS1 := Lib.hid hps1
  have HTX := Lib.hid (HT.out.later HBX.out)
  have HPX := Lib.hid (Sl.later HP.out HBX.out)
  have hEO : w.heap.size < O := by omega
  have HOO := Lib.hid hO
  have HWX := Lib.hid hWX
  obtain ⟨y0, y1, y2, y3, y4, y5, y6⟩ := three_cell HOX.out
  have hOz := y6
  have HOL := Lib.hid (show EdgeAt WX O s h A1 L.length c1 from (show L1.length = L.length by rw [← List.length_map (f := OpV.ps), hps1, List.length_map]) ▸ HOX.out)
  have hq1 : ∀ o ∈ L1, o.ps.length ≤ 1048576 := fun o ho => by
    have hm : o.ps ∈ L.map OpV.ps := hps1 ▸ List.mem_map_of_mem ho
    obtain ⟨q, hq, e⟩ := List.mem_map.1 hm
    exact e ▸ (HM.out q hq).len
  clear ho1 hps1 hk0 hE0 hb1 hkX hW0 hO hWX hz1
  go_wp2_with fail
  rw [← HWX.out, ← HOO.out]
  go_region_law (first
    | (go_simp; go_at_call 27; refine (HOC.out _ (Sl.later HPX.out (by repeat (first | exact Below.refl _ _ | apply bAlloc | apply Below.drew)))).mono ?_; rintro e w2 ⟨A2, c2, rfl, ho2, hb2⟩; have HB2 : Below WX.heap.size WX w2 := bThen (by repeat (first | exact Below.refl _ _ | apply bAlloc | apply Below.drew)) hb2
       (try (have HZ2 : EdgeAt w2 WX.heap.size 0 0 none 0 0 := (hb2.block _ (by simp)).trans (by show (WX.heap.push _)[WX.heap.size]? = _; simp); obtain ⟨z0, z1, z2, z3, z4, z5, z6⟩ := three_cell HZ2))
       obtain ⟨y0, y1, y2, y3, y4, y5, y6⟩ := three_cell ((HB2.block _ hOz).trans HOX.out))
    | (go_simp; go_at_call 26; refine (hC.out _ A1 c1 L1 A2 c2 (HTX.out.later (bThen HB2 (by repeat (first | exact Below.refl _ _ | apply bAlloc | apply Below.drew)))) (HS1.out.later (bThen HB2 (by repeat (first | exact Below.refl _ _ | apply bAlloc | apply Below.drew)))) HPS1.out (Sl.later ((Sl.of_own _ ho2).moved (S' := (· < w2.heap.size)) fun _ hx => ⟨hx.2, rfl⟩) (by repeat (first | exact Below.refl _ _ | apply bAlloc | apply Below.drew)))).mono ?_; rintro e w3 ⟨A3, c3, L3, rfl, hps3, ho3, hb3⟩
       have HB3 : Below WX.heap.size WX w3 := bThen HB2 (bThen (by repeat (first | exact Below.refl _ _ | apply bAlloc | apply Below.drew)) hb3)
       (try (have HZ3 : EdgeAt w3 WX.heap.size 0 0 none 0 0 := (hb3.block _ z6).trans HZ2; obtain ⟨z0, z1, z2, z3, z4, z5, z6⟩ := three_cell HZ3))
       (try (have HZ3 : EdgeAt w3 w2.heap.size 0 0 none 0 0 := (hb3.block _ (by simp)).trans (by show (w2.heap.push _)[w2.heap.size]? = _; simp); obtain ⟨z0, z1, z2, z3, z4, z5, z6⟩ := three_cell HZ3))
       obtain ⟨y0, y1, y2, y3, y4, y5, y6⟩ := three_cell ((HB3.block _ hOz).trans HOX.out)))
  all_goals (
    have hn3 : L3.length = PS.length := by rw [← hps3, List.length_map]
    first
      | (refine post_hide (Held WX w2.heap.size s' h' A3 PS.length c3 L3) (hn3 ▸ held_set HZ3 ho3 (by simp) HB3 HB2.size) ?_; clear HZ3 z0 z1 z2 z3 z4 z5 z6 y0 y1 y2 y3 y4 y5 y6 ho3 hb3 HB3 hb2; generalize w2.heap.size = Q; clear HB2 ho2)
      | (refine post_hide (Held WX WX.heap.size s' h' A3 PS.length c3 L3) (hn3 ▸ held_set HZ3 ho3 (by have := hb2.size; simp at this; omega) HB3 (Nat.le_refl _)) ?_; clear HZ3 z0 z1 z2 z3 z4 z5 z6 y0 y1 y2 y3 y4 y5 y6 ho3 hb3 HB3 hb2 HB2 ho2; obtain ⟨Q, hQ⟩ : ∃ Q, Q = WX.heap.size := ⟨_, rfl⟩; rw [← hQ]; clear hQ)
      | (refine post_hide (Held WX w3.heap.size s' h' A3 PS.length c3 L3) (hn3 ▸ held_new ho3 HB3) ?_; clear y0 y1 y2 y3 y4 y5 y6 ho3 hb3 HB3 hb2 HB2 ho2; generalize w3.heap.size = Q)
    rintro G hG
    have HPS3 := Lib.hid hps3
    have hg1 := hG.b.size
    obtain ⟨e0, e1, e2, _, _, _, hez⟩ := three_cell ((hG.b.block _ (three_cell HEX.out).2.2.2.2.2.2).trans HEX.out)
    have HG := Lib.hid hG
    clear hG hps3
    go_wp2_with fail
    refine (hR.out _ (HTX.out.later HG.out.b) ((HS.out.later HBX.out).later HG.out.b) (Sl.later HPX.out HG.out.b)).mono ?_
    rintro e w4 ⟨A4, c4, L4, rfl, hps4, ho4, hb4⟩
    have hn4 : L4.length = PS.length := by rw [← hps4, List.length_map]
    rw [hn4]
    have HPS4 := Lib.hid hps4
    obtain ⟨WZ, hWZ⟩ : ∃ WZ, WZ = w4.alloc (.cells #[.int .i64 s', .int .i64 h', .slice A4 PS.length c4] 43) := ⟨_, rfl⟩
    obtain ⟨P, hP⟩ : ∃ P, P = w4.heap.size := ⟨_, rfl⟩
    have hkZ : Below w4.heap.size w4 WZ := by rw [hWZ]; exact bAlloc (Below.refl _ _) _
    have hGZ := bThen hb4 hkZ
    have hXZ := bThen HG.out.b hGZ
    have HBZ := Lib.hid (bThen HBX.out hXZ)
    have HE3 := Lib.hid (show EdgeAt WZ Q s' h' A3 PS.length c3 from (hGZ.block _ (three_cell HG.out.e).2.2.2.2.2.2).trans HG.out.e)
    have HE4 := Lib.hid (show EdgeAt WZ P s' h' A4 PS.length c4 by rw [hWZ, hP]; show (w4.heap.push _)[w4.heap.size]? = _; simp)
    have HE1 := Lib.hid (show EdgeAt WZ O s h A1 L.length c1 from (hXZ.block _ hOz).trans HOL.out)
    have HE0 := Lib.hid (show EdgeAt WZ w.heap.size s h A L.length c from (hXZ.block _ (three_cell HEX.out).2.2.2.2.2.2).trans HEX.out)
    have HI3 := Lib.hid (HG.out.i.later hGZ)
    have HI4 := Lib.hid (ho4.in_.later hkZ)
    have HI1 := Lib.hid (HS1.out.later hXZ)
    have HI0 := Lib.hid ((HS.out.later HBX.out).later hXZ)
    have HWZ := Lib.hid hWZ
    have HPP := Lib.hid hP
    obtain ⟨x0, x1, x2, _, _, _, hxz⟩ := three_cell ((hb4.block _ (three_cell HG.out.e).2.2.2.2.2.2).trans HG.out.e)
    clear hkZ hGZ hXZ hWZ hP ho4 hb4 hps4
    go_wp2_with fail
    rw [← HWZ.out, ← HPP.out]
    refine (sameEdge_c _ s' h' A3 A4 c3 c4 PS.length L3 L4 HI3.out HI4.out (HPS4.out.trans HPS3.out.symm) hn3 hPn (fun o ho => hPS _ (HPS3.out ▸ List.mem_map_of_mem ho))).mono ?_
    rintro e w5 ⟨rfl, hb5⟩
    obtain ⟨x0, x1, x2, _, _, _, hxz⟩ := three_cell ((hb5.block _ (three_cell HE1.out).2.2.2.2.2.2).trans HE1.out)
    obtain ⟨y0, y1, y2, _, _, _, hyz⟩ := three_cell ((hb5.block _ (three_cell HE0.out).2.2.2.2.2.2).trans HE0.out)
    have HB5 := Lib.hid (bThen HBZ.out hb5)
    have HI1 := Lib.hid (HI1.out.later hb5)
    have HI0 := Lib.hid (HI0.out.later hb5)
    clear hb5
    go_wp2_with fail
    refine (sameEdge_c _ s h A1 A c1 c L.length L1 L HI1.out HI0.out HPS1.out.symm (by rw [← List.length_map (f := OpV.ps), HPS1.out, List.length_map]) (by omega) (fun o ho => hq1 o ho)).mono ?_
    rintro e w6 ⟨rfl, hb6⟩
    have HB6 := Lib.hid (bThen HB5.out hb6)
    clear hb6
    go_wp2
    go_ret
    exact ⟨by simp, HB6.out⟩)
end edgeSends
end Go.Proofs.YtiooimnlkcpnnaaDoor
