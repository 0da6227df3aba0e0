/-
  Contracts of edge.Hear and of the reference's HeardOf.
  The walk through wherrylaw.EdgeHears, where both calls answer the same edge, operation and error.
  wherrylaw.EdgeHears returns true for every edge, operation, number and side, where what it reads is of bulk at most 1048576, and unicode/utf8's two tables are as their text lays them.
-/
import Derived.Test.YtbmdepbmejnlkaaDoorRows
import Derived.Test.YtbmdepbmejnlkaaDoorMEdgeHearA
import Derived.Test.YtbmdepbmejnlkaaDoorMEdgeHearB
import Derived.Test.YtbmdepbmejnlkaaDoorSameEdge
import Derived.Test.YtbmdepbmejnlkaaDoorDoor
import Derived.Test.YtbmdepbmejnlkaaDoorEdgeOpen
namespace Go.Proofs.YtbmdepbmejnlkaaDoor
open Go.ChangeShapes Go.WideShapes Go.ChangeAt Go.RowKit
set_option maxRecDepth 100000
/-- What edge.Hear answers. -/
def hearAns (s h : Int) (L : List OpV) (x : List PartD) (heard : Int) (up : Bool) : Int × Int × List (List PartD) × List PartD × Int :=
  if ¬ edgeMay s h L then (0, 0, [], [], 9) else if opFault x ≠ 0 then (0, 0, [], [], opFault x) else if heard < s - L.length ∨ s < heard then (0, 0, [], [], 2) else if h = 1048576 then (0, 0, [], [], 8)
  else hearOut s (h + 1) (hearG up [] x ((L.map OpV.ps).drop (heard - (s - L.length)).toNat))
theorem RetHear.no {w : World} {er : Int} {e : Ending} {w' : World} (h : e = .returned (.tuple #[edgeV 0 0 none 0 0, .slice none 0 0, .int .i64 er]) ∧ Below w.heap.size w w') : RetHear w (0, 0, [], [], er) e w' :=
  ⟨none, 0, [], none, 0, h.1, rfl, ⟨Sl.nil, by simp⟩, Sl.nil, h.2⟩
theorem wrap_in {x : Int} (h1 : -1048576 ≤ x) (h2 : x ≤ 4194304) : wrap64 x = x := by
  unfold wrap64
  omega
theorem EHear_c (w : World) (s h : Int) (A : Option Addr) (c : Nat) (L : List OpV) (hT : Tabs w) (hs : OpsIn w A L) (hm : ∀ o ∈ L, o.Small) (hll : L.length ≤ 1048576) (B : Option Addr) (cc : Nat) (ps : List PartD) (hop : OpIn (· < w.heap.size) w B ps) (hsp : SmallD ps) (hd : Int) (up : Bool) :
    Calls Tryd.prog 15 #[edgeV s h A L.length c, .slice B ps.length cc, .int .i64 hd, .bool up] w (RetHear w (hearAns s h L ps hd up)) := by
  have HC := fun W hT hs hm => EdgeCheck_c W s h A c L hT hs hm
  have HF := fun W hT hs => Check_c W B cc ps hT hs hsp.1 hsp.2
  unfold hearAns
  by_cases h1 : edgeMay s h L
  · rw [if_neg (fun k => k h1)]
    rw [show edgeErr s h L = 0 from if_pos h1] at HC
    obtain ⟨⟨⟨a1, a2⟩, a3, a4⟩, a5, _⟩ := h1
    have hw : wrap64 (s - (L.length : Int)) = s - L.length := wrap_in (by omega) (by omega)
    by_cases h2 : opFault ps = 0
    · rw [if_neg (fun k => k h2)]
      rw [h2] at HF
      by_cases h3 : hd < s - (L.length : Int)
      · rw [if_pos (.inl h3)]
        exact (EHear_low w s h A c L hT hs hm B cc ps hop hd up hw (by simpa using h3) HC HF).mono fun _ _ k => .no k
      by_cases h4 : s < hd
      · rw [if_pos (.inr h4)]
        exact (EHear_high w s h A c L hT hs hm B cc ps hop hd up hw (by simpa using h3) (by simpa using h4) HC HF).mono fun _ _ k => .no k
      rw [if_neg (by omega)]
      by_cases h5 : h = 1048576
      · rw [if_pos h5]
        exact (EHear_full w s h A c L hT hs hm B cc ps hop hd up hw (by simpa using h3) (by simpa using h4) (by simpa using h5) HC HF).mono fun _ _ k => .no k
      rw [if_neg h5]
      obtain ⟨K, hK⟩ : ∃ K : Nat, hd - (s - (L.length : Int)) = K := ⟨(hd - (s - (L.length : Int))).toNat, by omega⟩
      rw [hK, Int.toNat_natCast]
      cases up
      · exact EHear_gof w s h A c L hT hs hm B cc ps hop hd hw (by simpa using h3) (by simpa using h4) (by simpa using h5) K (by omega) (by rw [hK]; exact wrap_in (by omega) (by omega)) (wrap_in (by omega) (by omega)) hsp hll HC HF (fun W hs => own_c W s h A c L hs hll hm) (fun W hs => CloneOp_c W B cc ps hs hsp.1)
      · exact EHear_go w s h A c L hT hs hm B cc ps hop hd hw (by simpa using h3) (by simpa using h4) (by simpa using h5) K (by omega) (by rw [hK]; exact wrap_in (by omega) (by omega)) (wrap_in (by omega) (by omega)) hsp hll HC HF (fun W hs => own_c W s h A c L hs hll hm) (fun W hs => CloneOp_c W B cc ps hs hsp.1)
    · rw [if_pos h2]
      exact (EHear_fault w s h A c L hT hs hm B cc ps hop hd up _ (by simpa using h2) HC HF).mono fun _ _ k => .no k
  · rw [if_pos h1]
    rw [show edgeErr s h L = 9 from if_neg h1] at HC
    exact (EHear_state w s h A c L hT hs hm B cc ps hop hd up HC).mono fun _ _ k => .no k
theorem EHeard_c (w : World) (s h : Int) (A : Option Addr) (c : Nat) (L : List OpV) (hT : Tabs w) (hs : OpsIn w A L) (hm : ∀ o ∈ L, o.Small) (hll : L.length ≤ 1048576) (B : Option Addr) (cc : Nat) (ps : List PartD) (hop : OpIn (· < w.heap.size) w B ps) (hsp : SmallD ps) (hd : Int) (up : Bool) :
    Calls Tryd.prog 16 #[edgeV s h A L.length c, .slice B ps.length cc, .int .i64 hd, .bool up] w (RetHear w (hearAns s h L ps hd up)) := by
  have HC := fun W hT hs hm => EdgeMay_c W s h A c L hT hs hm
  have HF := fun W hT hs => OpFault_c W B cc ps hT hs hsp.1 hsp.2
  unfold hearAns
  by_cases h1 : edgeMay s h L
  · rw [if_neg (fun k => k h1)]
    rw [show edgeB s h L = true from decide_eq_true h1] at HC
    obtain ⟨⟨⟨a1, a2⟩, a3, a4⟩, a5, _⟩ := h1
    have hw : wrap64 (s - (L.length : Int)) = s - L.length := wrap_in (by omega) (by omega)
    by_cases h2 : opFault ps = 0
    · rw [if_neg (fun k => k h2)]
      rw [h2] at HF
      by_cases h3 : hd < s - (L.length : Int)
      · rw [if_pos (.inl h3)]
        exact (EHeard_low w s h A c L hT hs hm B cc ps hop hd up hw h3 HC HF).mono fun _ _ k => .no k
      by_cases h4 : s < hd
      · rw [if_pos (.inr h4)]
        exact (EHeard_high w s h A c L hT hs hm B cc ps hop hd up hw h4 HC HF).mono fun _ _ k => .no k
      rw [if_neg (by omega)]
      by_cases h5 : h = 1048576
      · rw [if_pos h5]
        exact (EHeard_full w s h A c L hT hs hm B cc ps hop hd up hw (by omega) (by omega) (by simp; omega) HC HF).mono fun _ _ k => .no k
      rw [if_neg h5]
      obtain ⟨K, hK⟩ : ∃ K : Nat, hd - (s - (L.length : Int)) = K := ⟨(hd - (s - (L.length : Int))).toNat, by omega⟩
      rw [hK, Int.toNat_natCast]
      cases up
      · exact EHeard_gof w s h A c L hT hs hm B cc ps hop hd hw (by omega) (by omega) (by simp; omega) K (by omega) (Lib.hid (by omega)) a1 a2 a5 (wrap_in (by omega) (by omega)) hsp HC HF
      · exact EHeard_go w s h A c L hT hs hm B cc ps hop hd hw (by omega) (by omega) (by simp; omega) K (by omega) (Lib.hid (by omega)) a1 a2 a5 (wrap_in (by omega) (by omega)) hsp HC HF
    · rw [if_pos h2]
      exact (EHeard_fault w s h A c L hT hs hm B cc ps hop hd up _ (by simpa using h2) (by simpa using h2) HC HF).mono fun _ _ k => .no k
  · rw [if_pos h1]
    rw [show edgeB s h L = false from decide_eq_false h1] at HC
    exact (EHeard_state w s h A c L hT hs hm B cc ps hop hd up HC).mono fun _ _ k => .no k
end Go.Proofs.YtbmdepbmejnlkaaDoor
namespace Go.Proofs.YtbmdepbmejnlkaaDoor
open Go.ChangeShapes Go.WideShapes Go.ChangeAt Go.RowKit
set_option maxRecDepth 100000
namespace edgeHears
/-- What holds once an edge lies in a block of its own. -/
structure HeldE (WX : World) (Q : Nat) (s h : Int) (A : Option Addr) (n c : Nat) (L : List OpV) (G : World) : Prop where
  e : EdgeAt G Q s h A n c
  i : OpsIn G A L
  b : Below WX.heap.size WX G
theorem HeldE.later {WX G G' : World} {Q : Nat} {s h : Int} {A : Option Addr} {n c : Nat} {L : List OpV} (k : HeldE WX Q s h A n c L G) (hb : Below G.heap.size G G') : HeldE WX Q s h A n c L G' :=
  ⟨(hb.block _ (three_cell k.e).2.2.2.2.2.2).trans k.e, k.i.later hb, bThen k.b hb⟩
theorem held_in {WX w3 : World} {s h : Int} {A : Option Addr} {c : Nat} {L : List OpV} (ho : OpsIn w3 A L) (hb : Below WX.heap.size WX w3) :
    HeldE WX w3.heap.size s h A L.length c L (w3.alloc (.cells #[.int .i64 s, .int .i64 h, .slice A L.length c] 41)) :=
  ⟨by show (w3.heap.push _)[w3.heap.size]? = _; simp, ho.later (bAlloc (Below.refl _ _) _), bAlloc hb _⟩
set_option maxHeartbeats 1000000 in
theorem walk_of (w : World) (s h : Int) (A : Option Addr) (c : Nat) (L : List OpV) (HT : Hid (Tabs w)) (HS : Hid (OpsIn w A L)) (HM : Hid (∀ o ∈ L, o.Small)) (hll : L.length ≤ 1048576) (B : Option Addr) (cc : Nat) (ps : List PartD) (HP : Hid (OpIn (· < w.heap.size) w B ps)) (hpl : ps.length ≤ 1048576) (hd : Int) (up : Bool)
    (s' h' er : Int) (PS : List (List PartD)) (op : List PartD) (hPn : PS.length ≤ 1048577) (hPS : ∀ q ∈ PS, q.length ≤ 1048576) (hol : op.length ≤ 1048576)
    (hC : Hid (∀ (W : World) (A1 : Option Addr) (c1 : Nat) (L1 : List OpV) (B1 : Option Addr) (cc1 : Nat), Tabs W → OpsIn W A1 L1 → L1.map OpV.ps = L.map OpV.ps → OpIn (· < W.heap.size) W B1 ps → Calls Tryd.prog 15 #[edgeV s h A1 L1.length c1, .slice B1 ps.length cc1, .int .i64 hd, .bool up] W (RetHear W (s', h', PS, op, er))))
    (hR : Hid (∀ (W : World), Tabs W → OpsIn W A L → OpIn (· < W.heap.size) W B ps → Calls Tryd.prog 16 #[edgeV s h A L.length c, .slice B ps.length cc, .int .i64 hd, .bool up] W (RetHear W (s', h', PS, op, er)))) :
    Calls Tryd.prog 5 #[edgeV s h A L.length c, .slice B ps.length cc, .int .i64 hd, .bool up] w fun e w' => e = .returned (.bool true) ∧ Below w.heap.size w w' := by
  have HCP := Lib.hid (fun W hs => EdgeCopy_c W s h A c L hs hll HM.out)
  have HOC := Lib.hid (fun W hs => OpCopy_c W B cc ps hs hpl)
  go_enter Tryd.func5, Tryd.ntmps5
  go_wp2_with fail
  refine (HCP.out _ (HS.out.later (by repeat (first | exact Below.refl _ _ | apply bGrow | apply bAlloc | apply Below.drew | apply bDrewN | apply bIter)))).mono ?_
  rintro e w1 ⟨A1, c1, L1, rfl, hps1, ho1, hb1⟩
  obtain ⟨W0, hW0⟩ : ∃ W0, W0 = w.alloc (.cells #[.int .i64 s, .int .i64 h, .slice A L.length c] 41) := ⟨_, rfl⟩
  have HW0 := Lib.hid hW0
  rw [← HW0.out] at hb1 ho1
  have hk0 : Below w.heap.size w W0 := by rw [hW0]; exact bAlloc (Below.refl _ _) _
  have hE0 : EdgeAt W0 w.heap.size s h A L.length c := by rw [hW0]; show (w.heap.push _)[w.heap.size]? = _; simp
  have hz0 : w.heap.size < W0.heap.size := by rw [hW0]; simp
  have hz1 := hb1.size
  obtain ⟨O, hO⟩ : ∃ O, O = w1.heap.size := ⟨_, rfl⟩
  obtain ⟨WX, hWX⟩ : ∃ WX, WX = w1.alloc (.cells #[.int .i64 s, .int .i64 h, .slice A1 L1.length c1] 41) := ⟨_, rfl⟩
  have hkX : Below w1.heap.size w1 WX := by rw [hWX]; exact bAlloc (Below.refl _ _) _
  have HBX := Lib.hid (bThen (bThen hk0 hb1) hkX)
  have HEX := Lib.hid (show EdgeAt WX w.heap.size s h A L.length c from (hkX.block _ (by omega)).trans ((hb1.block _ hz0).trans hE0))
  have HOX := Lib.hid (show EdgeAt WX O s h A1 L1.length c1 by rw [hWX, hO]; show (w1.heap.push _)[w1.heap.size]? = _; simp)
  have HS1 := Lib.hid (ho1.in_.later hkX)
  have HPS1 := Lib.hid hps1
  have HTX := Lib.hid (HT.out.later HBX.out)
  have HPX := Lib.hid (Sl.later HP.out HBX.out)
  have hEO : w.heap.size < O := by omega
  have HOO := Lib.hid hO
  have HWX := Lib.hid hWX
  have HL1 := Lib.hid (show L1.length = L.length by rw [← List.length_map (f := OpV.ps), hps1, List.length_map])
  have hq1 : ∀ o ∈ L1, o.ps.length ≤ 1048576 := fun o ho => by
    have hm : o.ps ∈ L.map OpV.ps := hps1 ▸ List.mem_map_of_mem ho
    obtain ⟨q, hq, e⟩ := List.mem_map.1 hm
    exact e ▸ (HM.out q hq).len
  clear ho1 hps1 hk0 hE0 hb1 hkX hW0 hO hWX hz1
  go_wp2_with fail
  rw [← HWX.out]
  refine (HOC.out _ HPX.out).mono ?_
  rintro e w2 ⟨A2, c2, rfl, ho2, hb2⟩
  have HB2 := Lib.hid hb2
  have hz2 := hb2.size
  obtain ⟨y0, y1, y2, _, _, _, hyz⟩ := three_cell ((hb2.block _ (three_cell HOX.out).2.2.2.2.2.2).trans HOX.out)
  have HP2 := Lib.hid (show OpIn (· < w2.heap.size) w2 A2 ps from (Sl.of_own _ ho2).moved fun _ hx => ⟨hx.2, rfl⟩)
  clear hb2 ho2
  rw [← HOO.out]
  go_wp2_with fail
  refine (hC.out w2 A1 c1 L1 A2 c2 (HTX.out.later HB2.out) (HS1.out.later HB2.out) HPS1.out HP2.out).mono ?_
  rintro e w3 ⟨A3, c3, L3, B3, d3, rfl, hps3, hi3, ho3, hb3⟩
  have HN3 := Lib.hid (show L3.length = PS.length by rw [← List.length_map (f := OpV.ps), hps3])
  (try dsimp only)
  rw [HN3.out]
  have HPS3 := Lib.hid hps3
  have HX3 := Lib.hid (bThen HB2.out hb3)
  have HH3 := Lib.hid (held_in (s := s') (h := h') (c := c3) hi3 HX3.out)
  rw [HN3.out] at HH3
  have HO3 := Lib.hid (Sl.later ho3 (bAlloc (Below.refl w3.heap.size w3) (.cells #[.int .i64 s', .int .i64 h', .slice A3 PS.length c3] 41)))
  have HP3 := Lib.hid (Sl.later HP2.out hb3)
  obtain ⟨WY, hWY⟩ : ∃ WY, WY = w3.alloc (.cells #[.int .i64 s', .int .i64 h', .slice A3 PS.length c3] 41) := ⟨_, rfl⟩
  obtain ⟨Q, hQ⟩ : ∃ Q, Q = w3.heap.size := ⟨_, rfl⟩
  have HWY := Lib.hid hWY
  have HQ := Lib.hid hQ
  have HPY := Lib.hid (show OpIn (· < WY.heap.size) WY A2 ps by rw [hWY]; exact Sl.later HP3.out (bAlloc (Below.refl _ _) _))
  rw [← hWY] at HO3
  rw [← hWY, ← hQ] at HH3
  obtain ⟨x0, x1, x2, _, _, _, hxz⟩ := three_cell ((HX3.out.block _ (three_cell HEX.out).2.2.2.2.2.2).trans HEX.out)
  clear hWY hQ hi3 ho3 hb3 hps3 HP3 y0 y1 y2 hyz hz2
  go_wp2_with fail
  rw [← HWY.out, ← HQ.out]
  clear x0 x1 x2 hxz
  have HBY := Lib.hid (bThen HBX.out HH3.out.b)
  have HEY := Lib.hid (show EdgeAt WY w.heap.size s h A L.length c from (HH3.out.b.block _ (three_cell HEX.out).2.2.2.2.2.2).trans HEX.out)
  have HOY := Lib.hid (show EdgeAt WY O s h A1 L1.length c1 from (HH3.out.b.block _ (three_cell HOX.out).2.2.2.2.2.2).trans HOX.out)
  have HSY := Lib.hid (HS.out.later HBY.out)
  have HS1Y := Lib.hid (HS1.out.later HH3.out.b)
  have HPB := Lib.hid (Sl.later HP.out HBY.out)
  refine (hR.out WY (HT.out.later HBY.out) HSY.out HPB.out).mono ?_
  rintro e w4 ⟨A4, c4, L4, B4, d4, rfl, hps4, hi4, ho4, hb4⟩
  have HN4 := Lib.hid (show L4.length = PS.length by rw [← List.length_map (f := OpV.ps), hps4])
  (try dsimp only)
  rw [HN4.out]
  have HPS4 := Lib.hid hps4
  have HH4 := Lib.hid (held_in (WX := WY) (s := s') (h := h') (c := c4) hi4 hb4)
  rw [HN4.out] at HH4
  obtain ⟨WZ, hWZ⟩ : ∃ WZ, WZ = w4.alloc (.cells #[.int .i64 s', .int .i64 h', .slice A4 PS.length c4] 41) := ⟨_, rfl⟩
  obtain ⟨P, hP⟩ : ∃ P, P = w4.heap.size := ⟨_, rfl⟩
  have HWZ := Lib.hid hWZ
  have HPQ := Lib.hid hP
  have HO4 := Lib.hid (show OpIn (· < WZ.heap.size) WZ B4 op by rw [hWZ]; exact Sl.later ho4 (bAlloc (Below.refl _ _) _))
  rw [← hWZ, ← hP] at HH4
  have HH3Z := Lib.hid (HH3.out.later HH4.out.b)
  have HO3Z := Lib.hid (Sl.later HO3.out HH4.out.b)
  have HEZ := Lib.hid (show EdgeAt WZ w.heap.size s h A L.length c from (HH4.out.b.block _ (three_cell HEY.out).2.2.2.2.2.2).trans HEY.out)
  have HOZ := Lib.hid (show EdgeAt WZ O s h A1 L1.length c1 from (HH4.out.b.block _ (three_cell HOY.out).2.2.2.2.2.2).trans HOY.out)
  have HBZ := Lib.hid (bThen HBY.out HH4.out.b)
  have HSZ := Lib.hid (HS.out.later HBZ.out)
  have HS1Z := Lib.hid (HS1Y.out.later HH4.out.b)
  have HPBZ := Lib.hid (Sl.later HP.out HBZ.out)
  have HPYZ := Lib.hid (Sl.later HPY.out HH4.out.b)
  obtain ⟨x0, x1, x2, _, _, _, hxz⟩ := three_cell ((hb4.block _ (three_cell HH3.out.e).2.2.2.2.2.2).trans HH3.out.e)
  clear hWZ hP hi4 ho4 hb4 hps4
  go_wp2_with fail
  rw [← HWZ.out, ← HPQ.out]
  refine (sameEdge_c WZ s' h' A3 A4 c3 c4 PS.length L3 L4 HH3Z.out.i HH4.out.i (HPS4.out.trans HPS3.out.symm) HN3.out hPn (fun o ho => hPS _ (HPS3.out ▸ List.mem_map_of_mem ho))).mono ?_
  rintro e w5 ⟨rfl, hb5⟩
  go_wp2_with fail
  refine (sameOp_c w5 B3 B4 d3 d4 op (Sl.later HO3Z.out hb5) (Sl.later HO4.out hb5) hol).mono ?_
  rintro e w6 ⟨rfl, hb6⟩
  have HB6 := Lib.hid (bThen hb5 hb6)
  obtain ⟨y0, y1, y2, _, _, _, hyz⟩ := three_cell ((HB6.out.block _ (three_cell HOZ.out).2.2.2.2.2.2).trans HOZ.out)
  obtain ⟨v0, v1, v2, _, _, _, hvz⟩ := three_cell ((HB6.out.block _ (three_cell HEZ.out).2.2.2.2.2.2).trans HEZ.out)
  clear hb5 hb6 x0 x1 x2 hxz
  go_wp2_with fail
  rw [HL1.out]
  refine (sameEdge_c w6 s h A1 A c1 c L.length L1 L (HS1Z.out.later HB6.out) (HSZ.out.later HB6.out) HPS1.out.symm HL1.out (by omega) (fun o ho => hq1 o ho)).mono ?_
  rintro e w7 ⟨rfl, hb7⟩
  have HB7 := Lib.hid (bThen HB6.out hb7)
  go_wp2_with fail
  refine (sameOp_c w7 A2 B c2 cc ps (Sl.later HPYZ.out HB7.out) (Sl.later HPBZ.out HB7.out) hpl).mono ?_
  rintro e w8 ⟨rfl, hb8⟩
  have HB8 := Lib.hid (bThen HBZ.out (bThen HB7.out hb8))
  clear hb7 hb8
  go_wp2
  go_ret
  exact ⟨by simp, HB8.out⟩
end edgeHears
end Go.Proofs.YtbmdepbmejnlkaaDoor
namespace Go.Proofs.YtbmdepbmejnlkaaDoor
open Go.ChangeShapes Go.WideShapes Go.ChangeAt Go.RowKit
set_option maxRecDepth 100000
namespace edgeHears
theorem badOp_same {L L1 : List OpV} (h : L1.map OpV.ps = L.map OpV.ps) (i : Nat) : badOp L1 i = badOp L i := by
  have hg : ∀ j : Nat, (L1[j]?).map OpV.ps = (L[j]?).map OpV.ps := fun j => by rw [← List.getElem?_map, ← List.getElem?_map, h]
  have hi := hg i
  unfold badOp
  cases h1 : L1[i]? with
  | none =>
    cases h2 : L[i]? with
    | none => rfl
    | some b => rw [h1, h2] at hi; cases hi
  | some a =>
    cases h2 : L[i]? with
    | none => rw [h1, h2] at hi; cases hi
    | some b =>
      rw [h1, h2] at hi
      have e : a.ps = b.ps := Option.some.inj hi
      simp only [e]
      cases i with
      | zero => rfl
      | succ j =>
        have hj := hg j
        cases h3 : L1[j]? with
        | none =>
          cases h4 : L[j]? with
          | none => simp only [h3, h4]
          | some d => rw [h3, h4] at hj; cases hj
        | some c =>
          cases h4 : L[j]? with
          | none => rw [h3, h4] at hj; cases hj
          | some d =>
            rw [h3, h4] at hj
            have e2 : c.ps = d.ps := Option.some.inj hj
            simp only [h3, h4, e2]
theorem hearAns_same {s h : Int} {L L1 : List OpV} {ps : List PartD} {hd : Int} {up : Bool} (hp : L1.map OpV.ps = L.map OpV.ps) : hearAns s h L1 ps hd up = hearAns s h L ps hd up := by
  have hl : L1.length = L.length := by rw [← List.length_map (f := OpV.ps), hp, List.length_map]
  have hm : edgeMay s h L1 = edgeMay s h L := by
    unfold edgeMay
    simp only [hl, badOp_same hp]
  unfold hearAns
  simp only [hm, hl, hp]
theorem hearG_small (up : Bool) : ∀ (ps acc : List (List PartD)) (here : List PartD), (∀ q ∈ acc, SmallD q) → SmallD here →
    (hearG up acc here ps).1.length ≤ acc.length + ps.length ∧ (∀ q ∈ (hearG up acc here ps).1, SmallD q) ∧ SmallD (hearG up acc here ps).2.1 := by
  intro ps
  induction ps with
  | nil => intro acc here h1 h2; exact ⟨Nat.le_refl _, h1, h2⟩
  | cons p ps ih =>
    intro acc here h1 h2
    by_cases he : stE up p here = 0
    · rw [hearG_step he]
      have := ih (acc ++ [stP up p here]) (stH up p here) (fun q hq => by
        rcases List.mem_append.1 hq with hq | hq
        · exact h1 q hq
        · obtain rfl : q = stP up p here := by simpa using hq
          exact stP_small up p here) (stH_small up p here)
      refine ⟨Nat.le_trans this.1 (by simp; omega), this.2⟩
    · rw [hearG_stop he]
      exact ⟨by simp, by simp, by simp, by simp⟩
theorem hearAns_small {s h : Int} {L : List OpV} {ps : List PartD} {hd : Int} {up : Bool} (hL : L.length ≤ 1048576) (hs : SmallD ps) :
    (hearAns s h L ps hd up).2.2.1.length ≤ 1048577 ∧ (∀ q ∈ (hearAns s h L ps hd up).2.2.1, q.length ≤ 1048576) ∧ (hearAns s h L ps hd up).2.2.2.1.length ≤ 1048576 := by
  unfold hearAns
  split
  · exact ⟨by simp, by simp, by simp⟩
  split
  · exact ⟨by simp, by simp, by simp⟩
  split
  · exact ⟨by simp, by simp, by simp⟩
  split
  · exact ⟨by simp, by simp, by simp⟩
  · have hg := hearG_small up ((L.map OpV.ps).drop (hd - (s - L.length)).toNat) [] ps (by simp) hs
    generalize hearG up [] ps ((L.map OpV.ps).drop (hd - (s - L.length)).toNat) = g at hg
    obtain ⟨h1, h2, h3⟩ := hg
    unfold hearOut
    split
    · refine ⟨Nat.le_trans h1 ?_, fun q hq => (h2 q hq).1, h3.1⟩
      simp
      omega
    · exact ⟨by simp, by simp, by simp⟩
theorem walk (w : World) (s h : Int) (A : Option Addr) (c : Nat) (L : List OpV) (hT : Tabs w) (hs : OpsIn w A L) (hm : ∀ o ∈ L, o.Small) (hll : L.length ≤ 1048576) (B : Option Addr) (cc : Nat) (ps : List PartD) (hop : OpIn (· < w.heap.size) w B ps) (hsp : SmallD ps) (hd : Int) (up : Bool) :
    Calls Tryd.prog 5 #[edgeV s h A L.length c, .slice B ps.length cc, .int .i64 hd, .bool up] w fun e w' => e = .returned (.bool true) ∧ Below w.heap.size w w' := by
  obtain ⟨b1, b2, b3⟩ := hearAns_small (s := s) (h := h) (hd := hd) (up := up) hll hsp
  refine walk_of w s h A c L hT hs hm hll B cc ps hop hsp.1 hd up (hearAns s h L ps hd up).1 (hearAns s h L ps hd up).2.1 (hearAns s h L ps hd up).2.2.2.2 (hearAns s h L ps hd up).2.2.1 (hearAns s h L ps hd up).2.2.2.1 b1 b2 b3 ?_ ?_
  · intro W A1 c1 L1 B1 cc1 hT hs1 hp hop1
    have hsm : ∀ o ∈ L1, o.Small := fun o ho => by
      have hmem : o.ps ∈ L.map OpV.ps := hp ▸ List.mem_map_of_mem ho
      obtain ⟨q, hq, e⟩ := List.mem_map.1 hmem
      exact ⟨e ▸ (hm q hq).len, fun p hpp => (hm q hq).text p (e ▸ hpp)⟩
    have hl : L1.length = L.length := by rw [← List.length_map (f := OpV.ps), hp, List.length_map]
    have k := EHear_c W s h A1 c1 L1 hT hs1 hsm (by omega) B1 cc1 ps hop1 hsp hd up
    rw [hearAns_same hp] at k
    exact k
  · intro W hT hs1 hop1
    exact EHeard_c W s h A c L hT hs1 hm hll B cc ps hop1 hsp hd up
theorem contract (H : Type) (enc : TypeId × Value → H) (W : World) (base : Nat) (args : Array Value) (ds gs : List (DataW H)) (before : List MemPlace)
    (hval0 : ∀ (j : Nat) t v, Tryd.f5.params[j]? = some t → args[j]? = some v → Value.okWide Tryd.prog W .any base t v)
    (hW : DataW.Whole enc Tryd.prog Tryd.f5.params.toList Rows.edgeHearsSpec.vars false W args.toList ds gs before) (hk : Rows.uptoSmall H (ds ++ gs) = true) (hT : Tabs W) :
    Calls Tryd.prog 5 args W fun e W' => ∃ v, e = .returned v ∧ Rows.edgeHearsSpec.post enc Tryd.prog Tryd.f5 false true false false W args v W' := by
  have hval : ∀ (j : Nat) t v, Tryd.f5.params[j]? = some t → args[j]? = some v → Value.okWide Tryd.prog W .any base t v := hval0
  have hW' := hW
  obtain ⟨p, q, hA0, hV, rfl, hfz, hnd⟩ := hW
  have hA : DataW.TrodAll enc Tryd.prog W 0 (fun _ => true) true Tryd.f5.params.toList args.toList ds p := hA0
  rw [Tryd.params5] at hA hval
  obtain ⟨rfl, rfl⟩ := trodVars_none hV
  obtain ⟨v0, vs0, d0, ds0, p0, q0, hargs, rfl, rfl, h0, r0⟩ := trodAll_cons hA
  obtain ⟨v1, vs1, d1, ds1, p1, q1, rfl, rfl, rfl, h1, r1⟩ := trodAll_cons r0
  obtain ⟨v2, vs2, d2, ds2, p2, q2, rfl, rfl, rfl, h2, r2⟩ := trodAll_cons r1
  obtain ⟨v3, vs3, d3, ds3, p3, q3, rfl, rfl, rfl, h3, r3⟩ := trodAll_cons r2
  obtain ⟨rfl, rfl, rfl⟩ := trodAll_nil r3
  obtain rfl : args = #[v0, v1, v2, v3] := by cases args; simp_all
  have hbulk := bulk_small hk
  have hb0 := Nat.le_trans (bulk_mem (show d0 ∈ [d0, d1, d2, d3] ++ [] by simp)) hbulk
  have hb1 := Nat.le_trans (bulk_mem (show d1 ∈ [d0, d1, d2, d3] ++ [] by simp)) hbulk
  have hb2 := Nat.le_trans (bulk_mem (show d2 ∈ [d0, d1, d2, d3] ++ [] by simp)) hbulk
  have hb3 := Nat.le_trans (bulk_mem (show d3 ∈ [d0, d1, d2, d3] ++ [] by simp)) hbulk
  obtain ⟨cs, rfl, _⟩ := okWide_struct Tryd.underlying41 (hval 0 41 v0 rfl rfl)
  obtain ⟨m, hm⟩ := h0
  obtain ⟨s, h, A, c, L, hv, _, _, _, _, hs, hll, hfit⟩ := open_edge hm hb0
  obtain ⟨A0, n0, c0, rfl⟩ := okWide_slice Tryd.underlying43 (hval 1 43 v1 rfl rfl)
  obtain ⟨m1, hm1⟩ := h1
  obtain ⟨B, cc, ps, hv1, _, _, hop, hpl, ht⟩ := open_op Tryd.underlying43 hm1 hb1
  obtain ⟨hd, rfl, _⟩ := okWide_int Tryd.underlying3 (hval 2 3 v2 rfl rfl)
  obtain ⟨up, rfl⟩ := okWide_bool Tryd.underlying4 (hval 3 4 v3 rfl rfl)
  obtain ⟨l⟩ := cs
  obtain rfl : l = _ := hv
  rw [hv1] at hW' ⊢
  refine (walk W s h A c L hT hs (fun o ho => (hfit o ho).small) hll B cc ps hop ⟨Nat.le_trans hpl hb1, fun p hp => (ht p hp).text⟩ hd up).mono fun e W' ⟨he, hg⟩ => ?_
  subst he
  exact ⟨_, rfl, post_law (tb := 4) laidOut (by kernel_rfl) rfl (by kernel_rfl) Tryd.underlying4 rfl hW' hg⟩
theorem reads (os : Os) {H : Type} (enc : TypeId × Value → H) : ∃ places, DataW.whole enc Tryd.prog ((laidWorld os).forCall (fun _ _ => 0) ⟨#[], #[.agg #[.int .i64 0, .int .i64 0, .slice none 0 0], .slice none 0 0, .int .i64 0, .bool false], []⟩).memory Tryd.f5.params.toList Rows.edgeHearsSpec.vars false #[.agg #[.int .i64 0, .int .i64 0, .slice none 0 0], .slice none 0 0, .int .i64 0, .bool false].toList 8 = some ([.agg [.lit (.int .i64 0), .lit (.int .i64 0), .nil], .nil, .lit (.int .i64 0), .lit (.bool false)], [], places) := by
  have hw : (DataW.whole enc Tryd.prog ((laidWorld os).forCall (fun _ _ => 0) ⟨#[], #[.agg #[.int .i64 0, .int .i64 0, .slice none 0 0], .slice none 0 0, .int .i64 0, .bool false], []⟩).memory Tryd.f5.params.toList Rows.edgeHearsSpec.vars false #[.agg #[.int .i64 0, .int .i64 0, .slice none 0 0], .slice none 0 0, .int .i64 0, .bool false].toList 8).map (fun x => (x.1, x.2.1)) = some ([.agg [.lit (.int .i64 0), .lit (.int .i64 0), .nil], .nil, .lit (.int .i64 0), .lit (.bool false)], []) := by kernel_rfl
  obtain ⟨⟨x1, x2, x3⟩, hx, hx1⟩ := Option.map_eq_some_iff.1 hw
  simp only [Prod.mk.injEq] at hx1
  obtain ⟨rfl, rfl⟩ := hx1
  exact ⟨x3, hx⟩
theorem lifted (os : Os) (started : os.Started) (H : Type) (enc : TypeId × Value → H) (F : Stop.Interp) :
    ReturnsInHanded {} Tryd.checked os 5 .any ((Rows.OpenSpec.upto Rows.edgeHearsSpec).preRow enc Tryd.prog Tryd.f5 Rows.edgeHearsUptoRow.domain false Rows.edgeHearsUptoRow.laid) (((Rows.OpenSpec.upto Rows.edgeHearsSpec).at F).post enc Tryd.prog Tryd.f5 false true false false) := by
  obtain ⟨places, hx⟩ := reads os enc
  refine returnsInHanded_of_row (C := Tryd.checked) (s := Rows.OpenSpec.upto Rows.edgeHearsSpec) own started (by kernel_rfl) Tryd.func5
    (witness_row_atRef (enc := enc) (C := Tryd.checked) false (laidWorld os) #[.agg #[.int .i64 0, .int .i64 0, .slice none 0 0], .slice none 0 0, .int .i64 0, .bool false] rfl (by kernel_rfl) (by kernel_rfl) (by kernel_rfl)
      (OpenSpec.preRow_of_cond 8 hx (by kernel_rfl) (fun k hk => by cases hk; kernel_rfl) (by kernel_rfl) (laid_met os _))) ?_
  intro W base args ds gs before hval hW _ hcond _ hL _ _
  exact contract H enc W base args ds gs before hval hW (hcond _ rfl) (tabs_of hL)
theorem said : Rows.EdgeHearsUptoSaid :=
  OpenClaim.holds_of_cond 5 Tryd.f5 rfl rfl rfl rfl rfl rfl rfl ⟨rfl, rfl, rfl, rfl, rfl⟩ rfl rfl rfl rfl rfl (by kernel_rfl) Tryd.func5 (by kernel_rfl)
    (of_decide_eq_true (by kernel_rfl)) (by unfold Func.isWrapper; first | (rw [if_pos (by decide +kernel)]; kernel_rfl) | (rw [if_neg (by decide +kernel)]; exact ⟨rfl, rfl⟩))
    (fun os started H enc _ F => by rw [OpenClaim.pre_eq_preRow]; exact lifted os started H enc F)
theorem plain (f : FuncId) (fn : Func) (hf : Tryd.pinned.checked.prog.funcNamed "wherry/wherrylaw.EdgeHears" = some f) (hfn : Tryd.pinned.checked.prog.funcs[f]? = some fn) :
    false = Tryd.pinned.checked.prog.looks [] ∧ ∀ (j : Nat) t, fn.params[j]? = some t → Tryd.pinned.checked.prog.wantsStandIn t = false := by
  obtain rfl : f = 5 := Option.some.inj ((show Tryd.prog.funcNamed "wherry/wherrylaw.EdgeHears" = some 5 by kernel_rfl).symm.trans hf) |>.symm
  obtain rfl : fn = Tryd.f5 := (Option.some.inj (Tryd.func5.symm.trans hfn)).symm
  refine ⟨by kernel_rfl, fun j t ht => ?_⟩
  have hall : (Tryd.f5.params.toList.all fun u => !Tryd.prog.wantsStandIn u) = true := by kernel_rfl
  have hm : t ∈ Tryd.f5.params.toList := by simpa using Array.mem_of_getElem? ht
  exact (show Tryd.prog.wantsStandIn t = false by simpa using List.all_eq_true.1 hall t hm)
theorem card : Rows.EdgeHearsUptoCardSaid :=
  Claim7.holds_tied_plain_at .later [] _ _ _ _ said (fun _ h => by cases h) (by kernel_rfl) (fun _ h => by cases h) edgeHearsUpto_row_tie rfl ⟨rfl, rfl⟩ (by kernel_rfl) rfl plain (by kernel_rfl)
end edgeHears
end Go.Proofs.YtbmdepbmejnlkaaDoor
