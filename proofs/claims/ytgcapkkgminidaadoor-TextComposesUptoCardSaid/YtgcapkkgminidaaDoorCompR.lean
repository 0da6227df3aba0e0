/-
  Contract of the reference's Composed.
-/
import Derived.Test.YtgcapkkgminidaaDoorRows
import Derived.Test.YtgcapkkgminidaaDoorCompL
import Derived.Test.YtgcapkkgminidaaDoorTransR
namespace Go.Proofs.YtgcapkkgminidaaDoor
open Go.ChangeShapes Go.WideShapes Go.ChangeAt Go.RowKit
set_option maxRecDepth 100000
theorem Composed_x (w : World) (A B : Option Addr) (c d : Nat) (x y : List PartD) (hT : Tabs w) (hx : OpIn (· < w.heap.size) w A x) (hy : OpIn (· < w.heap.size) w B y) (hxl : x.length ≤ 1048576) (hyl : y.length ≤ 1048576) (hxt : ∀ p ∈ x, p.text.size ≤ 1048576) (hyt : ∀ p ∈ y, p.text.size ≤ 1048576) (h1 : opFault x ≠ 0) : Calls Tryd.prog 17 #[.slice A x.length c, .slice B y.length d] w (RetOpE w [] (opFault x)) := by
  have HX := Lib.hid (OpFault_c w A c x hT hx hxl hxt)
  have HY := Lib.hid (fun W hT hs => OpFault_c W B d y hT hs hyl hyt)
  have HLX := Lib.hid (fun W hs => LengthsOf_c W A c x hs hxl hxt)
  have HLY := Lib.hid (fun W hs => LengthsOf_c W B d y hs hyl hyt)
  have HT := Lib.hid hT
  have e1 : (opFault x != 0) = true := by simpa using h1
  have e2 : (opFault x == 0) = false := by simpa using h1
  generalize opFault x = z at *
  generalize lens x = L at *
  generalize lens y = M at *
  obtain ⟨L1, L2⟩ := L
  obtain ⟨M1, M2⟩ := M
  dsimp only at *
  clear h1 hT hxl hyl hxt hyt HY
  go_enter Tryd.func17, Tryd.ntmps17
  go_wp2_with fail
  refine HX.out.mono ?_
  rintro e w1 ⟨rfl, hb1⟩
  have HB1 := Lib.hid hb1
  clear hb1
  go_wp2_with fail
  refine (HLX.out _ (Sl.later hx HB1.out)).mono ?_
  rintro e w3 ⟨rfl, hb3⟩
  have HB3 := Lib.hid (bThen HB1.out hb3)
  clear hb3
  go_wp2_with fail
  refine (HLY.out _ (Sl.later hy HB3.out)).mono ?_
  rintro e w4 ⟨rfl, hb4⟩
  have HB4 := Lib.hid (bThen HB3.out hb4)
  clear hb4
  go_wp2_with fail
  go_ret2
  exact ⟨none, 0, rfl, World.ownsRow_nil _ _ _ _, HB4.out⟩
theorem Composed_y (w : World) (A B : Option Addr) (c d : Nat) (x y : List PartD) (hT : Tabs w) (hx : OpIn (· < w.heap.size) w A x) (hy : OpIn (· < w.heap.size) w B y) (hxl : x.length ≤ 1048576) (hyl : y.length ≤ 1048576) (hxt : ∀ p ∈ x, p.text.size ≤ 1048576) (hyt : ∀ p ∈ y, p.text.size ≤ 1048576) (h1 : opFault x = 0) (h2 : opFault y ≠ 0) : Calls Tryd.prog 17 #[.slice A x.length c, .slice B y.length d] w (RetOpE w [] (opFault y)) := by
  have HX := Lib.hid (OpFault_c w A c x hT hx hxl hxt)
  have HY := Lib.hid (fun W hT hs => OpFault_c W B d y hT hs hyl hyt)
  have HLX := Lib.hid (fun W hs => LengthsOf_c W A c x hs hxl hxt)
  have HLY := Lib.hid (fun W hs => LengthsOf_c W B d y hs hyl hyt)
  have HT := Lib.hid hT
  rw [h1] at HX
  have e1 : (opFault y != 0) = true := by simpa using h2
  have e2 : (opFault y == 0) = false := by simpa using h2
  generalize opFault y = z at *
  generalize lens x = L at *
  generalize lens y = M at *
  obtain ⟨L1, L2⟩ := L
  obtain ⟨M1, M2⟩ := M
  dsimp only at *
  clear h1 h2 hT hxl hyl hxt hyt
  go_enter Tryd.func17, Tryd.ntmps17
  go_wp2_with fail
  refine HX.out.mono ?_
  rintro e w1 ⟨rfl, hb1⟩
  have HB1 := Lib.hid hb1
  clear hb1
  go_wp2_with fail
  refine (HY.out _ (HT.out.later HB1.out) (Sl.later hy HB1.out)).mono ?_
  rintro e w2 ⟨rfl, hb2⟩
  have HB2 := Lib.hid (bThen HB1.out hb2)
  clear hb2
  go_wp2_with fail
  refine (HLX.out _ (Sl.later hx HB2.out)).mono ?_
  rintro e w3 ⟨rfl, hb3⟩
  have HB3 := Lib.hid (bThen HB2.out hb3)
  clear hb3
  go_wp2_with fail
  refine (HLY.out _ (Sl.later hy HB3.out)).mono ?_
  rintro e w4 ⟨rfl, hb4⟩
  have HB4 := Lib.hid (bThen HB3.out hb4)
  clear hb4
  go_wp2_with fail
  go_ret2
  exact ⟨none, 0, rfl, World.ownsRow_nil _ _ _ _, HB4.out⟩
theorem Composed_l (w : World) (A B : Option Addr) (c d : Nat) (x y : List PartD) (hT : Tabs w) (hx : OpIn (· < w.heap.size) w A x) (hy : OpIn (· < w.heap.size) w B y) (hxl : x.length ≤ 1048576) (hyl : y.length ≤ 1048576) (hxt : ∀ p ∈ x, p.text.size ≤ 1048576) (hyt : ∀ p ∈ y, p.text.size ≤ 1048576) (h1 : opFault x = 0) (h2 : opFault y = 0) (h3 : (lens x).2 ≠ (lens y).1) : Calls Tryd.prog 17 #[.slice A x.length c, .slice B y.length d] w (RetOpE w [] 10) := by
  have HX := Lib.hid (OpFault_c w A c x hT hx hxl hxt)
  have HY := Lib.hid (fun W hT hs => OpFault_c W B d y hT hs hyl hyt)
  have HLX := Lib.hid (fun W hs => LengthsOf_c W A c x hs hxl hxt)
  have HLY := Lib.hid (fun W hs => LengthsOf_c W B d y hs hyl hyt)
  have HT := Lib.hid hT
  rw [h1] at HX
  rw [h2] at HY
  have e1 : ((lens x).2 != (lens y).1) = true := by simpa using h3
  generalize lens x = L at *
  generalize lens y = M at *
  obtain ⟨L1, L2⟩ := L
  obtain ⟨M1, M2⟩ := M
  dsimp only at *
  clear h1 h2 h3 hT hxl hyl hxt hyt
  go_enter Tryd.func17, Tryd.ntmps17
  go_wp2_with fail
  refine HX.out.mono ?_
  rintro e w1 ⟨rfl, hb1⟩
  have HB1 := Lib.hid hb1
  clear hb1
  go_wp2_with fail
  refine (HY.out _ (HT.out.later HB1.out) (Sl.later hy HB1.out)).mono ?_
  rintro e w2 ⟨rfl, hb2⟩
  have HB2 := Lib.hid (bThen HB1.out hb2)
  clear hb2
  go_wp2_with fail
  refine (HLX.out _ (Sl.later hx HB2.out)).mono ?_
  rintro e w3 ⟨rfl, hb3⟩
  have HB3 := Lib.hid (bThen HB2.out hb3)
  clear hb3
  go_wp2_with fail
  refine (HLY.out _ (Sl.later hy HB3.out)).mono ?_
  rintro e w4 ⟨rfl, hb4⟩
  have HB4 := Lib.hid (bThen HB3.out hb4)
  clear hb4
  go_wp2_with fail
  go_ret2
  exact ⟨none, 0, rfl, World.ownsRow_nil _ _ _ _, HB4.out⟩
set_option maxHeartbeats 8000000 in
theorem Composed_go (w : World) (A B : Option Addr) (c d : Nat) (x y : List PartD) (hT : Tabs w) (hx : OpIn (· < w.heap.size) w A x) (hy : OpIn (· < w.heap.size) w B y) (hxl : x.length ≤ 1048576) (hyl : y.length ≤ 1048576) (hxt : ∀ p ∈ x, p.text.size ≤ 1048576) (hyt : ∀ p ∈ y, p.text.size ≤ 1048576) (he : coPre x y = 0) : Calls Tryd.prog 17 #[.slice A x.length c, .slice B y.length d] w (RetOpE w (coL x y) (coE x y)) := by
  obtain ⟨i0, hi, hz0, hz1, hz2⟩ := info_parts infoStep
  obtain ⟨hfx, hfy, hln⟩ := coPre_zero he
  have HX := Lib.hid (OpFault_c w A c x hT hx hxl hxt)
  have HY := Lib.hid (fun W hT hs => OpFault_c W B d y hT hs hyl hyt)
  have HLX := Lib.hid (fun W hs => LengthsOf_c W A c x hs hxl hxt)
  have HLY := Lib.hid (fun W hs => LengthsOf_c W B d y hs hyl hyt)
  have HT := Lib.hid hT
  rw [hfx] at HX
  rw [hfy] at HY
  obtain ⟨_, hokx, _, _⟩ := opFault_zero hfx
  obtain ⟨_, hoky, _, _⟩ := opFault_zero hfy
  obtain ⟨_, ex1, nx1, nx2⟩ := op_from hfx
  obtain ⟨ey1, _, ny1, ny2⟩ := op_from hfy
  have hslx := stepsOf_length hokx
  have hsly := stepsOf_length hoky
  have htl := co_length (stepsOf x) (stepsOf y)
  have HSX := Lib.hid (fun W hs => steps_c W A c x hs hxl hxt (by omega))
  have HSY := Lib.hid (fun W hs => steps_c W B d y hs hyl hyt (by omega))
  have HCL := Lib.hid (show (coC x y).length ≤ 16000 by unfold coC; omega)
  have HF0 := Lib.hid (show toS ((stepsOf x).drop 0) = fromS ((stepsOf y).drop 0) by rw [List.drop_zero, List.drop_zero, fromS_steps, toS_steps hokx]; omega)
  have HC0 := Lib.hid (show [] ++ coS ((stepsOf x).drop 0) ((stepsOf y).drop 0) = coC x y by rw [List.drop_zero, List.drop_zero]; rfl)
  have hE : coE x y = opFault (grouped (coC x y)) := if_neg (by simpa using he)
  have HL := Lib.hid (show coL x y = if coE x y = 0 then grouped (coC x y) else [] from rfl)
  have HE := Lib.hid hE
  have e3 : ((lens x).2 != (lens y).1) = false := by simpa using hln
  generalize lens x = L at *
  generalize lens y = M at *
  obtain ⟨L1, L2⟩ := L
  obtain ⟨M1, M2⟩ := M
  dsimp only at *
  generalize coL x y = LL at *
  generalize coE x y = EE at *
  generalize coC x y = CC at *
  generalize stepsOf x = X at *
  generalize stepsOf y = Y at *
  have hXl : X.length ≤ 8000 := by omega
  have hYl : Y.length ≤ 8000 := by omega
  have HXO := Lib.hid hx
  have HYO := Lib.hid hy
  clear he hT hxl hyl hxt hyt hfx hfy hln hokx hoky ex1 ey1 nx1 nx2 ny1 ny2 hslx hsly htl hE
  go_enter Tryd.func17, Tryd.ntmps17
  go_wp2_with fail
  refine HX.out.mono ?_
  rintro e w1 ⟨rfl, hb1⟩
  have HB1 := Lib.hid hb1
  clear hb1
  go_wp2_with fail
  refine (HY.out _ (HT.out.later HB1.out) (Sl.later HYO.out HB1.out)).mono ?_
  rintro e w2 ⟨rfl, hb2⟩
  have HB2 := Lib.hid (bThen HB1.out hb2)
  clear hb2
  go_wp2_with fail
  refine (HLX.out _ (Sl.later HXO.out HB2.out)).mono ?_
  rintro e w3 ⟨rfl, hb3⟩
  have HB3 := Lib.hid (bThen HB2.out hb3)
  clear hb3
  go_wp2_with fail
  refine (HLY.out _ (Sl.later HYO.out HB3.out)).mono ?_
  rintro e w4 ⟨rfl, hb4⟩
  have HB4 := Lib.hid (bThen HB3.out hb4)
  clear hb4
  clear hx hy
  go_wp2_with fail
  refine (HSX.out _ (Sl.later HXO.out HB4.out)).mono ?_
  rintro e w6 ⟨AX, cX, rfl, hoX, hb6⟩
  have HB6 := Lib.hid (bThen HB4.out hb6)
  clear hb6
  have HX6 := Lib.hid (own_sl' hoX)
  clear hoX
  go_wp2_with fail
  refine (HSY.out _ (Sl.later HYO.out HB6.out)).mono ?_
  rintro e w8 ⟨AY, cY, rfl, hoY, hb8⟩
  have HB8 := Lib.hid (bThen HB6.out hb8)
  have HX8 := Lib.hid (Sl.later HX6.out hb8)
  have HY8 := Lib.hid (own_sl' hoY)
  clear hb8 hoY HX6 HX HY HLX HLY HSX HSY
  go_wp2_with fail
  go_loopw [13, 14, 15] (fun c_ i_ k_ wr => ∃ (i k : Nat) (c' : List (Int × Int)) (Ac : Option Addr) (cc : Nat), i ≤ X.length ∧ k ≤ Y.length ∧ i_ = .int .i64 i ∧ k_ = .int .i64 k ∧ c_ = .slice Ac c'.length cc ∧ Hid (wr.ownsRow w8.heap.size 92 2 (.slice Ac c'.length cc) c'.length (stepCells c')) ∧ Hid (Below w8.heap.size w8 wr) ∧ Hid (c' ++ coS (X.drop i) (Y.drop k) = CC) ∧ Hid (toS (X.drop i) = fromS (Y.drop k)))
    (fun _ i k _ => X.length - (intOf i).toNat + (Y.length - (intOf k).toNat))
  case atStart => exact ⟨0, 0, [], none, 0, Nat.zero_le _, Nat.zero_le _, rfl, rfl, rfl, World.ownsRow_nil _ _ _ _, Below.refl _ _, HC0, HF0⟩
  case round =>
    obtain ⟨i, k, c', Ac, cc, hi1, hk1, rfl, rfl, rfl, hown, hbw, hC, hF⟩ := hrel
    have hsz := hbw.out.size
    have hbc : c'.length ≤ 16000 := by have h2 := congrArg List.length hC.out; have h3 := HCL.out; rw [List.length_append] at h2; omega
    by_cases hlx : i < X.length
    · have hdx := List.drop_eq_getElem_cons hlx
      have HCx := Lib.hid (fun (W : World) (h : Below w8.heap.size w8 W) => steps_in HX8.out hlx h)
      generalize X[i] = ux at *
      obtain ⟨kx, rx⟩ := ux
      dsimp only at *
      obtain ⟨b, o, rfl, hblx, g0, g1⟩ := HCx.out wr hbw.out
      clear HCx
      by_cases hkx : kx = 3
      · subst hkx
        have HC' := Lib.hid (show (c' ++ [(3, rx)]) ++ coS (X.drop (i + 1)) (Y.drop k) = CC by rw [← hC.out, hdx, co_del1]; simp)
        have HF' := Lib.hid (show toS (X.drop (i + 1)) = fromS (Y.drop k) by rw [← hF.out, hdx, toS_cons, if_pos rfl]; omega)
        clear hC hF hdx
        have HX1 := Lib.hid (hown.out.alloc (.cells #[.int .i64 3, .int .i32 rx] 92))
        have HS1 := Lib.hid (Sl.new (S := fun _ => True) wr [.int .i64 3, .int .i32 rx] 92 2 1 rfl trivial)
        go_wp2_with (at_builtin; refine wpList_append_sl _ rfl _ _ 89 rfl w8.heap.size 92 i0 (.agg #[.int .i64 0, .int .i32 0]) 2 16 Tryd.underlying89 hi hz0 hz1 hz2 rfl (by decide) _ _ _ rfl HX1.out _ _ _ _ _ rfl HS1.out ?c1 ?c2 ?c3 ?c4 ?_)
        case c1 => exact step_one (3, rx)
        case c2 => unfold maxLen; omega
        case c3 => omega
        case c4 => simp; omega
        intro A1 c1 w1_ hown1 hgrow1 hat1
        have HO1 := Lib.hid (show w1_.ownsRow w8.heap.size 92 2 (.slice A1 (c' ++ [(3, rx)]).length c1) (c' ++ [(3, rx)]).length (stepCells (c' ++ [(3, rx)])) by simpa [stepCells] using hown1)
        have HB1 := Lib.hid ((bAlloc hbw.out _).grown hgrow1 (by simp; omega) (fun g hg => (hown.out.lt g hg).1))
        clear hown1 hgrow1 hat1 HX1 HS1
        go_wp2_with fail
        go_roundw
        case rel => exact ⟨i + 1, k, c' ++ [(3, rx)], A1, c1, by omega, by omega, by go_num, by go_num, (by first | rfl | simp), HO1, HB1, HC', HF'⟩
        case measure => simp [intOf] <;> omega
      have e2 : (kx == 3) = false := by simpa using hkx
      by_cases hly : k < Y.length
      · have hdy := List.drop_eq_getElem_cons hly
        have HCy := Lib.hid (fun (W : World) (h : Below w8.heap.size w8 W) => steps_in HY8.out hly h)
        generalize Y[k] = uy at *
        obtain ⟨ky, ry⟩ := uy
        dsimp only at *
        obtain ⟨yb, yo, rfl, hbly, m0, m1⟩ := HCy.out wr hbw.out
        clear HCy
        by_cases hky : ky = 2
        · subst hky
          have HC' := Lib.hid (show (c' ++ [(2, ry)]) ++ coS (X.drop i) (Y.drop (k + 1)) = CC by rw [← hC.out, hdy, co_ins1 (by rw [hdx]; intro z r hz; injection hz with a _; rw [← a]; exact hkx)]; simp)
          have HF' := Lib.hid (show toS (X.drop i) = fromS (Y.drop (k + 1)) by rw [hF.out, hdy, fromS_cons2]; omega)
          clear hC hF hdy hdx hkx
          have HX1 := Lib.hid (hown.out.alloc (.cells #[.int .i64 2, .int .i32 ry] 92))
          have HS1 := Lib.hid (Sl.new (S := fun _ => True) wr [.int .i64 2, .int .i32 ry] 92 2 1 rfl trivial)
          go_wp2_with (at_builtin; refine wpList_append_sl _ rfl _ _ 89 rfl w8.heap.size 92 i0 (.agg #[.int .i64 0, .int .i32 0]) 2 16 Tryd.underlying89 hi hz0 hz1 hz2 rfl (by decide) _ _ _ rfl HX1.out _ _ _ _ _ rfl HS1.out ?c1 ?c2 ?c3 ?c4 ?_)
          case c1 => exact step_one (2, ry)
          case c2 => unfold maxLen; omega
          case c3 => omega
          case c4 => simp; omega
          intro A1 c1 w1_ hown1 hgrow1 hat1
          have HO1 := Lib.hid (show w1_.ownsRow w8.heap.size 92 2 (.slice A1 (c' ++ [(2, ry)]).length c1) (c' ++ [(2, ry)]).length (stepCells (c' ++ [(2, ry)])) by simpa [stepCells] using hown1)
          have HB1 := Lib.hid ((bAlloc hbw.out _).grown hgrow1 (by simp; omega) (fun g hg => (hown.out.lt g hg).1))
          clear hown1 hgrow1 hat1 HX1 HS1
          go_wp2_with fail
          go_roundw
          case rel => exact ⟨i, k + 1, c' ++ [(2, ry)], A1, c1, by omega, by omega, by go_num, by go_num, (by first | rfl | simp), HO1, HB1, HC', HF'⟩
          case measure => simp [intOf] <;> omega
        have e4 : (ky == 2) = false := by simpa using hky
        have HF' := Lib.hid (show toS (X.drop (i + 1)) = fromS (Y.drop (k + 1)) by
          have := hF.out
          rw [hdx, hdy, toS_cons, if_neg hkx, fromS_consO hky] at this
          omega)
        have hC2 := hC.out
        rw [hdx, hdy, co_both1 hkx hky] at hC2
        dsimp only at hC2
        clear hC hF hdx hdy
        by_cases hy1 : ky = 1
        · subst hy1
          have HC' := Lib.hid (show (c' ++ [(kx, rx)]) ++ coS (X.drop (i + 1)) (Y.drop (k + 1)) = CC by simpa using hC2)
          clear hC2 hkx hky
          have HX1 := Lib.hid (hown.out.alloc (.cells #[.int .i64 kx, .int .i32 rx] 92))
          have HS1 := Lib.hid (Sl.new (S := fun _ => True) wr [.int .i64 kx, .int .i32 rx] 92 2 1 rfl trivial)
          go_wp2_with (at_builtin; refine wpList_append_sl _ rfl _ _ 89 rfl w8.heap.size 92 i0 (.agg #[.int .i64 0, .int .i32 0]) 2 16 Tryd.underlying89 hi hz0 hz1 hz2 rfl (by decide) _ _ _ rfl HX1.out _ _ _ _ _ rfl HS1.out ?c1 ?c2 ?c3 ?c4 ?_)
          case c1 => exact step_one (kx, rx)
          case c2 => unfold maxLen; omega
          case c3 => omega
          case c4 => simp; omega
          intro A1 c1 w1_ hown1 hgrow1 hat1
          have HO1 := Lib.hid (show w1_.ownsRow w8.heap.size 92 2 (.slice A1 (c' ++ [(kx, rx)]).length c1) (c' ++ [(kx, rx)]).length (stepCells (c' ++ [(kx, rx)])) by simpa [stepCells] using hown1)
          have HB1 := Lib.hid ((bAlloc hbw.out _).grown hgrow1 (by simp; omega) (fun g hg => (hown.out.lt g hg).1))
          clear hown1 hgrow1 hat1 HX1 HS1
          go_wp2_with fail
          go_roundw
          case rel => exact ⟨i + 1, k + 1, c' ++ [(kx, rx)], A1, c1, by omega, by omega, by go_num, by go_num, (by first | rfl | simp), HO1, HB1, HC', HF'⟩
          case measure => simp [intOf] <;> omega
        have e5 : (ky == 1) = false := by simpa using hy1
        by_cases hx1 : kx = 1
        · subst hx1
          have HC' := Lib.hid (show (c' ++ [(ky, ry)]) ++ coS (X.drop (i + 1)) (Y.drop (k + 1)) = CC by simpa [hy1] using hC2)
          clear hC2 hkx hky hy1
          have HX1 := Lib.hid (hown.out.alloc (.cells #[.int .i64 ky, .int .i32 ry] 92))
          have HS1 := Lib.hid (Sl.new (S := fun _ => True) wr [.int .i64 ky, .int .i32 ry] 92 2 1 rfl trivial)
          go_wp2_with (at_builtin; refine wpList_append_sl _ rfl _ _ 89 rfl w8.heap.size 92 i0 (.agg #[.int .i64 0, .int .i32 0]) 2 16 Tryd.underlying89 hi hz0 hz1 hz2 rfl (by decide) _ _ _ rfl HX1.out _ _ _ _ _ rfl HS1.out ?c1 ?c2 ?c3 ?c4 ?_)
          case c1 => exact step_one (ky, ry)
          case c2 => unfold maxLen; omega
          case c3 => omega
          case c4 => simp; omega
          intro A1 c1 w1_ hown1 hgrow1 hat1
          have HO1 := Lib.hid (show w1_.ownsRow w8.heap.size 92 2 (.slice A1 (c' ++ [(ky, ry)]).length c1) (c' ++ [(ky, ry)]).length (stepCells (c' ++ [(ky, ry)])) by simpa [stepCells] using hown1)
          have HB1 := Lib.hid ((bAlloc hbw.out _).grown hgrow1 (by simp; omega) (fun g hg => (hown.out.lt g hg).1))
          clear hown1 hgrow1 hat1 HX1 HS1
          go_wp2_with fail
          go_roundw
          case rel => exact ⟨i + 1, k + 1, c' ++ [(ky, ry)], A1, c1, by omega, by omega, by go_num, by go_num, (by first | rfl | simp), HO1, HB1, HC', HF'⟩
          case measure => simp [intOf] <;> omega
        · have e6 : (kx == 1) = false := by simpa using hx1
          have HC' := Lib.hid (show c' ++ coS (X.drop (i + 1)) (Y.drop (k + 1)) = CC by simpa [hy1, hx1] using hC2)
          clear hC2 hkx hky hy1 hx1
          go_wp2_with fail
          go_roundw
          case rel => exact ⟨i + 1, k + 1, c', Ac, cc, by omega, by omega, by go_num, by go_num, (by first | rfl | simp), hown, hbw, HC', HF'⟩
          case measure => simp [intOf] <;> omega
      · exfalso
        have h1 := hF.out
        have hdy : Y.drop k = [] := List.drop_eq_nil_of_le (by omega)
        have h3 : fromS ([] : List (Int × Int)) = 0 := rfl
        rw [hdx, hdy, toS_cons, if_neg hkx] at h1
        omega
    · obtain rfl : i = X.length := by omega
      have hdx : X.drop X.length = [] := List.drop_length
      by_cases hly : k < Y.length
      · have hdy := List.drop_eq_getElem_cons hly
        have HCy := Lib.hid (fun (W : World) (h : Below w8.heap.size w8 W) => steps_in HY8.out hly h)
        generalize Y[k] = uy at *
        obtain ⟨ky, ry⟩ := uy
        dsimp only at *
        obtain ⟨yb, yo, rfl, hbly, m0, m1⟩ := HCy.out wr hbw.out
        clear HCy
        have hky : ky = 2 := by
          by_cases h2 : ky = 2
          · exact h2
          · exfalso
            have h1 := hF.out
            rw [hdx, hdy, fromS_consO h2, toS_nil] at h1
            omega
        subst hky
        have HC' := Lib.hid (show (c' ++ [(2, ry)]) ++ coS (X.drop X.length) (Y.drop (k + 1)) = CC by rw [← hC.out, hdy, co_ins1 (by rw [hdx]; exact not1_nil 3)]; simp)
        have HF' := Lib.hid (show toS (X.drop X.length) = fromS (Y.drop (k + 1)) by rw [hF.out, hdy, fromS_cons2]; omega)
        clear hC hF hdy hdx
        have HX1 := Lib.hid (hown.out.alloc (.cells #[.int .i64 2, .int .i32 ry] 92))
        have HS1 := Lib.hid (Sl.new (S := fun _ => True) wr [.int .i64 2, .int .i32 ry] 92 2 1 rfl trivial)
        go_wp2_with (at_builtin; refine wpList_append_sl _ rfl _ _ 89 rfl w8.heap.size 92 i0 (.agg #[.int .i64 0, .int .i32 0]) 2 16 Tryd.underlying89 hi hz0 hz1 hz2 rfl (by decide) _ _ _ rfl HX1.out _ _ _ _ _ rfl HS1.out ?c1 ?c2 ?c3 ?c4 ?_)
        case c1 => exact step_one (2, ry)
        case c2 => unfold maxLen; omega
        case c3 => omega
        case c4 => simp; omega
        intro A1 c1 w1_ hown1 hgrow1 hat1
        have HO1 := Lib.hid (show w1_.ownsRow w8.heap.size 92 2 (.slice A1 (c' ++ [(2, ry)]).length c1) (c' ++ [(2, ry)]).length (stepCells (c' ++ [(2, ry)])) by simpa [stepCells] using hown1)
        have HB1 := Lib.hid ((bAlloc hbw.out _).grown hgrow1 (by simp; omega) (fun g hg => (hown.out.lt g hg).1))
        clear hown1 hgrow1 hat1 HX1 HS1
        go_wp2_with fail
        go_roundw
        case rel => exact ⟨X.length, k + 1, c' ++ [(2, ry)], A1, c1, by omega, by omega, by go_num, by go_num, (by first | rfl | simp), HO1, HB1, HC', HF'⟩
        case measure => simp [intOf] <;> omega
      · obtain rfl : k = Y.length := by omega
        have hcc : c' = CC := by have := hC.out; rw [hdx, List.drop_length] at this; simpa [coS] using this
        subst hcc
        have HGC := Lib.hid (fun (W : World) (h : StepsIn (· < W.heap.size) W Ac c') => grouped_c W Ac cc c' h (by omega))
        have hgl := grouped_length c'
        have HOU := Lib.hid (fun (W : World) A c hT hs => OpFault_c W A c (grouped c') hT hs (by omega) (fun p hp => by have := grouped_text c' p hp; omega))
        have hE := HE.out
        have h1 := HL.out
        clear hgl hC hF HC0 HF0 HCL HL HE hdx hlx hly
        generalize grouped c' = U at *
        by_cases hu : opFault U = 0
        · rw [hu] at HOU hE
          rw [if_pos hE] at h1
          have HLL := Lib.hid h1
          have HEE := Lib.hid hE
          clear h1 hE hu
          go_wp2_with fail
          refine (HGC.out _ (own_sl' hown.out)).mono ?_
          rintro e u1 ⟨A1, c1, rfl, ho1, hb1⟩
          have HB := Lib.hid (bThen HB8.out (bThen hbw.out hb1))
          have HU := Lib.hid ho1
          clear hb1 ho1
          go_wp2_with fail
          refine (HOU.out _ A1 c1 (HT.out.later HB.out) (own_sl' HU.out)).mono ?_
          rintro e u3 ⟨rfl, hb3⟩
          have HB3 := Lib.hid (bThen HB.out hb3)
          have HU3 := Lib.hid (own_later2 HU.out hb3)
          clear hb3
          go_wp2_with fail
          go_ret2
          rw [HLL.out, HEE.out]
          exact ⟨A1, c1, rfl, own_base HU3.out (by have := HB8.out.size; omega), HB3.out⟩
        · rw [if_neg (by rw [hE]; exact hu)] at h1
          have HLL := Lib.hid h1
          have HEE := Lib.hid hE
          have e7 : (opFault U != 0) = true := by simpa using hu
          generalize opFault U = z at *
          clear h1 hE hu
          go_wp2_with fail
          refine (HGC.out _ (own_sl' hown.out)).mono ?_
          rintro e u1 ⟨A1, c1, rfl, ho1, hb1⟩
          have HB := Lib.hid (bThen HB8.out (bThen hbw.out hb1))
          have HU := Lib.hid ho1
          clear hb1 ho1
          go_wp2_with fail
          refine (HOU.out _ A1 c1 (HT.out.later HB.out) (own_sl' HU.out)).mono ?_
          rintro e u3 ⟨rfl, hb3⟩
          have HB3 := Lib.hid (bThen HB.out hb3)
          have HU3 := Lib.hid (own_later2 HU.out hb3)
          clear hb3
          go_wp2_with fail
          go_ret2
          rw [HLL.out, HEE.out]
          exact ⟨none, 0, rfl, World.ownsRow_nil _ _ _ _, HB3.out⟩
theorem Composed_c (w : World) (A B : Option Addr) (c d : Nat) (x y : List PartD) (hT : Tabs w) (hx : OpIn (· < w.heap.size) w A x) (hy : OpIn (· < w.heap.size) w B y) (hxl : x.length ≤ 1048576) (hyl : y.length ≤ 1048576) (hxt : ∀ p ∈ x, p.text.size ≤ 1048576) (hyt : ∀ p ∈ y, p.text.size ≤ 1048576) : Calls Tryd.prog 17 #[.slice A x.length c, .slice B y.length d] w (RetOpE w (coL x y) (coE x y)) := by
  by_cases he : coPre x y = 0
  · exact Composed_go w A B c d x y hT hx hy hxl hyl hxt hyt he
  · have h1 : coE x y = coPre x y := if_pos he
    have h2 : coL x y = [] := if_neg (by rw [h1]; exact he)
    rw [h1, h2]
    unfold coPre at he ⊢
    by_cases q1 : opFault x ≠ 0
    · rw [if_pos q1]
      exact Composed_x w A B c d x y hT hx hy hxl hyl hxt hyt q1
    rw [if_neg q1] at he ⊢
    by_cases q2 : opFault y ≠ 0
    · rw [if_pos q2]
      exact Composed_y w A B c d x y hT hx hy hxl hyl hxt hyt (Classical.not_not.1 q1) q2
    rw [if_neg q2] at he ⊢
    by_cases q3 : (lens x).2 ≠ (lens y).1
    · rw [if_pos q3]
      exact Composed_l w A B c d x y hT hx hy hxl hyl hxt hyt (Classical.not_not.1 q1) (Classical.not_not.1 q2) q3
    · rw [if_neg q3] at he
      exact absurd rfl he
end Go.Proofs.YtgcapkkgminidaaDoor
