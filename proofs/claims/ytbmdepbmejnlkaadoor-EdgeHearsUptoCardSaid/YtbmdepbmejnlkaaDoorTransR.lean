/-
  Contract of the reference's Transformed.
-/
import Derived.Test.YtbmdepbmejnlkaaDoorRows
import Derived.Test.YtbmdepbmejnlkaaDoorTransL
namespace Go.Proofs.YtbmdepbmejnlkaaDoor
open Go.ChangeShapes Go.WideShapes Go.ChangeAt Go.RowKit
set_option maxRecDepth 100000
theorem Transform_c (w : World) (A B : Option Addr) (c d : Nat) (x y : List PartD) (hT : Tabs w) (hx : OpIn (· < w.heap.size) w A x) (hy : OpIn (· < w.heap.size) w B y) (hxl : x.length ≤ 1048576) (hyl : y.length ≤ 1048576) (hxt : ∀ p ∈ x, p.text.size ≤ 1048576) (hyt : ∀ p ∈ y, p.text.size ≤ 1048576) :
    Calls Tryd.prog 49 #[.slice A x.length c, .slice B y.length d] w (RetTwo w (trL x y) (trR x y) (trE x y)) := by
  by_cases he : bothErr x y = 0
  · exact Transform_go w A B c d x y hT hx hy hxl hyl hxt hyt he
  · have h1 : trE x y = bothErr x y := if_pos he
    have h2 : trL x y = [] := if_neg (by rw [h1]; exact he)
    have h3 : trR x y = [] := if_neg (by rw [h1]; exact he)
    rw [h1, h2, h3]
    exact Transform_no w A B c d x y hT hx hy hxl hyl hxt hyt he
/-- Two rows of steps. -/
structure StAt (w0 w : World) (Ac : Option Addr) (cc : Nat) (Ad : Option Addr) (cd : Nat) (c d : List (Int × Int)) : Prop where
  rc : w.ownsRow w0.heap.size 138 2 (.slice Ac c.length cc) c.length (stepCells c)
  rd : w.ownsRow w0.heap.size 138 2 (.slice Ad d.length cd) d.length (stepCells d)
  a : Apart2 (Value.slice Ac c.length cc).ownBlock (Value.slice Ad d.length cd).ownBlock
  b : Below w0.heap.size w0 w
theorem StAt.later {w0 w w' : World} {Ac Ad : Option Addr} {cc cd : Nat} {c d : List (Int × Int)} (h : StAt w0 w Ac cc Ad cd c d) (hb : Below w.heap.size w w') : StAt w0 w' Ac cc Ad cd c d :=
  ⟨h.rc.kept (row := none) ⟨hb.os, hb.tape, hb.output, hb.size, fun k hk _ => hb.block k hk⟩ (by cases (Value.slice Ac c.length cc).ownBlock <;> simp), h.rd.kept (row := none) ⟨hb.os, hb.tape, hb.output, hb.size, fun k hk _ => hb.block k hk⟩ (by cases (Value.slice Ad d.length cd).ownBlock <;> simp), h.a, bThen h.b hb⟩
theorem StAt.pushC {w0 W2 w1 : World} {Ac Ad A' : Option Addr} {cc cd c' n' : Nat} {c d : List (Int × Int)} {x : Int × Int} (h : StAt w0 W2 Ac cc Ad cd c d) (hn : n' = c.length + 1)
    (hown : w1.ownsRow w0.heap.size 138 2 (.slice A' n' c') n' (stepCells c ++ [.int .i64 x.1, .int .i32 x.2])) (hgrow : W2.grownBy w1 (Value.slice Ac c.length cc).ownBlock)
    (hat : (Value.slice A' n' c').ownBlock = (Value.slice Ac c.length cc).ownBlock ∨ (Value.slice A' n' c').ownBlock = some W2.heap.size) : StAt w0 w1 A' c' Ad cd (c ++ [x]) d := by
  subst hn
  have e : (c ++ [x]).length = c.length + 1 := by simp
  refine ⟨?_, h.rd.kept hgrow h.a.symm.left, ?_, h.b.grown hgrow h.b.size (fun g hg => (h.rc.lt g hg).1)⟩
  · rw [e, stepCells_append]
    simpa [stepCells] using hown
  · rw [e]
    exact h.a.fresh hat (fun y hy => (h.rd.lt y hy).2)
theorem StAt.pushD {w0 W2 w1 : World} {Ac Ad A' : Option Addr} {cc cd c' n' : Nat} {c d : List (Int × Int)} {x : Int × Int} (h : StAt w0 W2 Ac cc Ad cd c d) (hn : n' = d.length + 1)
    (hown : w1.ownsRow w0.heap.size 138 2 (.slice A' n' c') n' (stepCells d ++ [.int .i64 x.1, .int .i32 x.2])) (hgrow : W2.grownBy w1 (Value.slice Ad d.length cd).ownBlock)
    (hat : (Value.slice A' n' c').ownBlock = (Value.slice Ad d.length cd).ownBlock ∨ (Value.slice A' n' c').ownBlock = some W2.heap.size) : StAt w0 w1 Ac cc A' c' c (d ++ [x]) := by
  subst hn
  have e : (d ++ [x]).length = d.length + 1 := by simp
  refine ⟨h.rc.kept hgrow h.a.left, ?_, ?_, h.b.grown hgrow h.b.size (fun g hg => (h.rd.lt g hg).1)⟩
  · rw [e, stepCells_append]
    simpa [stepCells] using hown
  · rw [e]
    exact (h.a.symm.fresh hat (fun y hy => (h.rc.lt y hy).2)).symm
theorem steps_in {w w' : World} {A : Option Addr} {l : List (Int × Int)} {k : Nat} (h : StepsIn (· < w.heap.size) w A l) (hk : k < l.length) (hb : Below w.heap.size w w') :
    ∃ b o, A = some ⟨b, o, none⟩ ∧ b < w.heap.size ∧ w'.cell? ⟨b, o + k * 2, none⟩ = some (.int .i64 l[k].1) ∧ w'.cell? ⟨b, o + k * 2 + 1, none⟩ = some (.int .i32 l[k].2) := by
  obtain ⟨b, o, e, hl, h0, h1⟩ := StepsIn.at_ h hk
  exact ⟨b, o, e, hl, (hb.cell (p := ⟨b, o + k * 2, none⟩) hl).trans h0, (hb.cell (p := ⟨b, o + k * 2 + 1, none⟩) hl).trans h1⟩
theorem fromS_le (l : List (Int × Int)) : fromS l ≤ l.length := by
  induction l with
  | nil => simp [fromS]
  | cons x l ih =>
    rw [show fromS (x :: l) = (if x.1 = 2 then 0 else 1) + fromS l from rfl, List.length_cons]
    split <;> omega
/-- A call that hands back two operations in memory of its own, and an error. -/
def RetTwoO (w : World) (x y : List PartD) (er : Int) (e : Ending) (w' : World) : Prop :=
  ∃ A c B d, e = .returned (.tuple #[.slice A x.length c, .slice B y.length d, .int .i64 er]) ∧ w'.ownsRow w.heap.size 90 3 (.slice A x.length c) x.length (opCells x) ∧ w'.ownsRow w.heap.size 90 3 (.slice B y.length d) y.length (opCells y) ∧ Below w.heap.size w w'
theorem Transformed_x (w : World) (A B : Option Addr) (c d : Nat) (x y : List PartD) (hT : Tabs w) (hx : OpIn (· < w.heap.size) w A x) (hy : OpIn (· < w.heap.size) w B y) (hxl : x.length ≤ 1048576) (hyl : y.length ≤ 1048576) (hxt : ∀ p ∈ x, p.text.size ≤ 1048576) (hyt : ∀ p ∈ y, p.text.size ≤ 1048576) (h1 : opFault x ≠ 0) : Calls Tryd.prog 51 #[.slice A x.length c, .slice B y.length d] w (RetTwoO w [] [] (opFault x)) := by
  have HX := Lib.hid (OpFault_c w A c x hT hx hxl hxt)
  have HY := Lib.hid (fun W hT hs => OpFault_c W B d y hT hs hyl hyt)
  have HLX := Lib.hid (fun W hs => LengthsOf_c W A c x hs hxl hxt)
  have HLY := Lib.hid (fun W hs => LengthsOf_c W B d y hs hyl hyt)
  have HT := Lib.hid hT
  have e1 : (opFault x != 0) = true := by simpa using h1
  have e2 : (opFault x == 0) = false := by simpa using h1
  generalize opFault x = z at *
  generalize lens x = L at *
  generalize lens y = M at *
  obtain ⟨L1, L2⟩ := L
  obtain ⟨M1, M2⟩ := M
  dsimp only at *
  clear h1 hT hxl hyl hxt hyt HY
  go_enter Tryd.func51, Tryd.ntmps51
  go_wp2_with fail
  refine HX.out.mono ?_
  rintro e w1 ⟨rfl, hb1⟩
  have HB1 := Lib.hid hb1
  clear hb1
  go_wp2_with fail
  refine (HLX.out _ (Sl.later hx HB1.out)).mono ?_
  rintro e w3 ⟨rfl, hb3⟩
  have HB3 := Lib.hid (bThen HB1.out hb3)
  clear hb3
  go_wp2_with fail
  refine (HLY.out _ (Sl.later hy HB3.out)).mono ?_
  rintro e w4 ⟨rfl, hb4⟩
  have HB4 := Lib.hid (bThen HB3.out hb4)
  clear hb4
  go_wp2_with fail
  go_ret3
  exact ⟨none, 0, none, 0, rfl, World.ownsRow_nil _ _ _ _, World.ownsRow_nil _ _ _ _, HB4.out⟩
theorem Transformed_y (w : World) (A B : Option Addr) (c d : Nat) (x y : List PartD) (hT : Tabs w) (hx : OpIn (· < w.heap.size) w A x) (hy : OpIn (· < w.heap.size) w B y) (hxl : x.length ≤ 1048576) (hyl : y.length ≤ 1048576) (hxt : ∀ p ∈ x, p.text.size ≤ 1048576) (hyt : ∀ p ∈ y, p.text.size ≤ 1048576) (h1 : opFault x = 0) (h2 : opFault y ≠ 0) : Calls Tryd.prog 51 #[.slice A x.length c, .slice B y.length d] w (RetTwoO w [] [] (opFault y)) := by
  have HX := Lib.hid (OpFault_c w A c x hT hx hxl hxt)
  have HY := Lib.hid (fun W hT hs => OpFault_c W B d y hT hs hyl hyt)
  have HLX := Lib.hid (fun W hs => LengthsOf_c W A c x hs hxl hxt)
  have HLY := Lib.hid (fun W hs => LengthsOf_c W B d y hs hyl hyt)
  have HT := Lib.hid hT
  rw [h1] at HX
  have e1 : (opFault y != 0) = true := by simpa using h2
  have e2 : (opFault y == 0) = false := by simpa using h2
  generalize opFault y = z at *
  generalize lens x = L at *
  generalize lens y = M at *
  obtain ⟨L1, L2⟩ := L
  obtain ⟨M1, M2⟩ := M
  dsimp only at *
  clear h1 h2 hT hxl hyl hxt hyt
  go_enter Tryd.func51, Tryd.ntmps51
  go_wp2_with fail
  refine HX.out.mono ?_
  rintro e w1 ⟨rfl, hb1⟩
  have HB1 := Lib.hid hb1
  clear hb1
  go_wp2_with fail
  refine (HY.out _ (HT.out.later HB1.out) (Sl.later hy HB1.out)).mono ?_
  rintro e w2 ⟨rfl, hb2⟩
  have HB2 := Lib.hid (bThen HB1.out hb2)
  clear hb2
  go_wp2_with fail
  refine (HLX.out _ (Sl.later hx HB2.out)).mono ?_
  rintro e w3 ⟨rfl, hb3⟩
  have HB3 := Lib.hid (bThen HB2.out hb3)
  clear hb3
  go_wp2_with fail
  refine (HLY.out _ (Sl.later hy HB3.out)).mono ?_
  rintro e w4 ⟨rfl, hb4⟩
  have HB4 := Lib.hid (bThen HB3.out hb4)
  clear hb4
  go_wp2_with fail
  go_ret3
  exact ⟨none, 0, none, 0, rfl, World.ownsRow_nil _ _ _ _, World.ownsRow_nil _ _ _ _, HB4.out⟩
theorem Transformed_l (w : World) (A B : Option Addr) (c d : Nat) (x y : List PartD) (hT : Tabs w) (hx : OpIn (· < w.heap.size) w A x) (hy : OpIn (· < w.heap.size) w B y) (hxl : x.length ≤ 1048576) (hyl : y.length ≤ 1048576) (hxt : ∀ p ∈ x, p.text.size ≤ 1048576) (hyt : ∀ p ∈ y, p.text.size ≤ 1048576) (h1 : opFault x = 0) (h2 : opFault y = 0) (h3 : (lens x).1 ≠ (lens y).1) : Calls Tryd.prog 51 #[.slice A x.length c, .slice B y.length d] w (RetTwoO w [] [] 10) := by
  have HX := Lib.hid (OpFault_c w A c x hT hx hxl hxt)
  have HY := Lib.hid (fun W hT hs => OpFault_c W B d y hT hs hyl hyt)
  have HLX := Lib.hid (fun W hs => LengthsOf_c W A c x hs hxl hxt)
  have HLY := Lib.hid (fun W hs => LengthsOf_c W B d y hs hyl hyt)
  have HT := Lib.hid hT
  rw [h1] at HX
  rw [h2] at HY
  have e1 : ((lens x).1 != (lens y).1) = true := by simpa using h3
  generalize lens x = L at *
  generalize lens y = M at *
  obtain ⟨L1, L2⟩ := L
  obtain ⟨M1, M2⟩ := M
  dsimp only at *
  clear h1 h2 h3 hT hxl hyl hxt hyt
  go_enter Tryd.func51, Tryd.ntmps51
  go_wp2_with fail
  refine HX.out.mono ?_
  rintro e w1 ⟨rfl, hb1⟩
  have HB1 := Lib.hid hb1
  clear hb1
  go_wp2_with fail
  refine (HY.out _ (HT.out.later HB1.out) (Sl.later hy HB1.out)).mono ?_
  rintro e w2 ⟨rfl, hb2⟩
  have HB2 := Lib.hid (bThen HB1.out hb2)
  clear hb2
  go_wp2_with fail
  refine (HLX.out _ (Sl.later hx HB2.out)).mono ?_
  rintro e w3 ⟨rfl, hb3⟩
  have HB3 := Lib.hid (bThen HB2.out hb3)
  clear hb3
  go_wp2_with fail
  refine (HLY.out _ (Sl.later hy HB3.out)).mono ?_
  rintro e w4 ⟨rfl, hb4⟩
  have HB4 := Lib.hid (bThen HB3.out hb4)
  clear hb4
  go_wp2_with fail
  go_ret3
  exact ⟨none, 0, none, 0, rfl, World.ownsRow_nil _ _ _ _, World.ownsRow_nil _ _ _ _, HB4.out⟩
theorem own_later2 {w w' : World} {base : Nat} {e : TypeId} {size : Nat} {v : Value} {n : Nat} {xs : List Value} (h : w.ownsRow base e size v n xs) (hb : Below w.heap.size w w') : w'.ownsRow base e size v n xs :=
  own_stay h fun g hg => hb.block g (h.lt g hg).2
theorem own_base {w : World} {base base' : Nat} {e : TypeId} {size : Nat} {v : Value} {n : Nat} {xs : List Value} (h : w.ownsRow base e size v n xs) (hb : base' ≤ base) : w.ownsRow base' e size v n xs :=
  ⟨h.1, h.2.imp id fun ⟨g, cap, cur, q1, q2, q3⟩ => ⟨g, cap, cur, q1, Nat.le_trans hb q2, q3⟩⟩
set_option maxHeartbeats 8000000 in
theorem Transformed_go (w : World) (A B : Option Addr) (c d : Nat) (x y : List PartD) (hT : Tabs w) (hx : OpIn (· < w.heap.size) w A x) (hy : OpIn (· < w.heap.size) w B y) (hxl : x.length ≤ 1048576) (hyl : y.length ≤ 1048576) (hxt : ∀ p ∈ x, p.text.size ≤ 1048576) (hyt : ∀ p ∈ y, p.text.size ≤ 1048576) (he : bothErr x y = 0) : Calls Tryd.prog 51 #[.slice A x.length c, .slice B y.length d] w (RetTwoO w (trL x y) (trR x y) (trE x y)) := by
  obtain ⟨i0, hi, hz0, hz1, hz2⟩ := info_parts infoStep
  obtain ⟨hfx, hfy, hln⟩ := bothErr_zero he
  have HX := Lib.hid (OpFault_c w A c x hT hx hxl hxt)
  have HY := Lib.hid (fun W hT hs => OpFault_c W B d y hT hs hyl hyt)
  have HLX := Lib.hid (fun W hs => LengthsOf_c W A c x hs hxl hxt)
  have HLY := Lib.hid (fun W hs => LengthsOf_c W B d y hs hyl hyt)
  have HT := Lib.hid hT
  rw [hfx] at HX
  rw [hfy] at HY
  obtain ⟨_, hokx, _, _⟩ := opFault_zero hfx
  obtain ⟨_, hoky, _, _⟩ := opFault_zero hfy
  obtain ⟨ex1, _, nx1, nx2⟩ := op_from hfx
  obtain ⟨ey1, _, ny1, ny2⟩ := op_from hfy
  have hslx := stepsOf_length hokx
  have hsly := stepsOf_length hoky
  have htl := tr_length (stepsOf x) (stepsOf y)
  have HSX := Lib.hid (fun W hs => steps_c W A c x hs hxl hxt (by omega))
  have HSY := Lib.hid (fun W hs => steps_c W B d y hs hyl hyt (by omega))
  have HCL := Lib.hid (show (trC x y).length ≤ 16000 by unfold trC; omega)
  have HDL := Lib.hid (show (trD x y).length ≤ 16000 by unfold trD; omega)
  have HF0 := Lib.hid (show fromS ((stepsOf x).drop 0) = fromS ((stepsOf y).drop 0) by rw [List.drop_zero, List.drop_zero, fromS_steps, fromS_steps]; omega)
  have HC0 := Lib.hid (show [] ++ (trS ((stepsOf x).drop 0) ((stepsOf y).drop 0)).1 = trC x y by rw [List.drop_zero, List.drop_zero]; rfl)
  have HD0 := Lib.hid (show [] ++ (trS ((stepsOf x).drop 0) ((stepsOf y).drop 0)).2 = trD x y by rw [List.drop_zero, List.drop_zero]; rfl)
  have hE : trE x y = fitsErr (grouped (trC x y)) (grouped (trD x y)) := if_neg (by simpa using he)
  have HL := Lib.hid (show trL x y = if trE x y = 0 then grouped (trC x y) else [] from rfl)
  have HR0 := Lib.hid (show trR x y = if trE x y = 0 then grouped (trD x y) else [] from rfl)
  have HE := Lib.hid hE
  have e3 : ((lens x).1 != (lens y).1) = false := by simpa using hln
  generalize lens x = L at *
  generalize lens y = M at *
  obtain ⟨L1, L2⟩ := L
  obtain ⟨M1, M2⟩ := M
  dsimp only at *
  generalize trL x y = LL at *
  generalize trR x y = LR at *
  generalize trE x y = EE at *
  generalize trC x y = CC at *
  generalize trD x y = DD at *
  generalize stepsOf x = X at *
  generalize stepsOf y = Y at *
  have hXl : X.length ≤ 8000 := by omega
  have hYl : Y.length ≤ 8000 := by omega
  have HXO := Lib.hid hx
  have HYO := Lib.hid hy
  clear he hT hxl hyl hxt hyt hfx hfy hln hokx hoky ex1 ey1 nx1 nx2 ny1 ny2 hslx hsly htl hE
  go_enter Tryd.func51, Tryd.ntmps51
  go_wp2_with fail
  refine HX.out.mono ?_
  rintro e w1 ⟨rfl, hb1⟩
  have HB1 := Lib.hid hb1
  clear hb1
  go_wp2_with fail
  refine (HY.out _ (HT.out.later HB1.out) (Sl.later HYO.out HB1.out)).mono ?_
  rintro e w2 ⟨rfl, hb2⟩
  have HB2 := Lib.hid (bThen HB1.out hb2)
  clear hb2
  go_wp2_with fail
  refine (HLX.out _ (Sl.later HXO.out HB2.out)).mono ?_
  rintro e w3 ⟨rfl, hb3⟩
  have HB3 := Lib.hid (bThen HB2.out hb3)
  clear hb3
  go_wp2_with fail
  refine (HLY.out _ (Sl.later HYO.out HB3.out)).mono ?_
  rintro e w4 ⟨rfl, hb4⟩
  have HB4 := Lib.hid (bThen HB3.out hb4)
  clear hb4
  clear hx hy
  go_wp2_with fail
  refine (HSX.out _ (Sl.later HXO.out HB4.out)).mono ?_
  rintro e w6 ⟨AX, cX, rfl, hoX, hb6⟩
  have HB6 := Lib.hid (bThen HB4.out hb6)
  clear hb6
  have HX6 := Lib.hid (own_sl' hoX)
  clear hoX
  go_wp2_with fail
  refine (HSY.out _ (Sl.later HYO.out HB6.out)).mono ?_
  rintro e w8 ⟨AY, cY, rfl, hoY, hb8⟩
  have HB8 := Lib.hid (bThen HB6.out hb8)
  have HX8 := Lib.hid (Sl.later HX6.out hb8)
  have HY8 := Lib.hid (own_sl' hoY)
  clear hb8 hoY HX6 HX HY HLX HLY HSX HSY
  go_wp2_with fail
  go_loopw [14, 15, 16, 17] (fun c_ d_ i_ k_ wr => ∃ (i k : Nat) (c' d' : List (Int × Int)) (Ac : Option Addr) (cc : Nat) (Ad : Option Addr) (cd : Nat), i ≤ X.length ∧ k ≤ Y.length ∧ i_ = .int .i64 i ∧ k_ = .int .i64 k ∧ c_ = .slice Ac c'.length cc ∧ d_ = .slice Ad d'.length cd ∧ Hid (StAt w8 wr Ac cc Ad cd c' d') ∧ Hid (c' ++ (trS (X.drop i) (Y.drop k)).1 = CC) ∧ Hid (d' ++ (trS (X.drop i) (Y.drop k)).2 = DD) ∧ Hid (fromS (X.drop i) = fromS (Y.drop k)))
    (fun _ _ i k _ => X.length - (intOf i).toNat + (Y.length - (intOf k).toNat))
  case atStart => exact ⟨0, 0, [], [], none, 0, none, 0, Nat.zero_le _, Nat.zero_le _, rfl, rfl, rfl, rfl, ⟨World.ownsRow_nil _ _ _ _, World.ownsRow_nil _ _ _ _, .inl rfl, Below.refl _ _⟩, HC0, HD0, HF0⟩
  case round =>
    obtain ⟨i, k, c', d', Ac, cc, Ad, cd, hi1, hk1, rfl, rfl, rfl, rfl, hat0, hC, hD, hF⟩ := hrel
    have hsz := hat0.out.b.size
    have hbc : c'.length ≤ 16000 := by have h2 := congrArg List.length hC.out; have h3 := HCL.out; rw [List.length_append] at h2; omega
    have hbd : d'.length ≤ 16000 := by have h2 := congrArg List.length hD.out; have h3 := HDL.out; rw [List.length_append] at h2; omega
    by_cases hlx : i < X.length
    · have hdx := List.drop_eq_getElem_cons hlx
      have HCX := Lib.hid (fun (W : World) (h : Below w8.heap.size w8 W) => steps_in HX8.out hlx h)
      generalize X[i] = u at *
      obtain ⟨kx, rx⟩ := u
      dsimp only at *
      obtain ⟨b, o, rfl, hbl, g0, g1⟩ := HCX.out wr hat0.out.b
      have HCX1 := Lib.hid (fun (W : World) (h : Below w8.heap.size w8 W) => show W.cell? ⟨b, o + i * 2, none⟩ = some (.int .i64 kx) ∧ W.cell? ⟨b, o + i * 2 + 1, none⟩ = some (.int .i32 rx) by
        obtain ⟨b', o', he, _, q0, q1⟩ := HCX.out W h
        injection he with he
        injection he with h1 h2
        subst h1 h2
        exact ⟨q0, q1⟩)
      clear HCX
      by_cases hkx : kx = 2
      · subst hkx
        have HC' := Lib.hid (show (c' ++ [(2, rx)]) ++ (trS (X.drop (i + 1)) (Y.drop k)).1 = CC by rw [← hC.out, hdx, tr_insL1]; simp)
        have HD' := Lib.hid (show (d' ++ [(1, 0)]) ++ (trS (X.drop (i + 1)) (Y.drop k)).2 = DD by rw [← hD.out, hdx, tr_insL1]; simp)
        have HF' := Lib.hid (show fromS (X.drop (i + 1)) = fromS (Y.drop k) by rw [← hF.out, hdx, fromS_cons2]; omega)
        clear hC hD hF hdx
        have HX1 := Lib.hid (hat0.out.later (bAlloc (Below.refl _ _) (.cells #[.int .i64 2, .int .i32 rx] 138)))
        have HS1 := Lib.hid (Sl.new (S := fun _ => True) wr [.int .i64 2, .int .i32 rx] 138 2 1 rfl trivial)
        go_wp2_with (at_builtin; refine wpList_append_sl _ rfl _ _ 135 rfl w8.heap.size 138 i0 (.agg #[.int .i64 0, .int .i32 0]) 2 16 Tryd.underlying135 hi hz0 hz1 hz2 rfl (by decide) _ _ _ rfl HX1.out.rc _ _ _ _ _ rfl HS1.out ?c1 ?c2 ?c3 ?c4 ?_)
        case c1 => exact step_one (2, rx)
        case c2 => unfold maxLen; omega
        case c3 => omega
        case c4 => simp; omega
        intro A1 c1 w1_ hown1 hgrow1 hat1
        have HP1 := Lib.hid (HX1.out.pushC (x := (2, rx)) rfl hown1 hgrow1 (by simpa using hat1))
        have hzw1 := HP1.out.b.size
        clear hown1 hgrow1 hat1 HX1 HS1
        have HX2 := Lib.hid (HP1.out.later (bAlloc (Below.refl _ _) (.cells #[.int .i64 1, .int .i32 0] 138)))
        have HS2 := Lib.hid (Sl.new (S := fun _ => True) w1_ [.int .i64 1, .int .i32 0] 138 2 1 rfl trivial)
        go_wp2_with (at_builtin; refine wpList_append_sl _ rfl _ _ 135 rfl w8.heap.size 138 i0 (.agg #[.int .i64 0, .int .i32 0]) 2 16 Tryd.underlying135 hi hz0 hz1 hz2 rfl (by decide) _ _ _ rfl HX2.out.rd _ _ _ _ _ rfl HS2.out ?c1 ?c2 ?c3 ?c4 ?_)
        case c1 => exact step_one (1, 0)
        case c2 => unfold maxLen; omega
        case c3 => omega
        case c4 => simp; omega
        intro A2 c2 w2 hown2 hgrow2 hat2
        have HP2 := Lib.hid (HX2.out.pushD (x := (1, 0)) rfl hown2 hgrow2 (by simpa using hat2))
        have hzw2 := HP2.out.b.size
        clear hown2 hgrow2 hat2 HX2 HS2
        go_wp2_with fail
        go_roundw
        case rel => exact ⟨i + 1, k, c' ++ [(2, rx)], d' ++ [(1, 0)], A1, c1, A2, c2, by omega, by omega, by go_num, by go_num, (by first | rfl | simp), (by first | rfl | simp), HP2, HC', HD', HF'⟩
        case measure => simp [intOf] <;> omega
      have e2 : (kx == 2) = false := by simpa using hkx
      by_cases hly : k < Y.length
      · have hdy := List.drop_eq_getElem_cons hly
        have HCY := Lib.hid (fun (W : World) (h : Below w8.heap.size w8 W) => steps_in HY8.out hly h)
        generalize Y[k] = v at *
        obtain ⟨ky, ry⟩ := v
        dsimp only at *
        obtain ⟨yb, yo, rfl, hybl, m0, m1⟩ := HCY.out wr hat0.out.b
        have HCY1 := Lib.hid (fun (W : World) (h : Below w8.heap.size w8 W) => show W.cell? ⟨yb, yo + k * 2, none⟩ = some (.int .i64 ky) ∧ W.cell? ⟨yb, yo + k * 2 + 1, none⟩ = some (.int .i32 ry) by
          obtain ⟨b', o', he, _, q0, q1⟩ := HCY.out W h
          injection he with he
          injection he with h1 h2
          subst h1 h2
          exact ⟨q0, q1⟩)
        clear HCY
        by_cases hky : ky = 2
        · subst hky
          have HC' := Lib.hid (show (c' ++ [(1, 0)]) ++ (trS (X.drop i) (Y.drop (k + 1))).1 = CC by rw [← hC.out, hdy, tr_insR1 (by rw [hdx]; intro z r hz; injection hz with a _; rw [← a]; exact hkx)]; simp)
          have HD' := Lib.hid (show (d' ++ [(2, ry)]) ++ (trS (X.drop i) (Y.drop (k + 1))).2 = DD by rw [← hD.out, hdy, tr_insR1 (by rw [hdx]; intro z r hz; injection hz with a _; rw [← a]; exact hkx)]; simp)
          have HF' := Lib.hid (show fromS (X.drop i) = fromS (Y.drop (k + 1)) by rw [hF.out, hdy, fromS_cons2]; omega)
          clear hC hD hF hdy hdx hkx
          have HX1 := Lib.hid (hat0.out.later (bAlloc (Below.refl _ _) (.cells #[.int .i64 1, .int .i32 0] 138)))
          have HS1 := Lib.hid (Sl.new (S := fun _ => True) wr [.int .i64 1, .int .i32 0] 138 2 1 rfl trivial)
          go_wp2_with (at_builtin; refine wpList_append_sl _ rfl _ _ 135 rfl w8.heap.size 138 i0 (.agg #[.int .i64 0, .int .i32 0]) 2 16 Tryd.underlying135 hi hz0 hz1 hz2 rfl (by decide) _ _ _ rfl HX1.out.rc _ _ _ _ _ rfl HS1.out ?c1 ?c2 ?c3 ?c4 ?_)
          case c1 => exact step_one (1, 0)
          case c2 => unfold maxLen; omega
          case c3 => omega
          case c4 => simp; omega
          intro A1 c1 w1_ hown1 hgrow1 hat1
          have HP1 := Lib.hid (HX1.out.pushC (x := (1, 0)) rfl hown1 hgrow1 (by simpa using hat1))
          have hzw1 := HP1.out.b.size
          clear hown1 hgrow1 hat1 HX1 HS1
          obtain ⟨q0, q1⟩ := HCY1.out w1_ HP1.out.b
          have HX2 := Lib.hid (HP1.out.later (bAlloc (Below.refl _ _) (.cells #[.int .i64 2, .int .i32 ry] 138)))
          have HS2 := Lib.hid (Sl.new (S := fun _ => True) w1_ [.int .i64 2, .int .i32 ry] 138 2 1 rfl trivial)
          go_wp2_with (at_builtin; refine wpList_append_sl _ rfl _ _ 135 rfl w8.heap.size 138 i0 (.agg #[.int .i64 0, .int .i32 0]) 2 16 Tryd.underlying135 hi hz0 hz1 hz2 rfl (by decide) _ _ _ rfl HX2.out.rd _ _ _ _ _ rfl HS2.out ?c1 ?c2 ?c3 ?c4 ?_)
          case c1 => exact step_one (2, ry)
          case c2 => unfold maxLen; omega
          case c3 => omega
          case c4 => simp; omega
          intro A2 c2 w2 hown2 hgrow2 hat2
          have HP2 := Lib.hid (HX2.out.pushD (x := (2, ry)) rfl hown2 hgrow2 (by simpa using hat2))
          have hzw2 := HP2.out.b.size
          clear hown2 hgrow2 hat2 HX2 HS2
          go_wp2_with fail
          go_roundw
          case rel => exact ⟨i, k + 1, c' ++ [(1, 0)], d' ++ [(2, ry)], A1, c1, A2, c2, by omega, by omega, by go_num, by go_num, (by first | rfl | simp), (by first | rfl | simp), HP2, HC', HD', HF'⟩
          case measure => simp [intOf] <;> omega
        have e4 : (ky == 2) = false := by simpa using hky
        have HF' := Lib.hid (show fromS (X.drop (i + 1)) = fromS (Y.drop (k + 1)) by
          have := hF.out
          rw [hdx, hdy, fromS_consO hkx, fromS_consO hky] at this
          omega)
        have hC2 := hC.out
        have hD2 := hD.out
        rw [hdx, hdy, tr_both1 hkx hky] at hC2 hD2
        dsimp only at hC2 hD2
        clear hC hD hF hdx hdy
        by_cases hy1 : ky = 1
        · subst hy1
          by_cases hx1 : kx = 1
          · subst hx1
            have HC' := Lib.hid (show (c' ++ [(1, rx)]) ++ (trS (X.drop (i + 1)) (Y.drop (k + 1))).1 = CC by simpa using hC2)
            have HD' := Lib.hid (show (d' ++ [(1, ry)]) ++ (trS (X.drop (i + 1)) (Y.drop (k + 1))).2 = DD by simpa using hD2)
            clear hC2 hD2 hkx hky
            have HX1 := Lib.hid (hat0.out.later (bAlloc (Below.refl _ _) (.cells #[.int .i64 1, .int .i32 rx] 138)))
            have HS1 := Lib.hid (Sl.new (S := fun _ => True) wr [.int .i64 1, .int .i32 rx] 138 2 1 rfl trivial)
            go_wp2_with (at_builtin; refine wpList_append_sl _ rfl _ _ 135 rfl w8.heap.size 138 i0 (.agg #[.int .i64 0, .int .i32 0]) 2 16 Tryd.underlying135 hi hz0 hz1 hz2 rfl (by decide) _ _ _ rfl HX1.out.rc _ _ _ _ _ rfl HS1.out ?c1 ?c2 ?c3 ?c4 ?_)
            case c1 => exact step_one (1, rx)
            case c2 => unfold maxLen; omega
            case c3 => omega
            case c4 => simp; omega
            intro A1 c1 w1_ hown1 hgrow1 hat1
            have HP1 := Lib.hid (HX1.out.pushC (x := (1, rx)) rfl hown1 hgrow1 (by simpa using hat1))
            have hzw1 := HP1.out.b.size
            clear hown1 hgrow1 hat1 HX1 HS1
            obtain ⟨q0, q1⟩ := HCX1.out w1_ HP1.out.b
            obtain ⟨r0, r1⟩ := HCY1.out w1_ HP1.out.b
            have HX2 := Lib.hid (HP1.out.later (bAlloc (Below.refl _ _) (.cells #[.int .i64 1, .int .i32 ry] 138)))
            have HS2 := Lib.hid (Sl.new (S := fun _ => True) w1_ [.int .i64 1, .int .i32 ry] 138 2 1 rfl trivial)
            go_wp2_with (at_builtin; refine wpList_append_sl _ rfl _ _ 135 rfl w8.heap.size 138 i0 (.agg #[.int .i64 0, .int .i32 0]) 2 16 Tryd.underlying135 hi hz0 hz1 hz2 rfl (by decide) _ _ _ rfl HX2.out.rd _ _ _ _ _ rfl HS2.out ?c1 ?c2 ?c3 ?c4 ?_)
            case c1 => exact step_one (1, ry)
            case c2 => unfold maxLen; omega
            case c3 => omega
            case c4 => simp; omega
            intro A2 c2 w2 hown2 hgrow2 hat2
            have HP2 := Lib.hid (HX2.out.pushD (x := (1, ry)) rfl hown2 hgrow2 (by simpa using hat2))
            have hzw2 := HP2.out.b.size
            clear hown2 hgrow2 hat2 HX2 HS2
            go_wp2_with fail
            go_roundw
            case rel => exact ⟨i + 1, k + 1, c' ++ [(1, rx)], d' ++ [(1, ry)], A1, c1, A2, c2, by omega, by omega, by go_num, by go_num, (by first | rfl | simp), (by first | rfl | simp), HP2, HC', HD', HF'⟩
            case measure => simp [intOf] <;> omega
          · have e6 : (kx == 1) = false := by simpa using hx1
            have HC' := Lib.hid (show (c' ++ [(kx, rx)]) ++ (trS (X.drop (i + 1)) (Y.drop (k + 1))).1 = CC by simpa using hC2)
            have HD' := Lib.hid (show (d') ++ (trS (X.drop (i + 1)) (Y.drop (k + 1))).2 = DD by simpa [hx1] using hD2)
            clear hC2 hD2 hkx hky hx1
            have HX1 := Lib.hid (hat0.out.later (bAlloc (Below.refl _ _) (.cells #[.int .i64 kx, .int .i32 rx] 138)))
            have HS1 := Lib.hid (Sl.new (S := fun _ => True) wr [.int .i64 kx, .int .i32 rx] 138 2 1 rfl trivial)
            go_wp2_with (at_builtin; refine wpList_append_sl _ rfl _ _ 135 rfl w8.heap.size 138 i0 (.agg #[.int .i64 0, .int .i32 0]) 2 16 Tryd.underlying135 hi hz0 hz1 hz2 rfl (by decide) _ _ _ rfl HX1.out.rc _ _ _ _ _ rfl HS1.out ?c1 ?c2 ?c3 ?c4 ?_)
            case c1 => exact step_one (kx, rx)
            case c2 => unfold maxLen; omega
            case c3 => omega
            case c4 => simp; omega
            intro A1 c1 w1_ hown1 hgrow1 hat1
            have HP1 := Lib.hid (HX1.out.pushC (x := (kx, rx)) rfl hown1 hgrow1 (by simpa using hat1))
            have hzw1 := HP1.out.b.size
            clear hown1 hgrow1 hat1 HX1 HS1
            obtain ⟨q0, q1⟩ := HCX1.out w1_ HP1.out.b
            obtain ⟨r0, r1⟩ := HCY1.out w1_ HP1.out.b
            go_wp2_with fail
            go_roundw
            case rel => exact ⟨i + 1, k + 1, c' ++ [(kx, rx)], d', A1, c1, Ad, cd, by omega, by omega, by go_num, by go_num, (by first | rfl | simp), (by first | rfl | simp), HP1, HC', HD', HF'⟩
            case measure => simp [intOf] <;> omega
        · have e5 : (ky == 1) = false := by simpa using hy1
          by_cases hx1 : kx = 1
          · subst hx1
            have HC' := Lib.hid (show (c') ++ (trS (X.drop (i + 1)) (Y.drop (k + 1))).1 = CC by simpa [hy1] using hC2)
            have HD' := Lib.hid (show (d' ++ [(ky, ry)]) ++ (trS (X.drop (i + 1)) (Y.drop (k + 1))).2 = DD by simpa using hD2)
            clear hC2 hD2 hkx hky hy1
            have HX2 := Lib.hid (hat0.out.later (bAlloc (Below.refl _ _) (.cells #[.int .i64 ky, .int .i32 ry] 138)))
            have HS2 := Lib.hid (Sl.new (S := fun _ => True) wr [.int .i64 ky, .int .i32 ry] 138 2 1 rfl trivial)
            go_wp2_with (at_builtin; refine wpList_append_sl _ rfl _ _ 135 rfl w8.heap.size 138 i0 (.agg #[.int .i64 0, .int .i32 0]) 2 16 Tryd.underlying135 hi hz0 hz1 hz2 rfl (by decide) _ _ _ rfl HX2.out.rd _ _ _ _ _ rfl HS2.out ?c1 ?c2 ?c3 ?c4 ?_)
            case c1 => exact step_one (ky, ry)
            case c2 => unfold maxLen; omega
            case c3 => omega
            case c4 => simp; omega
            intro A2 c2 w2 hown2 hgrow2 hat2
            have HP2 := Lib.hid (HX2.out.pushD (x := (ky, ry)) rfl hown2 hgrow2 (by simpa using hat2))
            have hzw2 := HP2.out.b.size
            clear hown2 hgrow2 hat2 HX2 HS2
            go_wp2_with fail
            go_roundw
            case rel => exact ⟨i + 1, k + 1, c', d' ++ [(ky, ry)], Ac, cc, A2, c2, by omega, by omega, by go_num, by go_num, (by first | rfl | simp), (by first | rfl | simp), HP2, HC', HD', HF'⟩
            case measure => simp [intOf] <;> omega
          · have e6 : (kx == 1) = false := by simpa using hx1
            have HC' := Lib.hid (show (c') ++ (trS (X.drop (i + 1)) (Y.drop (k + 1))).1 = CC by simpa [hy1] using hC2)
            have HD' := Lib.hid (show (d') ++ (trS (X.drop (i + 1)) (Y.drop (k + 1))).2 = DD by simpa [hx1] using hD2)
            clear hC2 hD2 hkx hky hy1 hx1
            go_wp2_with fail
            go_roundw
            case rel => exact ⟨i + 1, k + 1, c', d', Ac, cc, Ad, cd, by omega, by omega, by go_num, by go_num, (by first | rfl | simp), (by first | rfl | simp), hat0, HC', HD', HF'⟩
            case measure => simp [intOf] <;> omega
      · exfalso
        have h1 := hF.out
        have hdy : Y.drop k = [] := List.drop_eq_nil_of_le (by omega)
        have h3 : fromS ([] : List (Int × Int)) = 0 := rfl
        rw [hdx, hdy, fromS_consO hkx] at h1
        omega
    · obtain rfl : i = X.length := by omega
      have hdx : X.drop X.length = [] := List.drop_length
      by_cases hly : k < Y.length
      · have hdy := List.drop_eq_getElem_cons hly
        have HCY := Lib.hid (fun (W : World) (h : Below w8.heap.size w8 W) => steps_in HY8.out hly h)
        generalize Y[k] = v at *
        obtain ⟨ky, ry⟩ := v
        dsimp only at *
        obtain ⟨yb, yo, rfl, hybl, m0, m1⟩ := HCY.out wr hat0.out.b
        have HCY1 := Lib.hid (fun (W : World) (h : Below w8.heap.size w8 W) => show W.cell? ⟨yb, yo + k * 2, none⟩ = some (.int .i64 ky) ∧ W.cell? ⟨yb, yo + k * 2 + 1, none⟩ = some (.int .i32 ry) by
          obtain ⟨b', o', he, _, q0, q1⟩ := HCY.out W h
          injection he with he
          injection he with h1 h2
          subst h1 h2
          exact ⟨q0, q1⟩)
        clear HCY
        have hky : ky = 2 := by
          by_cases h2 : ky = 2
          · exact h2
          · exfalso
            have h1 := hF.out
            have h3 : fromS ([] : List (Int × Int)) = 0 := rfl
            rw [hdx, hdy, fromS_consO h2] at h1
            omega
        subst hky
        have HC' := Lib.hid (show (c' ++ [(1, 0)]) ++ (trS (X.drop X.length) (Y.drop (k + 1))).1 = CC by rw [← hC.out, hdy, tr_insR1 (by rw [hdx]; exact not1_nil 2)]; simp)
        have HD' := Lib.hid (show (d' ++ [(2, ry)]) ++ (trS (X.drop X.length) (Y.drop (k + 1))).2 = DD by rw [← hD.out, hdy, tr_insR1 (by rw [hdx]; exact not1_nil 2)]; simp)
        have HF' := Lib.hid (show fromS (X.drop X.length) = fromS (Y.drop (k + 1)) by rw [hF.out, hdy, fromS_cons2]; omega)
        clear hC hD hF hdy hdx
        have HX1 := Lib.hid (hat0.out.later (bAlloc (Below.refl _ _) (.cells #[.int .i64 1, .int .i32 0] 138)))
        have HS1 := Lib.hid (Sl.new (S := fun _ => True) wr [.int .i64 1, .int .i32 0] 138 2 1 rfl trivial)
        go_wp2_with (at_builtin; refine wpList_append_sl _ rfl _ _ 135 rfl w8.heap.size 138 i0 (.agg #[.int .i64 0, .int .i32 0]) 2 16 Tryd.underlying135 hi hz0 hz1 hz2 rfl (by decide) _ _ _ rfl HX1.out.rc _ _ _ _ _ rfl HS1.out ?c1 ?c2 ?c3 ?c4 ?_)
        case c1 => exact step_one (1, 0)
        case c2 => unfold maxLen; omega
        case c3 => omega
        case c4 => simp; omega
        intro A1 c1 w1_ hown1 hgrow1 hat1
        have HP1 := Lib.hid (HX1.out.pushC (x := (1, 0)) rfl hown1 hgrow1 (by simpa using hat1))
        have hzw1 := HP1.out.b.size
        clear hown1 hgrow1 hat1 HX1 HS1
        obtain ⟨q0, q1⟩ := HCY1.out w1_ HP1.out.b
        have HX2 := Lib.hid (HP1.out.later (bAlloc (Below.refl _ _) (.cells #[.int .i64 2, .int .i32 ry] 138)))
        have HS2 := Lib.hid (Sl.new (S := fun _ => True) w1_ [.int .i64 2, .int .i32 ry] 138 2 1 rfl trivial)
        go_wp2_with (at_builtin; refine wpList_append_sl _ rfl _ _ 135 rfl w8.heap.size 138 i0 (.agg #[.int .i64 0, .int .i32 0]) 2 16 Tryd.underlying135 hi hz0 hz1 hz2 rfl (by decide) _ _ _ rfl HX2.out.rd _ _ _ _ _ rfl HS2.out ?c1 ?c2 ?c3 ?c4 ?_)
        case c1 => exact step_one (2, ry)
        case c2 => unfold maxLen; omega
        case c3 => omega
        case c4 => simp; omega
        intro A2 c2 w2 hown2 hgrow2 hat2
        have HP2 := Lib.hid (HX2.out.pushD (x := (2, ry)) rfl hown2 hgrow2 (by simpa using hat2))
        have hzw2 := HP2.out.b.size
        clear hown2 hgrow2 hat2 HX2 HS2
        go_wp2_with fail
        go_roundw
        case rel => exact ⟨X.length, k + 1, c' ++ [(1, 0)], d' ++ [(2, ry)], A1, c1, A2, c2, by omega, by omega, by go_num, by go_num, (by first | rfl | simp), (by first | rfl | simp), HP2, HC', HD', HF'⟩
        case measure => simp [intOf] <;> omega
      · obtain rfl : k = Y.length := by omega
        have hcc : c' = CC := by have := hC.out; rw [hdx, List.drop_length] at this; simpa [trS] using this
        have hdd : d' = DD := by have := hD.out; rw [hdx, List.drop_length] at this; simpa [trS] using this
        subst hcc hdd
        have HGC := Lib.hid (fun (W : World) (h : StepsIn (· < W.heap.size) W Ac c') => grouped_c W Ac cc c' h (by omega))
        have HGD := Lib.hid (fun (W : World) (h : StepsIn (· < W.heap.size) W Ad d') => grouped_c W Ad cd d' h (by omega))
        have hgl := grouped_length c'
        have hhl := grouped_length d'
        have HOU := Lib.hid (fun (W : World) A c hT hs => OpFault_c W A c (grouped c') hT hs (by omega) (fun p hp => by have := grouped_text c' p hp; omega))
        have HOV := Lib.hid (fun (W : World) A c hT hs => OpFault_c W A c (grouped d') hT hs (by omega) (fun p hp => by have := grouped_text d' p hp; omega))
        have hE := HE.out
        unfold fitsErr at hE
        have h1 := HL.out
        have h2 := HR0.out
        clear hgl hhl hC hD hF HC0 HD0 HF0 HCL HDL HL HR0 HE hdx hlx hly
        generalize grouped c' = U at *
        generalize grouped d' = V at *
        by_cases hu : opFault U = 0
        · rw [if_neg (by simpa using hu)] at hE
          rw [hu] at HOU
          by_cases hv : opFault V = 0
          · rw [hv] at hE HOV
            rw [if_pos hE] at h1 h2
            have HLL := Lib.hid h1
            have HLR2 := Lib.hid h2
            have HEE := Lib.hid hE
            clear h1 h2 hE hu hv
            go_wp2_with fail
            refine (HGC.out _ (own_sl' hat0.out.rc)).mono ?_
            rintro e u1 ⟨A1, c1, rfl, ho1, hb1⟩
            have HA1 := Lib.hid (hat0.out.later hb1)
            have HO1 := Lib.hid ho1
            clear hb1 ho1
            go_wp2_with fail
            refine (HGD.out _ (own_sl' HA1.out.rd)).mono ?_
            rintro e u2 ⟨A2, c2, rfl, ho2, hb2⟩
            have HB := Lib.hid (bThen HB8.out (HA1.out.later hb2).b)
            have HU2 := Lib.hid (own_later2 HO1.out hb2)
            have HV2 := Lib.hid ho2
            have hsz1 := HA1.out.b.size
            clear hb2 ho2
            go_wp2_with fail
            refine (HOU.out _ A1 c1 (HT.out.later HB.out) (own_sl' HU2.out)).mono ?_
            rintro e u3 ⟨rfl, hb3⟩
            have HB3 := Lib.hid (bThen HB.out hb3)
            have HU3 := Lib.hid (own_later2 HU2.out hb3)
            have HV3 := Lib.hid (own_later2 HV2.out hb3)
            clear hb3
            go_wp2_with fail
            refine (HOV.out _ A2 c2 (HT.out.later HB3.out) (own_sl' HV3.out)).mono ?_
            rintro e u4 ⟨rfl, hb4⟩
            have HB4 := Lib.hid (bThen HB3.out hb4)
            have HU4 := Lib.hid (own_later2 HU3.out hb4)
            have HV4 := Lib.hid (own_later2 HV3.out hb4)
            clear hb4
            go_wp2_with fail
            go_ret3
            rw [HLL.out, HLR2.out, HEE.out]
            exact ⟨A1, c1, A2, c2, rfl, own_base HU4.out (by have := HB8.out.size; omega), own_base HV4.out (by have := HB8.out.size; omega), HB4.out⟩
          · rw [if_neg (by rw [hE]; exact hv)] at h1 h2
            have HLL := Lib.hid h1
            have HLR2 := Lib.hid h2
            have HEE := Lib.hid hE
            have e7 : (opFault V != 0) = true := by simpa using hv
            generalize opFault V = z at *
            clear h1 h2 hE hu hv
            go_wp2_with fail
            refine (HGC.out _ (own_sl' hat0.out.rc)).mono ?_
            rintro e u1 ⟨A1, c1, rfl, ho1, hb1⟩
            have HA1 := Lib.hid (hat0.out.later hb1)
            have HO1 := Lib.hid ho1
            clear hb1 ho1
            go_wp2_with fail
            refine (HGD.out _ (own_sl' HA1.out.rd)).mono ?_
            rintro e u2 ⟨A2, c2, rfl, ho2, hb2⟩
            have HB := Lib.hid (bThen HB8.out (HA1.out.later hb2).b)
            have HU2 := Lib.hid (own_later2 HO1.out hb2)
            have HV2 := Lib.hid ho2
            have hsz1 := HA1.out.b.size
            clear hb2 ho2
            go_wp2_with fail
            refine (HOU.out _ A1 c1 (HT.out.later HB.out) (own_sl' HU2.out)).mono ?_
            rintro e u3 ⟨rfl, hb3⟩
            have HB3 := Lib.hid (bThen HB.out hb3)
            have HU3 := Lib.hid (own_later2 HU2.out hb3)
            have HV3 := Lib.hid (own_later2 HV2.out hb3)
            clear hb3
            go_wp2_with fail
            refine (HOV.out _ A2 c2 (HT.out.later HB3.out) (own_sl' HV3.out)).mono ?_
            rintro e u4 ⟨rfl, hb4⟩
            have HB4 := Lib.hid (bThen HB3.out hb4)
            have HU4 := Lib.hid (own_later2 HU3.out hb4)
            have HV4 := Lib.hid (own_later2 HV3.out hb4)
            clear hb4
            go_wp2_with fail
            go_ret3
            rw [HLL.out, HLR2.out, HEE.out]
            exact ⟨none, 0, none, 0, rfl, World.ownsRow_nil _ _ _ _, World.ownsRow_nil _ _ _ _, HB4.out⟩
        · rw [if_pos hu] at hE
          rw [if_neg (by rw [hE]; exact hu)] at h1 h2
          have HLL := Lib.hid h1
          have HLR2 := Lib.hid h2
          have HEE := Lib.hid hE
          have e7 : (opFault U != 0) = true := by simpa using hu
          have e8 : (opFault U == 0) = false := by simpa using hu
          generalize opFault U = z at *
          clear h1 h2 hE hu
          go_wp2_with fail
          refine (HGC.out _ (own_sl' hat0.out.rc)).mono ?_
          rintro e u1 ⟨A1, c1, rfl, ho1, hb1⟩
          have HA1 := Lib.hid (hat0.out.later hb1)
          have HO1 := Lib.hid ho1
          clear hb1 ho1
          go_wp2_with fail
          refine (HGD.out _ (own_sl' HA1.out.rd)).mono ?_
          rintro e u2 ⟨A2, c2, rfl, ho2, hb2⟩
          have HB := Lib.hid (bThen HB8.out (HA1.out.later hb2).b)
          have HU2 := Lib.hid (own_later2 HO1.out hb2)
          have HV2 := Lib.hid ho2
          have hsz1 := HA1.out.b.size
          clear hb2 ho2
          go_wp2_with fail
          refine (HOU.out _ A1 c1 (HT.out.later HB.out) (own_sl' HU2.out)).mono ?_
          rintro e u3 ⟨rfl, hb3⟩
          have HB3 := Lib.hid (bThen HB.out hb3)
          have HU3 := Lib.hid (own_later2 HU2.out hb3)
          have HV3 := Lib.hid (own_later2 HV2.out hb3)
          clear hb3
          go_wp2_with fail
          go_ret3
          rw [HLL.out, HLR2.out, HEE.out]
          exact ⟨none, 0, none, 0, rfl, World.ownsRow_nil _ _ _ _, World.ownsRow_nil _ _ _ _, HB3.out⟩
theorem Transformed_c (w : World) (A B : Option Addr) (c d : Nat) (x y : List PartD) (hT : Tabs w) (hx : OpIn (· < w.heap.size) w A x) (hy : OpIn (· < w.heap.size) w B y) (hxl : x.length ≤ 1048576) (hyl : y.length ≤ 1048576) (hxt : ∀ p ∈ x, p.text.size ≤ 1048576) (hyt : ∀ p ∈ y, p.text.size ≤ 1048576) : Calls Tryd.prog 51 #[.slice A x.length c, .slice B y.length d] w (RetTwoO w (trL x y) (trR x y) (trE x y)) := by
  by_cases he : bothErr x y = 0
  · exact Transformed_go w A B c d x y hT hx hy hxl hyl hxt hyt he
  · have h1 : trE x y = bothErr x y := if_pos he
    have h2 : trL x y = [] := if_neg (by rw [h1]; exact he)
    have h3 : trR x y = [] := if_neg (by rw [h1]; exact he)
    rw [h1, h2, h3]
    unfold bothErr at he ⊢
    by_cases q1 : opFault x ≠ 0
    · rw [if_pos q1]
      exact Transformed_x w A B c d x y hT hx hy hxl hyl hxt hyt q1
    rw [if_neg q1] at he ⊢
    by_cases q2 : opFault y ≠ 0
    · rw [if_pos q2]
      exact Transformed_y w A B c d x y hT hx hy hxl hyl hxt hyt (Classical.not_not.1 q1) q2
    rw [if_neg q2] at he ⊢
    by_cases q3 : (lens x).1 ≠ (lens y).1
    · rw [if_pos q3]
      exact Transformed_l w A B c d x y hT hx hy hxl hyl hxt hyt (Classical.not_not.1 q1) (Classical.not_not.1 q2) q3
    · rw [if_neg q3] at he
      exact absurd rfl he
end Go.Proofs.YtbmdepbmejnlkaaDoor
