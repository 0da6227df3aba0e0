/-
  Contract of text.Compose.
-/
import Derived.Test.YtgcapkkgminidaaDoorRows
import Derived.Test.YtgcapkkgminidaaDoorCo
import Derived.Test.YtgcapkkgminidaaDoorTransL
import Derived.Test.YtgcapkkgminidaaDoorHide
import Derived.Deep.RegionHeld3
namespace Go.Proofs.YtgcapkkgminidaaDoor
open Go.ChangeShapes Go.WideShapes Go.ChangeAt Go.RowKit
set_option maxRecDepth 100000
/-- What Compose refuses. -/
def coPre (x y : List PartD) : Int := if opFault x ≠ 0 then opFault x else if opFault y ≠ 0 then opFault y else if (lens x).2 ≠ (lens y).1 then 10 else 0
def coC (x y : List PartD) : List (Int × Int) := coS (stepsOf x) (stepsOf y)
/-- What Compose answers. -/
def coE (x y : List PartD) : Int := if coPre x y ≠ 0 then coPre x y else opFault (grouped (coC x y))
def coL (x y : List PartD) : List PartD := if coE x y = 0 then grouped (coC x y) else []
theorem coPre_zero {x y : List PartD} (h : coPre x y = 0) : opFault x = 0 ∧ opFault y = 0 ∧ (lens x).2 = (lens y).1 := by
  unfold coPre at h
  by_cases h1 : opFault x ≠ 0
  · rw [if_pos h1] at h
    exact absurd h h1
  rw [if_neg h1] at h
  by_cases h2 : opFault y ≠ 0
  · rw [if_pos h2] at h
    exact absurd h h2
  rw [if_neg h2] at h
  by_cases h3 : (lens x).2 ≠ (lens y).1
  · rw [if_pos h3] at h
    cases h
  · exact ⟨Classical.not_not.1 h1, Classical.not_not.1 h2, Classical.not_not.1 h3⟩
/-- A call that hands back an operation in new memory, and an error. -/
def RetOneE (w : World) (L : List PartD) (er : Int) (e : Ending) (w' : World) : Prop :=
  ∃ A c, e = .returned (.tuple #[.slice A L.length c, .int .i64 er]) ∧ OpIn (fun b => w.heap.size ≤ b ∧ b < w'.heap.size) w' A L ∧ Below w.heap.size w w'
theorem insS_cut (Z : List Int) (m : Nat) (l : List (Int × Int)) : insS Z ++ l = insS (Z.take m) ++ (insS (Z.drop m) ++ l) := by
  rw [← List.append_assoc, show insS (Z.take m) ++ insS (Z.drop m) = insS Z by simp only [insS]; rw [← List.map_append, List.take_append_drop]]
theorem not1_ins {k : Int} (h : k ≠ 2) {Z : List Int} (hZ : Z ≠ []) (l : List (Int × Int)) : Not1 k (insS Z ++ l) := by
  intro x r hx
  cases Z with
  | nil => exact absurd rfl hZ
  | cons z Z =>
    rw [show insS (z :: Z) = (2, z) :: insS Z from rfl, List.cons_append] at hx
    injection hx with a b
    rw [← a]
    exact fun e => h e.symm
theorem Compose_x (w : World) (A B : Option Addr) (c d : Nat) (x y : List PartD) (hT : Tabs w) (hx : OpIn (· < w.heap.size) w A x) (_hy : OpIn (· < w.heap.size) w B y) (hxl : x.length ≤ 1048576) (_hyl : y.length ≤ 1048576) (hxt : ∀ p ∈ x, p.text.size ≤ 1048576) (_hyt : ∀ p ∈ y, p.text.size ≤ 1048576) (h1 : opFault x ≠ 0) : Calls Tryd.prog 16 #[.slice A x.length c, .slice B y.length d] w (RetOneE w [] (opFault x)) := by
  have HX := Lib.hid (Check_c w A c x hT hx hxl hxt)
  have e1 : (opFault x != 0) = true := by simpa using h1
  generalize opFault x = z at *
  clear h1 hT hx hxl hxt
  go_enter Tryd.func16, Tryd.ntmps16
  go_wp2_with fail
  refine HX.out.mono ?_
  rintro e w1 ⟨rfl, hb1⟩
  have HB1 := Lib.hid hb1
  clear hb1
  go_wp2_with fail
  go_ret2
  exact ⟨none, 0, rfl, Sl.nil, HB1.out⟩
theorem Compose_y (w : World) (A B : Option Addr) (c d : Nat) (x y : List PartD) (hT : Tabs w) (hx : OpIn (· < w.heap.size) w A x) (hy : OpIn (· < w.heap.size) w B y) (hxl : x.length ≤ 1048576) (hyl : y.length ≤ 1048576) (hxt : ∀ p ∈ x, p.text.size ≤ 1048576) (hyt : ∀ p ∈ y, p.text.size ≤ 1048576) (h1 : opFault x = 0) (h2 : opFault y ≠ 0) : Calls Tryd.prog 16 #[.slice A x.length c, .slice B y.length d] w (RetOneE w [] (opFault y)) := by
  have HX := Lib.hid (Check_c w A c x hT hx hxl hxt)
  have HY := Lib.hid (fun W hT hs => Check_c W B d y hT hs hyl hyt)
  have HLX := Lib.hid (fun W hs => Lengths_c W A c x hs hxl hxt)
  have HLY := Lib.hid (fun W hs => Lengths_c W B d y hs hyl hyt)
  have HT := Lib.hid hT
  rw [h1] at HX
  have e1 : (opFault y != 0) = true := by simpa using h2
  generalize opFault y = z at *
  clear h1 h2 hT hx hxl hyl hxt hyt HLX HLY
  go_enter Tryd.func16, Tryd.ntmps16
  go_wp2_with fail
  refine HX.out.mono ?_
  rintro e w1 ⟨rfl, hb1⟩
  have HB1 := Lib.hid hb1
  clear hb1
  go_wp2_with fail
  refine (HY.out _ (HT.out.later HB1.out) (Sl.later hy HB1.out)).mono ?_
  rintro e w2 ⟨rfl, hb2⟩
  have HB2 := Lib.hid (bThen HB1.out hb2)
  clear hb2
  go_wp2_with fail
  go_ret2
  exact ⟨none, 0, rfl, Sl.nil, HB2.out⟩
theorem Compose_l (w : World) (A B : Option Addr) (c d : Nat) (x y : List PartD) (hT : Tabs w) (hx : OpIn (· < w.heap.size) w A x) (hy : OpIn (· < w.heap.size) w B y) (hxl : x.length ≤ 1048576) (hyl : y.length ≤ 1048576) (hxt : ∀ p ∈ x, p.text.size ≤ 1048576) (hyt : ∀ p ∈ y, p.text.size ≤ 1048576) (h1 : opFault x = 0) (h2 : opFault y = 0) (h3 : (lens x).2 ≠ (lens y).1) : Calls Tryd.prog 16 #[.slice A x.length c, .slice B y.length d] w (RetOneE w [] 10) := by
  have HX := Lib.hid (Check_c w A c x hT hx hxl hxt)
  have HY := Lib.hid (fun W hT hs => Check_c W B d y hT hs hyl hyt)
  have HLX := Lib.hid (fun W hs => Lengths_c W A c x hs hxl hxt)
  have HLY := Lib.hid (fun W hs => Lengths_c W B d y hs hyl hyt)
  have HT := Lib.hid hT
  rw [h1] at HX
  rw [h2] at HY
  have e1 : ((lens x).2 != (lens y).1) = true := by simpa using h3
  generalize lens x = L at *
  generalize lens y = M at *
  obtain ⟨L1, L2⟩ := L
  obtain ⟨M1, M2⟩ := M
  dsimp only at *
  clear h1 h2 h3 hT hxl hyl hxt hyt
  go_enter Tryd.func16, Tryd.ntmps16
  go_wp2_with fail
  refine HX.out.mono ?_
  rintro e w1 ⟨rfl, hb1⟩
  have HB1 := Lib.hid hb1
  clear hb1
  go_wp2_with fail
  refine (HY.out _ (HT.out.later HB1.out) (Sl.later hy HB1.out)).mono ?_
  rintro e w2 ⟨rfl, hb2⟩
  have HB2 := Lib.hid (bThen HB1.out hb2)
  clear hb2
  go_wp2_with fail
  refine (HLX.out _ (Sl.later hx HB2.out)).mono ?_
  rintro e w3 ⟨rfl, hb3⟩
  have HB3 := Lib.hid (bThen HB2.out hb3)
  clear hb3
  go_wp2_with fail
  refine (HLY.out _ (Sl.later hy HB3.out)).mono ?_
  rintro e w4 ⟨rfl, hb4⟩
  have HB4 := Lib.hid (bThen HB3.out hb4)
  clear hb4
  go_wp2_with fail
  go_ret2
  exact ⟨none, 0, rfl, Sl.nil, HB4.out⟩
set_option maxHeartbeats 8000000 in
theorem Compose_go (w : World) (A B : Option Addr) (c d : Nat) (x y : List PartD) (hT : Tabs w) (hx : OpIn (· < w.heap.size) w A x) (hy : OpIn (· < w.heap.size) w B y) (hxl : x.length ≤ 1048576) (hyl : y.length ≤ 1048576) (hxt : ∀ p ∈ x, p.text.size ≤ 1048576) (hyt : ∀ p ∈ y, p.text.size ≤ 1048576) (he : coPre x y = 0) : Calls Tryd.prog 16 #[.slice A x.length c, .slice B y.length d] w (RetOneE w (coL x y) (coE x y)) := by
  obtain ⟨hfx, hfy, hln⟩ := coPre_zero he
  have HX := Lib.hid (Check_c w A c x hT hx hxl hxt)
  have HY := Lib.hid (fun W hT hs => Check_c W B d y hT hs hyl hyt)
  have HLX := Lib.hid (fun W hs => Lengths_c W A c x hs hxl hxt)
  have HLY := Lib.hid (fun W hs => Lengths_c W B d y hs hyl hyt)
  have HT := Lib.hid hT
  rw [hfx] at HX
  rw [hfy] at HY
  obtain ⟨_, hokx, _, _⟩ := opFault_zero hfx
  obtain ⟨_, hoky, _, _⟩ := opFault_zero hfy
  obtain ⟨_, ex1, nx1, nx2⟩ := op_from hfx
  obtain ⟨ey1, _, ny1, ny2⟩ := op_from hfy
  have hslx := stepsOf_length hokx
  have hsly := stepsOf_length hoky
  have htl := co_length (stepsOf x) (stepsOf y)
  have HCL := Lib.hid (show (coC x y).length ≤ 16000 by unfold coC; omega)
  have HF0 := Lib.hid (show toS (remS x 0 0) = fromS (remS y 0 0) by rw [remS_start, remS_start, fromS_steps, toS_steps hokx]; omega)
  have HC0 := Lib.hid (show [] ++ coS (remS x 0 0) (remS y 0 0) = coC x y by rw [remS_start, remS_start]; rfl)
  have hE : coE x y = opFault (grouped (coC x y)) := if_neg (by simpa using he)
  have HL := Lib.hid (show coL x y = if coE x y = 0 then grouped (coC x y) else [] from rfl)
  have HE := Lib.hid hE
  have HVX := Lib.hid (fun (W : World) X l (h : Wk W X A c x l) => h.view hokx hxl hxt)
  have HVY := Lib.hid (fun (W : World) X l (h : Wk W X B d y l) => h.view hoky hyl hyt)
  have HWX := Lib.hid (WOk.start hokx)
  have HWY := Lib.hid (WOk.start hoky)
  have e3 : ((lens x).2 != (lens y).1) = false := by simpa using hln
  generalize lens x = L at *
  generalize lens y = M at *
  obtain ⟨L1, L2⟩ := L
  obtain ⟨M1, M2⟩ := M
  dsimp only at *
  generalize coL x y = LL at *
  generalize coE x y = EE at *
  generalize coC x y = CC at *
  have HXO := Lib.hid hx
  have HYO := Lib.hid hy
  clear he hT hx hy hxl hyl hxt hyt hfx hfy hln hokx hoky ex1 ey1 nx1 nx2 ny1 ny2 hslx hsly htl hE
  go_enter Tryd.func16, Tryd.ntmps16
  go_wp2_with fail
  refine HX.out.mono ?_
  rintro e w1 ⟨rfl, hb1⟩
  have HB1 := Lib.hid hb1
  clear hb1
  go_wp2_with fail
  refine (HY.out _ (HT.out.later HB1.out) (Sl.later HYO.out HB1.out)).mono ?_
  rintro e w2 ⟨rfl, hb2⟩
  have HB2 := Lib.hid (bThen HB1.out hb2)
  clear hb2
  go_wp2_with fail
  refine (HLX.out _ (Sl.later HXO.out HB2.out)).mono ?_
  rintro e w3 ⟨rfl, hb3⟩
  have HB3 := Lib.hid (bThen HB2.out hb3)
  clear hb3
  go_wp2_with fail
  refine (HLY.out _ (Sl.later HYO.out HB3.out)).mono ?_
  rintro e w4 ⟨rfl, hb4⟩
  have HB4 := Lib.hid (bThen HB3.out hb4)
  clear hb4
  clear HX HY HLX HLY
  go_wp2_with fail
  obtain ⟨V1, hV1⟩ : ∃ V1, V1 = w4.alloc (.cells #[.slice A x.length c, .int .i64 0, .int .i64 0] 99) := ⟨_, rfl⟩
  obtain ⟨V2, hV2⟩ : ∃ V2, V2 = V1.alloc (.cells #[.slice B y.length d, .int .i64 0, .int .i64 0] 99) := ⟨_, rfl⟩
  obtain ⟨V3, hV3⟩ : ∃ V3, V3 = V2.alloc (.cells #[.slice none 0 0] 85) := ⟨_, rfl⟩
  have g1 : V1.heap.size = w4.heap.size + 1 := by rw [hV1]; simp
  have g2 : V2.heap.size = V1.heap.size + 1 := by rw [hV2]; simp
  have k2 : Below V1.heap.size V1 V2 := by rw [hV2]; exact bAlloc (Below.refl _ _) _
  have k3 : Below V2.heap.size V2 V3 := by rw [hV3]; exact bAlloc (Below.refl _ _) _
  have k23 := bThen k2 k3
  have k1 : Below w4.heap.size w4 V1 := by rw [hV1]; exact bAlloc (Below.refl _ _) _
  have hXh : WalkAt V3 w4.heap.size A x.length c 0 0 := (k23.block _ (by omega)).trans (by rw [hV1]; exact heap_alloc_new _ _)
  have hYh : WalkAt V3 V1.heap.size B y.length d 0 0 := (k3.block _ (by omega)).trans (by rw [hV2]; exact heap_alloc_new _ _)
  have hPh : V3.heap[V2.heap.size]? = some (.cells #[.slice none 0 0] 85 (0, 0)) := by rw [hV3]; exact heap_alloc_new _ _
  have HR0' := Lib.hid (show Co w4 V3 w4.heap.size V1.heap.size V2.heap.size A c x B d y (remS x 0 0) (remS y 0 0) none 0 [] [] V3.heap[w4.heap.size]? V3.heap[V1.heap.size]? from
    ⟨rfl, rfl, ⟨0, 0, hXh, HWX.out, rfl⟩, ⟨0, 0, hYh, HWY.out, rfl⟩, ⟨by omega, hPh, World.ownsRow_nil _ _ _ _, by simp [Value.ownBlock]⟩, by omega, fun g h => by simp [Value.ownBlock] at h, bThen k1 k23, fun e he => by cases he⟩)
  have hW : ((w4.alloc (.cells #[.slice A x.length c, .int .i64 0, .int .i64 0] 99)).alloc (.cells #[.slice B y.length d, .int .i64 0, .int .i64 0] 99)).alloc (.cells #[.slice none 0 0] 85) = V3 := by rw [hV3, hV2, hV1]
  have HSX1 := Lib.hid (Sl.later HXO.out HB4.out)
  have HSY1 := Lib.hid (Sl.later HYO.out HB4.out)
  have hx1 : w4.heap.size + 1 = V1.heap.size := by omega
  have hx2 : w4.heap.size + 1 + 1 = V2.heap.size := by omega
  rw [hW, hx2, hx1]
  obtain ⟨X, hX⟩ : ∃ X, X = w4.heap.size := ⟨_, rfl⟩
  obtain ⟨Y, hY⟩ : ∃ Y, Y = V1.heap.size := ⟨_, rfl⟩
  obtain ⟨P, hP⟩ : ∃ P, P = V2.heap.size := ⟨_, rfl⟩
  rw [← hX, ← hY, ← hP] at HR0'
  rw [← hX, ← hY, ← hP]
  clear hXh hYh hPh k1 k2 k3 k23 g1 g2 hV1 hV2 hV3 hx1 hx2 hX hY hP hW HXO HYO HWX HWY HB1 HB2 HB3
  go_loopw [4, 5] (fun r1 r2 wr => ∃ (xs ys c' : List (Int × Int)) (rs : List PartD) (Ap : Option Addr) (cp : Nat), r1 = .slice none 0 0 ∧ r2 = .int .i64 0 ∧ Hid (Co w4 wr X Y P A c x B d y xs ys Ap cp rs [] wr.heap[X]? wr.heap[Y]?) ∧ Hid (Holds rs c') ∧ Hid (c' ++ coS xs ys = CC) ∧ Hid (toS xs = fromS ys))
    (fun _ _ wr => leftN wr X x + leftN wr Y y)
  case atStart => exact ⟨remS x 0 0, remS y 0 0, [], [], none, 0, rfl, rfl, HR0', holds_nil, HC0, HF0⟩
  case round =>
    obtain ⟨xs, ys, c', rs, Ap, cp, rfl, rfl, HR1, hP, hC, hF⟩ := hrel
    have HSX := HSX1
    have HSY := HSY1
    have HLR := Lib.hid (show rs.length ≤ 16000 by have h1 := hP.out.len; have h2 := congrArg List.length hC.out; have h3 := HCL.out; rw [List.length_append] at h2; omega)
    have HTR := Lib.hid (show ∀ p ∈ rs, p.text.size ≤ 4611686018427387903 from fun p hp => by have h1 := hP.out.text p hp; have h2 := congrArg List.length hC.out; have h3 := HCL.out; rw [List.length_append] at h2; omega)
    have HBC := Lib.hid (show c'.length ≤ 16000 by have h2 := congrArg List.length hC.out; have h3 := HCL.out; rw [List.length_append] at h2; omega)
    rcases HVX.out wr X xs HR1.out.wx with ⟨rfl, hpx⟩ | ⟨Z, l, hZ, hsc, hZ4, rfl, hpx, hpassX⟩ | ⟨q, n, l, hq, hn0, hn4, rfl, hpx, hpassX⟩
    · have HPX := Lib.hid hpx
      rcases HVY.out wr Y ys HR1.out.wy with ⟨rfl, hpy⟩ | ⟨ZY, ly, hZY, hscY, hZ4Y, rfl, hpy, hpassY⟩ | ⟨qy, ny, ly, hqy, hny0, hny4, rfl, hpy, hpassY⟩
      · have HPY := Lib.hid hpy
        clear hpx hpy
        have hcc : c' = CC := by have := hC.out; simpa [coS] using this
        have hrr := hP.out.rev
        rw [hcc] at hrr
        have hlr : (grouped CC).length = rs.length := by rw [← hrr, List.length_reverse]
        have hgt : ∀ p ∈ grouped CC, p.text.size ≤ 1048576 := fun p hp => by have := grouped_text CC p hp; have := HCL.out; omega
        have hfit := fun (W : World) A' c' hT hx => Check_c W A' c' (grouped CC) hT hx (by have := HLR.out; omega) hgt
        rw [hlr] at hfit
        have HFIT := Lib.hid hfit
        have HSP := Lib.hid (fun (W : World) (h : Bld W w4.heap.size P Ap cp rs) => show OpIn (fun b => w4.heap.size ≤ b ∧ b < W.heap.size) W Ap (grouped CC) by
          have h1 := Sl.of_own W h.row
          rw [hrr, ← hlr] at h1
          exact h1)
        clear hP hC hF hfit hgt hcc hrr
        by_cases hz : opFault (grouped CC) = 0
        · have he0 : EE = 0 := HE.out.trans hz
          have h1 := HL.out
          rw [if_pos he0] at h1
          have HLL := Lib.hid h1
          have HEE := Lib.hid he0
          rw [hz] at HFIT
          clear h1 he0 hz HL HE
          go_wp2_with fail
          refine (HPX.out _ HR1.out.ex (HR1.out.opx HSX.out)).mono ?_
          rintro e wa ⟨rfl, hb⟩
          have HR2 := Lib.hid (HR1.out.later hb)
          clear hb
          go_wp2_with fail
          obtain ⟨VS, hV⟩ : ∃ V, V = wa.alloc (.cells #[.int .i64 0, .int .i64 0, .string ⟨#[]⟩] 79) := ⟨_, rfl⟩
          rw [← hV]
          have HR3 := Lib.hid (HR2.out.note hV)
          obtain ⟨S, hS⟩ : ∃ S, S = wa.heap.size := ⟨_, rfl⟩
          rw [← hS] at HR3
          rw [← hS]
          clear hV hS
          refine (HPY.out _ HR3.out.ey (HR3.out.opy HSY.out)).mono ?_
          rintro e wb ⟨rfl, hb⟩
          have HR4 := Lib.hid (HR3.out.later hb)
          clear hb
          obtain ⟨s0, s1, s2, _, _, _, sz⟩ := three_cell HR4.out.k0
          have y1 := HR4.out.bp.cell
          have y3 := HR4.out.bp.lt
          go_wp2_with fail
          obtain ⟨VT, hV⟩ : ∃ V, V = wb.alloc (.cells #[.int .i64 0, .int .i64 0, .string ⟨#[]⟩] 79) := ⟨_, rfl⟩
          rw [← hV]
          have HR5 := Lib.hid (HR4.out.note hV)
          obtain ⟨T, hS⟩ : ∃ S, S = wb.heap.size := ⟨_, rfl⟩
          rw [← hS] at HR5
          rw [← hS]
          clear hV hS
          clear s0 s1 s2 sz
          clear y1 y3
          refine (HFIT.out _ Ap cp (HT.out.later (bThen HB4.out HR5.out.b)) ((HSP.out _ HR5.out.bp).keep (fun _ h => h.2) (fun _ _ => rfl))).mono ?_
          rintro e w8 ⟨rfl, hb⟩
          have HR6 := Lib.hid (HR5.out.later hb)
          clear hb
          have y1 := HR6.out.bp.cell
          have y3 := HR6.out.bp.lt
          go_wp2_with fail
          go_ret2
          rw [HLL.out, HEE.out]
          exact ⟨Ap, cp, (by rw [hlr]; rfl), (HSP.out _ HR6.out.bp).keep (fun _ h => ⟨by have := HB4.out.size; omega, h.2⟩) (fun _ _ => rfl), bThen HB4.out HR6.out.b⟩
        · have he0 : ¬ EE = 0 := fun e => hz (HE.out.symm.trans e)
          have h1 := HL.out
          rw [if_neg he0] at h1
          have HLL := Lib.hid h1
          have HEE := Lib.hid HE.out
          have e9 : (opFault (grouped CC) != 0) = true := by simpa using hz
          generalize opFault (grouped CC) = z at *
          clear h1 he0 hz HL HE
          go_wp2_with fail
          refine (HPX.out _ HR1.out.ex (HR1.out.opx HSX.out)).mono ?_
          rintro e wa ⟨rfl, hb⟩
          have HR2 := Lib.hid (HR1.out.later hb)
          clear hb
          go_wp2_with fail
          obtain ⟨VS, hV⟩ : ∃ V, V = wa.alloc (.cells #[.int .i64 0, .int .i64 0, .string ⟨#[]⟩] 79) := ⟨_, rfl⟩
          rw [← hV]
          have HR3 := Lib.hid (HR2.out.note hV)
          obtain ⟨S, hS⟩ : ∃ S, S = wa.heap.size := ⟨_, rfl⟩
          rw [← hS] at HR3
          rw [← hS]
          clear hV hS
          refine (HPY.out _ HR3.out.ey (HR3.out.opy HSY.out)).mono ?_
          rintro e wb ⟨rfl, hb⟩
          have HR4 := Lib.hid (HR3.out.later hb)
          clear hb
          obtain ⟨s0, s1, s2, _, _, _, sz⟩ := three_cell HR4.out.k0
          have y1 := HR4.out.bp.cell
          have y3 := HR4.out.bp.lt
          go_wp2_with fail
          obtain ⟨VT, hV⟩ : ∃ V, V = wb.alloc (.cells #[.int .i64 0, .int .i64 0, .string ⟨#[]⟩] 79) := ⟨_, rfl⟩
          rw [← hV]
          have HR5 := Lib.hid (HR4.out.note hV)
          obtain ⟨T, hS⟩ : ∃ S, S = wb.heap.size := ⟨_, rfl⟩
          rw [← hS] at HR5
          rw [← hS]
          clear hV hS
          clear s0 s1 s2 sz
          clear y1 y3
          refine (HFIT.out _ Ap cp (HT.out.later (bThen HB4.out HR5.out.b)) ((HSP.out _ HR5.out.bp).keep (fun _ h => h.2) (fun _ _ => rfl))).mono ?_
          rintro e w8 ⟨rfl, hb⟩
          have HR6 := Lib.hid (HR5.out.later hb)
          clear hb
          have y1 := HR6.out.bp.cell
          have y3 := HR6.out.bp.lt
          go_wp2_with fail
          go_ret2
          rw [HLL.out, HEE.out]
          exact ⟨none, 0, rfl, Sl.nil, bThen HB4.out HR6.out.b⟩
      · have HPY := Lib.hid hpy
        have HPASS := Lib.hid (hpassY ZY.length (Nat.le_refl _))
        have hszl := (runesBytes_le ZY).2
        have HZS := Lib.hid (show (runesBytes ZY).size ≤ 4611686018427387903 by omega)
        have HSZ := Lib.hid (fun (W : World) => show Calls Tryd.prog 52 #[partV 2 0 (runesBytes ZY)] W fun e w' => e = .returned (.int .i64 ZY.length) ∧ Below W.heap.size W w' by
          have h5 := size_ins 0 (runesBytes ZY) W (by omega)
          rwa [← runesOf_length, runes_bytes ZY hscY] at h5)
        clear hszl
        have HC' := Lib.hid (show (c' ++ insS ZY) ++ coS [] ly = CC by rw [← hC.out, co_ins (not1_nil 3), List.append_assoc])
        have HF' := Lib.hid (show toS [] = fromS ly by rw [hF.out, fromS_insS])
        have HP' := Lib.hid (hP.out.ins ZY hZY)
        have HZ0 := Lib.hid (List.length_pos_iff.2 hZY)
        rw [show insS (ZY.drop ZY.length) ++ ly = ly by simp [insS]] at HPASS
        clear hpx hpy hpassY hZY hscY hC hF hP
        go_wp2_with fail
        refine (HPX.out _ HR1.out.ex (HR1.out.opx HSX.out)).mono ?_
        rintro e wa ⟨rfl, hb⟩
        have HR2 := Lib.hid (HR1.out.later hb)
        clear hb
        go_wp2_with fail
        obtain ⟨VS, hV⟩ : ∃ V, V = wa.alloc (.cells #[.int .i64 0, .int .i64 0, .string ⟨#[]⟩] 79) := ⟨_, rfl⟩
        rw [← hV]
        have HR3 := Lib.hid (HR2.out.note hV)
        obtain ⟨S, hS⟩ : ∃ S, S = wa.heap.size := ⟨_, rfl⟩
        rw [← hS] at HR3
        rw [← hS]
        clear hV hS
        refine (HPY.out _ HR3.out.ey (HR3.out.opy HSY.out)).mono ?_
        rintro e wb ⟨rfl, hb⟩
        have HR4 := Lib.hid (HR3.out.later hb)
        clear hb
        obtain ⟨s0, s1, s2, _, _, _, sz⟩ := three_cell HR4.out.k0
        go_wp2_with fail
        obtain ⟨VT, hV⟩ : ∃ V, V = wb.alloc (.cells #[.int .i64 2, .int .i64 0, .string (runesBytes ZY)] 79) := ⟨_, rfl⟩
        rw [← hV]
        have HR5 := Lib.hid (HR4.out.note hV)
        obtain ⟨T, hS⟩ : ∃ S, S = wb.heap.size := ⟨_, rfl⟩
        rw [← hS] at HR5
        rw [← hS]
        clear hV hS
        clear s0 s1 s2 sz
        refine (insert_c _ _ P Ap cp (runesBytes ZY) rs HR5.out.bp HZS.out (by have := HLR.out; omega) HTR.out).mono ?_
        rintro e w6 ⟨rfl, hto⟩
        obtain ⟨A6, c6, hr⟩ := HR5.out.p hto
        have HR6 := Lib.hid hr
        clear hto hr
        obtain ⟨s0, s1, s2, _, _, _, sz⟩ := three_cell HR6.out.k0
        go_wp2_with fail
        refine (HSZ.out _).mono ?_
        rintro e w7 ⟨rfl, hb⟩
        have HR7 := Lib.hid (HR6.out.later hb)
        clear hb
        clear s0 s1 s2 sz
        go_wp2_with fail
        refine (HPASS.out _ HR7.out.ey (HR7.out.opy HSY.out)).mono ?_
        rintro e w8 ⟨rfl, hwk, ho⟩
        have HR8 := Lib.hid (HR7.out.goY hwk ho)
        clear hwk ho
        go_wp2_with fail
        go_roundw
        case rel => exact ⟨[], ly, c' ++ insS ZY, _, A6, c6, rfl, rfl, Lib.hid HR8.out.clean, HP', HC', HF'⟩
        case measure =>
          rw [HR8.out.wx.left, HR8.out.wy.left, HR1.out.wx.left, HR1.out.wy.left]
          have := HZ0.out; simp only [insS, List.length_append, List.length_map]; omega
      · exfalso
        have := hF.out
        rw [fromS_othS (by rcases hqy with rfl | rfl <;> decide), toS_nil] at this
        omega
    · have HPX := Lib.hid hpx
      rcases HVY.out wr Y ys HR1.out.wy with ⟨rfl, hpy⟩ | ⟨ZY, ly, hZY, hscY, hZ4Y, rfl, hpy, hpassY⟩ | ⟨qy, ny, ly, hqy, hny0, hny4, rfl, hpy, hpassY⟩
      · exfalso
        have := hF.out
        rw [toS_append, toS_ins, show fromS [] = 0 from rfl] at this
        have := List.length_pos_iff.2 hZ
        omega
      · have HPY := Lib.hid hpy
        have HPASS := Lib.hid (hpassY ZY.length (Nat.le_refl _))
        have hszl := (runesBytes_le ZY).2
        have HZS := Lib.hid (show (runesBytes ZY).size ≤ 4611686018427387903 by omega)
        have HSZ := Lib.hid (fun (W : World) => show Calls Tryd.prog 52 #[partV 2 0 (runesBytes ZY)] W fun e w' => e = .returned (.int .i64 ZY.length) ∧ Below W.heap.size W w' by
          have h5 := size_ins 0 (runesBytes ZY) W (by omega)
          rwa [← runesOf_length, runes_bytes ZY hscY] at h5)
        clear hszl
        have HC' := Lib.hid (show (c' ++ insS ZY) ++ coS (insS Z ++ l) ly = CC by rw [← hC.out, co_ins (not1_ins (by decide) hZ _), List.append_assoc])
        have HF' := Lib.hid (show toS (insS Z ++ l) = fromS ly by rw [hF.out, fromS_insS])
        have HP' := Lib.hid (hP.out.ins ZY hZY)
        have HZ0 := Lib.hid (List.length_pos_iff.2 hZY)
        rw [show insS (ZY.drop ZY.length) ++ ly = ly by simp [insS]] at HPASS
        clear hpx hpy hpassY hZY hscY hC hF hP hpassX
        go_wp2_with fail
        refine (HPX.out _ HR1.out.ex (HR1.out.opx HSX.out)).mono ?_
        rintro e wa ⟨rfl, hb⟩
        have HR2 := Lib.hid (HR1.out.later hb)
        clear hb
        go_wp2_with fail
        obtain ⟨VS, hV⟩ : ∃ V, V = wa.alloc (.cells #[.int .i64 2, .int .i64 0, .string (runesBytes Z)] 79) := ⟨_, rfl⟩
        rw [← hV]
        have HR3 := Lib.hid (HR2.out.note hV)
        obtain ⟨S, hS⟩ : ∃ S, S = wa.heap.size := ⟨_, rfl⟩
        rw [← hS] at HR3
        rw [← hS]
        clear hV hS
        refine (HPY.out _ HR3.out.ey (HR3.out.opy HSY.out)).mono ?_
        rintro e wb ⟨rfl, hb⟩
        have HR4 := Lib.hid (HR3.out.later hb)
        clear hb
        obtain ⟨s0, s1, s2, _, _, _, sz⟩ := three_cell HR4.out.k0
        go_wp2_with fail
        obtain ⟨VT, hV⟩ : ∃ V, V = wb.alloc (.cells #[.int .i64 2, .int .i64 0, .string (runesBytes ZY)] 79) := ⟨_, rfl⟩
        rw [← hV]
        have HR5 := Lib.hid (HR4.out.note hV)
        obtain ⟨T, hS⟩ : ∃ S, S = wb.heap.size := ⟨_, rfl⟩
        rw [← hS] at HR5
        rw [← hS]
        clear hV hS
        clear s0 s1 s2 sz
        refine (insert_c _ _ P Ap cp (runesBytes ZY) rs HR5.out.bp HZS.out (by have := HLR.out; omega) HTR.out).mono ?_
        rintro e w6 ⟨rfl, hto⟩
        obtain ⟨A6, c6, hr⟩ := HR5.out.p hto
        have HR6 := Lib.hid hr
        clear hto hr
        obtain ⟨s0, s1, s2, _, _, _, sz⟩ := three_cell HR6.out.k0
        go_wp2_with fail
        refine (HSZ.out _).mono ?_
        rintro e w7 ⟨rfl, hb⟩
        have HR7 := Lib.hid (HR6.out.later hb)
        clear hb
        clear s0 s1 s2 sz
        go_wp2_with fail
        refine (HPASS.out _ HR7.out.ey (HR7.out.opy HSY.out)).mono ?_
        rintro e w8 ⟨rfl, hwk, ho⟩
        have HR8 := Lib.hid (HR7.out.goY hwk ho)
        clear hwk ho
        go_wp2_with fail
        go_roundw
        case rel => exact ⟨(insS Z ++ l), ly, c' ++ insS ZY, _, A6, c6, rfl, rfl, Lib.hid HR8.out.clean, HP', HC', HF'⟩
        case measure =>
          rw [HR8.out.wx.left, HR8.out.wy.left, HR1.out.wx.left, HR1.out.wy.left]
          have := HZ0.out; simp only [insS, List.length_append, List.length_map]; omega
      · have HPY := Lib.hid hpy
        have e3 : (qy == 2) = false := by rcases hqy with rfl | rfl <;> rfl
        obtain ⟨m, hm⟩ : ∃ m, m = min Z.length ny := ⟨_, rfl⟩
        have hmn : m ≤ Z.length := by omega
        have hmn' : m ≤ ny := by omega
        have hm0 : 0 < m := by have := List.length_pos_iff.2 hZ; omega
        have hmi : min ((Z.length : Nat) : Int) (ny : Int) = (m : Int) := by omega
        have HPA := Lib.hid (hpassX m hmn)
        have HPB := Lib.hid (hpassY m hmn')
        have hC2 := hC.out
        have HMS := Lib.hid (show m ≤ Z.length ∧ m ≤ ny ∧ 0 < m from ⟨hmn, hmn', hm0⟩)
        have HF' := Lib.hid (show toS (insS (Z.drop m) ++ l) = fromS (othS qy (ny - m) ++ ly) by
          have := hF.out
          rw [fromS_othS (by rcases hqy with rfl | rfl <;> decide)] at this ⊢
          rw [toS_append, toS_ins] at this ⊢
          rw [List.length_drop]; omega)
        rcases hqy with rfl | rfl
        · have htk : (Z.take m).length = m := by rw [List.length_take]; omega
          rw [insS_cut Z m, othS_cut 1 hmn', show othS 1 m = othS 1 (Z.take m).length by rw [htk], co_insK, ← List.append_assoc] at hC2
          have HC' := Lib.hid hC2
          have HP' := Lib.hid (hP.out.ins (Z.take m) (by intro e; rw [e] at htk; simp at htk; omega))
          have hszl := (runesBytes_le Z).2
          have HZS := Lib.hid (show (runesBytes Z).size ≤ 4611686018427387903 by omega)
          have HSZ := Lib.hid (fun (W : World) => show Calls Tryd.prog 52 #[partV 2 0 (runesBytes Z)] W fun e w' => e = .returned (.int .i64 Z.length) ∧ Below W.heap.size W w' by
            have h5 := size_ins 0 (runesBytes Z) W (by omega)
            rwa [← runesOf_length, runes_bytes Z hsc] at h5)
          clear hszl
          have HPS := Lib.hid (show (runesBytes (Z.take m)).size ≤ 4611686018427387903 by have := (runesBytes_le (Z.take m)).2; omega)
          have HRA := Lib.hid (fun (W : World) => show ∃ W' c, (convert 9 82 (.string (runesBytes Z))).run Tryd.prog W = .ok (.slice (some ⟨W.heap.size, 0, none⟩) Z.length c) W' ∧ Below W.heap.size W W' ∧ RunesAt W' W.heap.size Z ∧ Z.length ≤ c by
            have h := runes_at (runesBytes Z) (by have := (runesBytes_le Z).2; omega) W
            rwa [runes_bytes Z hsc] at h)
          have hmz : m ≤ Z.length := hmn
          clear hpx hpy hpassX hpassY hC2 hC hF hP hm hm0 hmn hmn' htk hZ hsc
          go_wp2_with fail
          refine (HPX.out _ HR1.out.ex (HR1.out.opx HSX.out)).mono ?_
          rintro e wa ⟨rfl, hb⟩
          have HR2 := Lib.hid (HR1.out.later hb)
          clear hb
          go_wp2_with fail
          obtain ⟨VS, hV⟩ : ∃ V, V = wa.alloc (.cells #[.int .i64 2, .int .i64 0, .string (runesBytes Z)] 79) := ⟨_, rfl⟩
          rw [← hV]
          have HR3 := Lib.hid (HR2.out.note hV)
          obtain ⟨S, hS⟩ : ∃ S, S = wa.heap.size := ⟨_, rfl⟩
          rw [← hS] at HR3
          rw [← hS]
          clear hV hS
          refine (HPY.out _ HR3.out.ey (HR3.out.opy HSY.out)).mono ?_
          rintro e wb ⟨rfl, hb⟩
          have HR4 := Lib.hid (HR3.out.later hb)
          clear hb
          obtain ⟨s0, s1, s2, _, _, _, sz⟩ := three_cell HR4.out.k0
          go_wp2_with fail
          obtain ⟨VT, hV⟩ : ∃ V, V = wb.alloc (.cells #[.int .i64 1, .int .i64 ny, .string ⟨#[]⟩] 79) := ⟨_, rfl⟩
          rw [← hV]
          have HR5 := Lib.hid (HR4.out.note hV)
          obtain ⟨T, hS⟩ : ∃ S, S = wb.heap.size := ⟨_, rfl⟩
          rw [← hS] at HR5
          rw [← hS]
          clear hV hS
          clear s0 s1 s2 sz
          obtain ⟨s0, s1, s2, _, _, _, sz⟩ := three_cell HR5.out.k1
          obtain ⟨t0, t1, t2, _, _, _, tz⟩ := three_cell HR5.out.k0
          go_region_held3 (fun w' => w'.cell? ⟨S, 0, none⟩ = some (.int .i64 2) ∧ w'.cell? ⟨S, 1, none⟩ = some (.int .i64 0) ∧ w'.cell? ⟨S, 2, none⟩ = some (.string (runesBytes Z)) ∧ w'.cell? ⟨T, 1, none⟩ = some (.int .i64 ny))
            (go_keep)
            ((first
              | (go_at_call 52; (with_reducible refine (HSZ.out _).mono ?_); rintro r w8 ⟨rfl, hb8⟩; obtain ⟨⟨d8, os8⟩, rfl⟩ := beyond_of hb8)))
          refine post_hide (fun W => Below VT.heap.size VT W) (by repeat (first | exact Below.refl _ _ | apply bGrow | apply bAlloc | apply Below.drew | apply bDrewN | apply bIter)) ?_
          intro w6 hb
          have HR6 := Lib.hid (HR5.out.later hb)
          clear hb
          clear s0 s1 s2 sz
          clear t0 t1 t2 tz
          obtain ⟨s0, s1, s2, _, _, _, sz⟩ := three_cell HR6.out.k1
          obtain ⟨t0, t1, t2, _, _, _, tz⟩ := three_cell HR6.out.k0
          obtain ⟨W8, c8, hcv, hb8, hra, hc8⟩ := HRA.out w6
          have HR7 := Lib.hid (HR6.out.later hb8)
          have hpc := convPiece (W := W8) hra 0 m c8 (by omega)
          rw [List.drop_zero] at hpc
          have hmc : m ≤ c8 := by omega
          clear hra hb8
          go_wp2_with fail
          clear hcv hpc hmc hc8
          refine (insert_c _ _ P Ap cp (runesBytes (Z.take m)) rs HR7.out.bp HPS.out (by have := HLR.out; omega) HTR.out).mono ?_
          rintro e w8 ⟨rfl, hto⟩
          obtain ⟨A8, c8, hr⟩ := HR7.out.p hto
          have HR8 := Lib.hid hr
          clear hto hr
          clear s0 s1 s2 sz
          clear t0 t1 t2 tz
          go_wp2_with fail
          refine (HPA.out _ HR8.out.ex (HR8.out.opx HSX.out)).mono ?_
          rintro e w9 ⟨rfl, hwk, ho⟩
          have HR9 := Lib.hid (HR8.out.goX hwk ho)
          clear hwk ho
          go_wp2_with fail
          refine (HPB.out _ HR9.out.ey (HR9.out.opy HSY.out)).mono ?_
          rintro e w10 ⟨rfl, hwk, ho⟩
          have HR10 := Lib.hid (HR9.out.goY hwk ho)
          clear hwk ho
          go_wp2_with fail
          go_roundw
          case rel => exact ⟨_, _, c' ++ insS (Z.take m), _, A8, c8, rfl, rfl, Lib.hid HR10.out.clean, HP', HC', HF'⟩
          case measure =>
            rw [HR10.out.wx.left, HR10.out.wy.left, HR1.out.wx.left, HR1.out.wy.left]
            have := HMS.out; simp only [insS, List.length_append, List.length_replicate, List.length_map, List.length_drop]; omega
        · have htk : (Z.take m).length = m := by rw [List.length_take]; omega
          rw [insS_cut Z m, othS_cut 3 hmn', show othS 3 m = othS 3 (Z.take m).length by rw [htk], co_insD 3 (by decide) (by decide)] at hC2
          have HC' := Lib.hid hC2
          have HP' := Lib.hid (hP.out)
          have hszl := (runesBytes_le Z).2
          have HZS := Lib.hid (show (runesBytes Z).size ≤ 4611686018427387903 by omega)
          have HSZ := Lib.hid (fun (W : World) => show Calls Tryd.prog 52 #[partV 2 0 (runesBytes Z)] W fun e w' => e = .returned (.int .i64 Z.length) ∧ Below W.heap.size W w' by
            have h5 := size_ins 0 (runesBytes Z) W (by omega)
            rwa [← runesOf_length, runes_bytes Z hsc] at h5)
          clear hszl
          clear hpx hpy hpassX hpassY hC2 hC hF hP hm hm0 hmn hmn' htk hZ hsc
          go_wp2_with fail
          refine (HPX.out _ HR1.out.ex (HR1.out.opx HSX.out)).mono ?_
          rintro e wa ⟨rfl, hb⟩
          have HR2 := Lib.hid (HR1.out.later hb)
          clear hb
          go_wp2_with fail
          obtain ⟨VS, hV⟩ : ∃ V, V = wa.alloc (.cells #[.int .i64 2, .int .i64 0, .string (runesBytes Z)] 79) := ⟨_, rfl⟩
          rw [← hV]
          have HR3 := Lib.hid (HR2.out.note hV)
          obtain ⟨S, hS⟩ : ∃ S, S = wa.heap.size := ⟨_, rfl⟩
          rw [← hS] at HR3
          rw [← hS]
          clear hV hS
          refine (HPY.out _ HR3.out.ey (HR3.out.opy HSY.out)).mono ?_
          rintro e wb ⟨rfl, hb⟩
          have HR4 := Lib.hid (HR3.out.later hb)
          clear hb
          obtain ⟨s0, s1, s2, _, _, _, sz⟩ := three_cell HR4.out.k0
          go_wp2_with fail
          obtain ⟨VT, hV⟩ : ∃ V, V = wb.alloc (.cells #[.int .i64 3, .int .i64 ny, .string ⟨#[]⟩] 79) := ⟨_, rfl⟩
          rw [← hV]
          have HR5 := Lib.hid (HR4.out.note hV)
          obtain ⟨T, hS⟩ : ∃ S, S = wb.heap.size := ⟨_, rfl⟩
          rw [← hS] at HR5
          rw [← hS]
          clear hV hS
          clear s0 s1 s2 sz
          obtain ⟨s0, s1, s2, _, _, _, sz⟩ := three_cell HR5.out.k1
          obtain ⟨t0, t1, t2, _, _, _, tz⟩ := three_cell HR5.out.k0
          go_region_held3 (fun w' => w'.cell? ⟨S, 0, none⟩ = some (.int .i64 2) ∧ w'.cell? ⟨S, 1, none⟩ = some (.int .i64 0) ∧ w'.cell? ⟨S, 2, none⟩ = some (.string (runesBytes Z)) ∧ w'.cell? ⟨T, 1, none⟩ = some (.int .i64 ny))
            (go_keep)
            ((first
              | (go_at_call 52; (with_reducible refine (HSZ.out _).mono ?_); rintro r w8 ⟨rfl, hb8⟩; obtain ⟨⟨d8, os8⟩, rfl⟩ := beyond_of hb8)))
          refine post_hide (fun W => Below VT.heap.size VT W) (by repeat (first | exact Below.refl _ _ | apply bGrow | apply bAlloc | apply Below.drew | apply bDrewN | apply bIter)) ?_
          intro w6 hb
          have HR6 := Lib.hid (HR5.out.later hb)
          clear hb
          clear s0 s1 s2 sz
          clear t0 t1 t2 tz
          obtain ⟨s0, s1, s2, _, _, _, sz⟩ := three_cell HR6.out.k1
          obtain ⟨t0, t1, t2, _, _, _, tz⟩ := three_cell HR6.out.k0
          go_wp2_with fail
          clear s0 s1 s2 sz
          clear t0 t1 t2 tz
          refine (HPA.out _ HR6.out.ex (HR6.out.opx HSX.out)).mono ?_
          rintro e w7 ⟨rfl, hwk, ho⟩
          have HR7 := Lib.hid (HR6.out.goX hwk ho)
          clear hwk ho
          go_wp2_with fail
          refine (HPB.out _ HR7.out.ey (HR7.out.opy HSY.out)).mono ?_
          rintro e w8 ⟨rfl, hwk, ho⟩
          have HR8 := Lib.hid (HR7.out.goY hwk ho)
          clear hwk ho
          go_wp2_with fail
          go_roundw
          case rel => exact ⟨_, _, c', _, Ap, cp, rfl, rfl, Lib.hid HR8.out.clean, HP', HC', HF'⟩
          case measure =>
            rw [HR8.out.wx.left, HR8.out.wy.left, HR1.out.wx.left, HR1.out.wy.left]
            have := HMS.out; simp only [insS, List.length_append, List.length_replicate, List.length_map, List.length_drop]; omega
    · have HPX := Lib.hid hpx
      rcases hq with rfl | rfl
      · rcases HVY.out wr Y ys HR1.out.wy with ⟨rfl, hpy⟩ | ⟨ZY, ly, hZY, hscY, hZ4Y, rfl, hpy, hpassY⟩ | ⟨qy, ny, ly, hqy, hny0, hny4, rfl, hpy, hpassY⟩
        · exfalso
          have := hF.out
          rw [toS_append, toS_oth, if_neg (by decide), show fromS [] = 0 from rfl] at this
          omega
        · have HPY := Lib.hid hpy
          have HPASS := Lib.hid (hpassY ZY.length (Nat.le_refl _))
          have hszl := (runesBytes_le ZY).2
          have HZS := Lib.hid (show (runesBytes ZY).size ≤ 4611686018427387903 by omega)
          have HSZ := Lib.hid (fun (W : World) => show Calls Tryd.prog 52 #[partV 2 0 (runesBytes ZY)] W fun e w' => e = .returned (.int .i64 ZY.length) ∧ Below W.heap.size W w' by
            have h5 := size_ins 0 (runesBytes ZY) W (by omega)
            rwa [← runesOf_length, runes_bytes ZY hscY] at h5)
          clear hszl
          have HC' := Lib.hid (show (c' ++ insS ZY) ++ coS (othS 1 n ++ l) ly = CC by rw [← hC.out, co_ins (not1_oth (by decide) hn0 _), List.append_assoc])
          have HF' := Lib.hid (show toS (othS 1 n ++ l) = fromS ly by rw [hF.out, fromS_insS])
          have HP' := Lib.hid (hP.out.ins ZY hZY)
          have HZ0 := Lib.hid (List.length_pos_iff.2 hZY)
          rw [show insS (ZY.drop ZY.length) ++ ly = ly by simp [insS]] at HPASS
          clear hpx hpy hpassY hZY hscY hC hF hP hpassX
          go_wp2_with fail
          refine (HPX.out _ HR1.out.ex (HR1.out.opx HSX.out)).mono ?_
          rintro e wa ⟨rfl, hb⟩
          have HR2 := Lib.hid (HR1.out.later hb)
          clear hb
          go_wp2_with fail
          obtain ⟨VS, hV⟩ : ∃ V, V = wa.alloc (.cells #[.int .i64 1, .int .i64 n, .string ⟨#[]⟩] 79) := ⟨_, rfl⟩
          rw [← hV]
          have HR3 := Lib.hid (HR2.out.note hV)
          obtain ⟨S, hS⟩ : ∃ S, S = wa.heap.size := ⟨_, rfl⟩
          rw [← hS] at HR3
          rw [← hS]
          clear hV hS
          refine (HPY.out _ HR3.out.ey (HR3.out.opy HSY.out)).mono ?_
          rintro e wb ⟨rfl, hb⟩
          have HR4 := Lib.hid (HR3.out.later hb)
          clear hb
          obtain ⟨s0, s1, s2, _, _, _, sz⟩ := three_cell HR4.out.k0
          go_wp2_with fail
          obtain ⟨VT, hV⟩ : ∃ V, V = wb.alloc (.cells #[.int .i64 2, .int .i64 0, .string (runesBytes ZY)] 79) := ⟨_, rfl⟩
          rw [← hV]
          have HR5 := Lib.hid (HR4.out.note hV)
          obtain ⟨T, hS⟩ : ∃ S, S = wb.heap.size := ⟨_, rfl⟩
          rw [← hS] at HR5
          rw [← hS]
          clear hV hS
          clear s0 s1 s2 sz
          refine (insert_c _ _ P Ap cp (runesBytes ZY) rs HR5.out.bp HZS.out (by have := HLR.out; omega) HTR.out).mono ?_
          rintro e w6 ⟨rfl, hto⟩
          obtain ⟨A6, c6, hr⟩ := HR5.out.p hto
          have HR6 := Lib.hid hr
          clear hto hr
          obtain ⟨s0, s1, s2, _, _, _, sz⟩ := three_cell HR6.out.k0
          go_wp2_with fail
          refine (HSZ.out _).mono ?_
          rintro e w7 ⟨rfl, hb⟩
          have HR7 := Lib.hid (HR6.out.later hb)
          clear hb
          clear s0 s1 s2 sz
          go_wp2_with fail
          refine (HPASS.out _ HR7.out.ey (HR7.out.opy HSY.out)).mono ?_
          rintro e w8 ⟨rfl, hwk, ho⟩
          have HR8 := Lib.hid (HR7.out.goY hwk ho)
          clear hwk ho
          go_wp2_with fail
          go_roundw
          case rel => exact ⟨(othS 1 n ++ l), ly, c' ++ insS ZY, _, A6, c6, rfl, rfl, Lib.hid HR8.out.clean, HP', HC', HF'⟩
          case measure =>
            rw [HR8.out.wx.left, HR8.out.wy.left, HR1.out.wx.left, HR1.out.wy.left]
            have := HZ0.out; simp only [insS, List.length_append, List.length_map]; omega
        · have HPY := Lib.hid hpy
          have e3 : (qy == 2) = false := by rcases hqy with rfl | rfl <;> rfl
          obtain ⟨m, hm⟩ : ∃ m, m = min n ny := ⟨_, rfl⟩
          have hmn : m ≤ n := by omega
          have hmn' : m ≤ ny := by omega
          have hm0 : 0 < m := by omega
          have hmi : min (n : Int) (ny : Int) = (m : Int) := by omega
          have HPA := Lib.hid (hpassX m hmn)
          have HPB := Lib.hid (hpassY m hmn')
          have hC2 := hC.out
          have HMS := Lib.hid (show m ≤ n ∧ m ≤ ny ∧ 0 < m from ⟨hmn, hmn', hm0⟩)
          have HF' := Lib.hid (show toS (othS 1 (n - m) ++ l) = fromS (othS qy (ny - m) ++ ly) by
            have := hF.out
            rw [fromS_othS (by rcases hqy with rfl | rfl <;> decide)] at this ⊢
            rw [toS_append, toS_oth, if_neg (by decide)] at this ⊢
            omega)
          rcases hqy with rfl | rfl
          · rw [othS_cut 1 hmn, othS_cut 1 hmn', co_keepL 1 (by decide), ← List.append_assoc] at hC2
            have HC' := Lib.hid hC2
            have HP' := Lib.hid (hP.out.keep m hm0 (by have := HBC.out; omega))
            clear hpx hpy hpassX hpassY hC2 hC hF hP hm hm0 hmn hmn'
            go_wp2_with fail
            refine (HPX.out _ HR1.out.ex (HR1.out.opx HSX.out)).mono ?_
            rintro e wa ⟨rfl, hb⟩
            have HR2 := Lib.hid (HR1.out.later hb)
            clear hb
            go_wp2_with fail
            obtain ⟨VS, hV⟩ : ∃ V, V = wa.alloc (.cells #[.int .i64 1, .int .i64 n, .string ⟨#[]⟩] 79) := ⟨_, rfl⟩
            rw [← hV]
            have HR3 := Lib.hid (HR2.out.note hV)
            obtain ⟨S, hS⟩ : ∃ S, S = wa.heap.size := ⟨_, rfl⟩
            rw [← hS] at HR3
            rw [← hS]
            clear hV hS
            refine (HPY.out _ HR3.out.ey (HR3.out.opy HSY.out)).mono ?_
            rintro e wb ⟨rfl, hb⟩
            have HR4 := Lib.hid (HR3.out.later hb)
            clear hb
            obtain ⟨s0, s1, s2, _, _, _, sz⟩ := three_cell HR4.out.k0
            go_wp2_with fail
            obtain ⟨VT, hV⟩ : ∃ V, V = wb.alloc (.cells #[.int .i64 1, .int .i64 ny, .string ⟨#[]⟩] 79) := ⟨_, rfl⟩
            rw [← hV]
            have HR5 := Lib.hid (HR4.out.note hV)
            obtain ⟨T, hS⟩ : ∃ S, S = wb.heap.size := ⟨_, rfl⟩
            rw [← hS] at HR5
            rw [← hS]
            clear hV hS
            clear s0 s1 s2 sz
            obtain ⟨s0, s1, s2, _, _, _, sz⟩ := three_cell HR5.out.k1
            obtain ⟨t0, t1, t2, _, _, _, tz⟩ := three_cell HR5.out.k0
            go_region_held3 (fun w' => w'.cell? ⟨S, 0, none⟩ = some (.int .i64 1) ∧ w'.cell? ⟨S, 1, none⟩ = some (.int .i64 n) ∧ w'.cell? ⟨S, 2, none⟩ = some (.string ⟨#[]⟩) ∧ w'.cell? ⟨T, 1, none⟩ = some (.int .i64 ny))
              (go_keep)
              ((first
                | (go_at_call 52; (with_reducible refine (size_oth 1 n ⟨#[]⟩ _ (by decide)).mono ?_); rintro r w8 ⟨rfl, hb8⟩; obtain ⟨⟨d8, os8⟩, rfl⟩ := beyond_of hb8)))
            refine post_hide (fun W => Below VT.heap.size VT W) (by repeat (first | exact Below.refl _ _ | apply bGrow | apply bAlloc | apply Below.drew | apply bDrewN | apply bIter)) ?_
            intro w6 hb
            have HR6 := Lib.hid (HR5.out.later hb)
            clear hb
            clear s0 s1 s2 sz
            clear t0 t1 t2 tz
            obtain ⟨s0, s1, s2, _, _, _, sz⟩ := three_cell HR6.out.k1
            obtain ⟨t0, t1, t2, _, _, _, tz⟩ := three_cell HR6.out.k0
            go_wp2_with fail
            refine (keep_c _ _ P Ap cp m rs HR6.out.bp (by have := HLR.out; omega)).mono ?_
            rintro e w7 ⟨rfl, hto⟩
            obtain ⟨A7, c7, hr⟩ := HR6.out.p hto
            have HR7 := Lib.hid hr
            clear hto hr
            clear s0 s1 s2 sz
            clear t0 t1 t2 tz
            go_wp2_with fail
            refine (HPA.out _ HR7.out.ex (HR7.out.opx HSX.out)).mono ?_
            rintro e w8 ⟨rfl, hwk, ho⟩
            have HR8 := Lib.hid (HR7.out.goX hwk ho)
            clear hwk ho
            go_wp2_with fail
            refine (HPB.out _ HR8.out.ey (HR8.out.opy HSY.out)).mono ?_
            rintro e w9 ⟨rfl, hwk, ho⟩
            have HR9 := Lib.hid (HR8.out.goY hwk ho)
            clear hwk ho
            go_wp2_with fail
            go_roundw
            case rel => exact ⟨_, _, c' ++ othS 1 m, _, A7, c7, rfl, rfl, Lib.hid HR9.out.clean, HP', HC', HF'⟩
            case measure =>
              rw [HR9.out.wx.left, HR9.out.wy.left, HR1.out.wx.left, HR1.out.wy.left]
              have := HMS.out; simp only [List.length_append, List.length_replicate]; omega
          · rw [othS_cut 1 hmn, othS_cut 3 hmn', co_keepL 3 (by decide), ← List.append_assoc] at hC2
            have HC' := Lib.hid hC2
            have HP' := Lib.hid (hP.out.del m hm0 (by have := HBC.out; omega))
            clear hpx hpy hpassX hpassY hC2 hC hF hP hm hm0 hmn hmn'
            go_wp2_with fail
            refine (HPX.out _ HR1.out.ex (HR1.out.opx HSX.out)).mono ?_
            rintro e wa ⟨rfl, hb⟩
            have HR2 := Lib.hid (HR1.out.later hb)
            clear hb
            go_wp2_with fail
            obtain ⟨VS, hV⟩ : ∃ V, V = wa.alloc (.cells #[.int .i64 1, .int .i64 n, .string ⟨#[]⟩] 79) := ⟨_, rfl⟩
            rw [← hV]
            have HR3 := Lib.hid (HR2.out.note hV)
            obtain ⟨S, hS⟩ : ∃ S, S = wa.heap.size := ⟨_, rfl⟩
            rw [← hS] at HR3
            rw [← hS]
            clear hV hS
            refine (HPY.out _ HR3.out.ey (HR3.out.opy HSY.out)).mono ?_
            rintro e wb ⟨rfl, hb⟩
            have HR4 := Lib.hid (HR3.out.later hb)
            clear hb
            obtain ⟨s0, s1, s2, _, _, _, sz⟩ := three_cell HR4.out.k0
            go_wp2_with fail
            obtain ⟨VT, hV⟩ : ∃ V, V = wb.alloc (.cells #[.int .i64 3, .int .i64 ny, .string ⟨#[]⟩] 79) := ⟨_, rfl⟩
            rw [← hV]
            have HR5 := Lib.hid (HR4.out.note hV)
            obtain ⟨T, hS⟩ : ∃ S, S = wb.heap.size := ⟨_, rfl⟩
            rw [← hS] at HR5
            rw [← hS]
            clear hV hS
            clear s0 s1 s2 sz
            obtain ⟨s0, s1, s2, _, _, _, sz⟩ := three_cell HR5.out.k1
            obtain ⟨t0, t1, t2, _, _, _, tz⟩ := three_cell HR5.out.k0
            go_region_held3 (fun w' => w'.cell? ⟨S, 0, none⟩ = some (.int .i64 1) ∧ w'.cell? ⟨S, 1, none⟩ = some (.int .i64 n) ∧ w'.cell? ⟨S, 2, none⟩ = some (.string ⟨#[]⟩) ∧ w'.cell? ⟨T, 1, none⟩ = some (.int .i64 ny))
              (go_keep)
              ((first
                | (go_at_call 52; (with_reducible refine (size_oth 1 n ⟨#[]⟩ _ (by decide)).mono ?_); rintro r w8 ⟨rfl, hb8⟩; obtain ⟨⟨d8, os8⟩, rfl⟩ := beyond_of hb8)))
            refine post_hide (fun W => Below VT.heap.size VT W) (by repeat (first | exact Below.refl _ _ | apply bGrow | apply bAlloc | apply Below.drew | apply bDrewN | apply bIter)) ?_
            intro w6 hb
            have HR6 := Lib.hid (HR5.out.later hb)
            clear hb
            clear s0 s1 s2 sz
            clear t0 t1 t2 tz
            obtain ⟨s0, s1, s2, _, _, _, sz⟩ := three_cell HR6.out.k1
            obtain ⟨t0, t1, t2, _, _, _, tz⟩ := three_cell HR6.out.k0
            go_wp2_with fail
            refine (remove_c _ _ P Ap cp m rs HR6.out.bp (by have := HLR.out; omega)).mono ?_
            rintro e w7 ⟨rfl, hto⟩
            obtain ⟨A7, c7, hr⟩ := HR6.out.p hto
            have HR7 := Lib.hid hr
            clear hto hr
            clear s0 s1 s2 sz
            clear t0 t1 t2 tz
            go_wp2_with fail
            refine (HPA.out _ HR7.out.ex (HR7.out.opx HSX.out)).mono ?_
            rintro e w8 ⟨rfl, hwk, ho⟩
            have HR8 := Lib.hid (HR7.out.goX hwk ho)
            clear hwk ho
            go_wp2_with fail
            refine (HPB.out _ HR8.out.ey (HR8.out.opy HSY.out)).mono ?_
            rintro e w9 ⟨rfl, hwk, ho⟩
            have HR9 := Lib.hid (HR8.out.goY hwk ho)
            clear hwk ho
            go_wp2_with fail
            go_roundw
            case rel => exact ⟨_, _, c' ++ othS 3 m, _, A7, c7, rfl, rfl, Lib.hid HR9.out.clean, HP', HC', HF'⟩
            case measure =>
              rw [HR9.out.wx.left, HR9.out.wy.left, HR1.out.wx.left, HR1.out.wy.left]
              have := HMS.out; simp only [List.length_append, List.length_replicate]; omega
      · obtain ⟨tk, tn, tt, tb, hpy⟩ : ∃ tk tn tt tb, Parts wr Y B y tk tn tt tb := by
          rcases HVY.out wr Y ys HR1.out.wy with ⟨_, h⟩ | ⟨_, _, _, _, _, _, h, _⟩ | ⟨_, _, _, _, _, _, _, h, _⟩ <;> exact ⟨_, _, _, _, h⟩
        have HPY := Lib.hid hpy
        have HPASS := Lib.hid (hpassX n (Nat.le_refl _))
        have HC' := Lib.hid (show (c' ++ othS 3 n) ++ coS l ys = CC by rw [← hC.out, co_del, List.append_assoc])
        have HF' := Lib.hid (show toS l = fromS ys by rw [← hF.out, toS_append, toS_oth, if_pos rfl]; omega)
        have HP' := Lib.hid (hP.out.del n hn0 (by have := HBC.out; omega))
        have HN0 := Lib.hid hn0
        rw [show othS 3 (n - n) ++ l = l by simp [othS]] at HPASS
        clear hpx hpy hpassX hC hF hP
        go_wp2_with fail
        refine (HPX.out _ HR1.out.ex (HR1.out.opx HSX.out)).mono ?_
        rintro e wa ⟨rfl, hb⟩
        have HR2 := Lib.hid (HR1.out.later hb)
        clear hb
        go_wp2_with fail
        obtain ⟨VS, hV⟩ : ∃ V, V = wa.alloc (.cells #[.int .i64 3, .int .i64 n, .string ⟨#[]⟩] 79) := ⟨_, rfl⟩
        rw [← hV]
        have HR3 := Lib.hid (HR2.out.note hV)
        obtain ⟨S, hS⟩ : ∃ S, S = wa.heap.size := ⟨_, rfl⟩
        rw [← hS] at HR3
        rw [← hS]
        clear hV hS
        refine (HPY.out _ HR3.out.ey (HR3.out.opy HSY.out)).mono ?_
        rintro e wb ⟨rfl, hb⟩
        have HR4 := Lib.hid (HR3.out.later hb)
        clear hb
        obtain ⟨s0, s1, s2, _, _, _, sz⟩ := three_cell HR4.out.k0
        go_wp2_with fail
        obtain ⟨VT, hV⟩ : ∃ V, V = wb.alloc (.cells #[.int .i64 tk, .int .i64 tn, .string tt] 79) := ⟨_, rfl⟩
        rw [← hV]
        have HR5 := Lib.hid (HR4.out.note hV)
        obtain ⟨T, hS⟩ : ∃ S, S = wb.heap.size := ⟨_, rfl⟩
        rw [← hS] at HR5
        rw [← hS]
        clear hV hS
        clear s0 s1 s2 sz
        refine (remove_c _ _ P Ap cp n rs HR5.out.bp (by have := HLR.out; omega)).mono ?_
        rintro e w6 ⟨rfl, hto⟩
        obtain ⟨A6, c6, hr⟩ := HR5.out.p hto
        have HR6 := Lib.hid hr
        clear hto hr
        obtain ⟨s0, s1, s2, _, _, _, sz⟩ := three_cell HR6.out.k1
        go_wp2_with fail
        clear s0 s1 s2 sz
        refine (HPASS.out _ HR6.out.ex (HR6.out.opx HSX.out)).mono ?_
        rintro e w7 ⟨rfl, hwk, ho⟩
        have HR7 := Lib.hid (HR6.out.goX hwk ho)
        clear hwk ho
        go_wp2_with fail
        go_roundw
        case rel => exact ⟨l, ys, c' ++ othS 3 n, _, A6, c6, rfl, rfl, Lib.hid HR7.out.clean, HP', HC', HF'⟩
        case measure =>
          rw [HR7.out.wx.left, HR7.out.wy.left, HR1.out.wx.left, HR1.out.wy.left]
          have := HN0.out; simp only [List.length_append, List.length_replicate]; omega
theorem Compose_c (w : World) (A B : Option Addr) (c d : Nat) (x y : List PartD) (hT : Tabs w) (hx : OpIn (· < w.heap.size) w A x) (hy : OpIn (· < w.heap.size) w B y) (hxl : x.length ≤ 1048576) (hyl : y.length ≤ 1048576) (hxt : ∀ p ∈ x, p.text.size ≤ 1048576) (hyt : ∀ p ∈ y, p.text.size ≤ 1048576) : Calls Tryd.prog 16 #[.slice A x.length c, .slice B y.length d] w (RetOneE w (coL x y) (coE x y)) := by
  by_cases he : coPre x y = 0
  · exact Compose_go w A B c d x y hT hx hy hxl hyl hxt hyt he
  · have h1 : coE x y = coPre x y := if_pos he
    have h2 : coL x y = [] := if_neg (by rw [h1]; exact he)
    rw [h1, h2]
    unfold coPre at he ⊢
    by_cases q1 : opFault x ≠ 0
    · rw [if_pos q1]
      exact Compose_x w A B c d x y hT hx hy hxl hyl hxt hyt q1
    rw [if_neg q1] at he ⊢
    by_cases q2 : opFault y ≠ 0
    · rw [if_pos q2]
      exact Compose_y w A B c d x y hT hx hy hxl hyl hxt hyt (Classical.not_not.1 q1) q2
    rw [if_neg q2] at he ⊢
    by_cases q3 : (lens x).2 ≠ (lens y).1
    · rw [if_pos q3]
      exact Compose_l w A B c d x y hT hx hy hxl hyl hxt hyt (Classical.not_not.1 q1) (Classical.not_not.1 q2) q3
    · rw [if_neg q3] at he
      exact absurd rfl he
end Go.Proofs.YtgcapkkgminidaaDoor
