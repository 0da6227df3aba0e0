/-
  Contract of text.Transform.
-/
import Derived.Test.YtbmdepbmejnlkaaDoorRows
import Derived.Test.YtbmdepbmejnlkaaDoorTr
import Derived.Test.YtbmdepbmejnlkaaDoorHide
import Derived.Deep.RegionHeld3
namespace Go.Proofs.YtbmdepbmejnlkaaDoor
open Go.ChangeShapes Go.WideShapes Go.ChangeAt Go.RowKit
set_option maxRecDepth 100000
theorem Transform_no (w : World) (A B : Option Addr) (c d : Nat) (x y : List PartD) (hT : Tabs w) (hx : OpIn (· < w.heap.size) w A x) (hy : OpIn (· < w.heap.size) w B y) (hxl : x.length ≤ 1048576) (hyl : y.length ≤ 1048576) (hxt : ∀ p ∈ x, p.text.size ≤ 1048576) (hyt : ∀ p ∈ y, p.text.size ≤ 1048576) (he : bothErr x y ≠ 0) :
    Calls Tryd.prog 49 #[.slice A x.length c, .slice B y.length d] w (RetTwo w [] [] (bothErr x y)) := by
  have HC := Lib.hid (both_c w A B c d x y hT hx hy hxl hyl hxt hyt)
  have hd : (bothErr x y != 0) = true := by simpa using he
  generalize bothErr x y = z at *
  clear he hT hx hy hxl hyl hxt hyt
  go_enter Tryd.func49, Tryd.ntmps49
  go_wp2_with fail
  refine HC.out.mono ?_
  rintro e w1 ⟨rfl, hb1⟩
  go_wp2_with fail
  go_ret3
  exact ⟨none, 0, none, 0, rfl, Sl.nil, Sl.nil, hb1⟩
/-- The steps that Transform gives. -/
def trC (x y : List PartD) : List (Int × Int) := (trS (stepsOf x) (stepsOf y)).1
def trD (x y : List PartD) : List (Int × Int) := (trS (stepsOf x) (stepsOf y)).2
/-- What Transform answers. -/
def trE (x y : List PartD) : Int := if bothErr x y ≠ 0 then bothErr x y else fitsErr (grouped (trC x y)) (grouped (trD x y))
def trL (x y : List PartD) : List PartD := if trE x y = 0 then grouped (trC x y) else []
def trR (x y : List PartD) : List PartD := if trE x y = 0 then grouped (trD x y) else []
theorem bothErr_zero {x y : List PartD} (h : bothErr x y = 0) : opFault x = 0 ∧ opFault y = 0 ∧ (lens x).1 = (lens y).1 := by
  unfold bothErr at h
  by_cases h1 : opFault x ≠ 0
  · rw [if_pos h1] at h
    exact absurd h h1
  rw [if_neg h1] at h
  by_cases h2 : opFault y ≠ 0
  · rw [if_pos h2] at h
    exact absurd h h2
  rw [if_neg h2] at h
  by_cases h3 : (lens x).1 ≠ (lens y).1
  · rw [if_pos h3] at h
    cases h
  · exact ⟨Classical.not_not.1 h1, Classical.not_not.1 h2, Classical.not_not.1 h3⟩
theorem fromS_insS (Z : List Int) (l : List (Int × Int)) : fromS (insS Z ++ l) = fromS l := by
  rw [fromS_append, show fromS (insS Z) = 0 from fromS_ins Z]
  omega
theorem fromS_othS {q : Int} (h : q ≠ 2) (n : Nat) (l : List (Int × Int)) : fromS (othS q n ++ l) = n + fromS l := by
  rw [fromS_append, show fromS (othS q n) = n from fromS_oth q h n]
theorem not1_oth {q k : Int} (h : q ≠ k) {n : Nat} (hn : 0 < n) (l : List (Int × Int)) : Not1 k (othS q n ++ l) := by
  intro x r hx
  obtain ⟨m, rfl⟩ : ∃ m, n = m + 1 := ⟨n - 1, by omega⟩
  rw [show othS q (m + 1) = (q, 0) :: othS q m from rfl, List.cons_append] at hx
  injection hx with a b
  rw [← a]
  exact h
theorem not1_nil (k : Int) : Not1 k [] := by
  intro x r hx
  cases hx
theorem othS_cut (q : Int) {m n : Nat} (h : m ≤ n) (l : List (Int × Int)) : othS q n ++ l = othS q m ++ (othS q (n - m) ++ l) := by
  rw [← List.append_assoc, show othS q m ++ othS q (n - m) = othS q n by simp only [othS]; rw [List.replicate_append_replicate]; congr 1; omega]
theorem Tr.note' {w0 w V : World} {X Y P Q : Nat} {A B : Option Addr} {c d : Nat} {x y : List PartD} {xs ys : List (Int × Int)} {Ap Aq : Option Addr} {cp cq : Nat} {rs qs : List PartD} {K : List (Nat × Obj)} {ox oy : Option Obj} {o : Obj} (h : Tr w0 w X Y P Q A c x B d y xs ys Ap cp rs Aq cq qs K ox oy) (hV : V = w.alloc o) : Tr w0 V X Y P Q A c x B d y xs ys Ap cp rs Aq cq qs ((w.heap.size, o) :: K) ox oy := by
  rw [hV]
  exact h.note o
theorem Tr.opxi {w0 w : World} {X Y P Q : Nat} {A B : Option Addr} {c d : Nat} {x y : List PartD} {xs ys : List (Int × Int)} {Ap Aq : Option Addr} {cp cq : Nat} {rs qs : List PartD} {K : List (Nat × Obj)} {ox oy : Option Obj} (h : Tr w0 w X Y P Q A c x B d y xs ys Ap cp rs Aq cq qs K ox oy) (hs : OpIn (· < w0.heap.size) w0 A x) : OpIn (· < w.heap.size) w A x := Sl.later hs h.b
theorem Tr.opyi {w0 w : World} {X Y P Q : Nat} {A B : Option Addr} {c d : Nat} {x y : List PartD} {xs ys : List (Int × Int)} {Ap Aq : Option Addr} {cp cq : Nat} {rs qs : List PartD} {K : List (Nat × Obj)} {ox oy : Option Obj} (h : Tr w0 w X Y P Q A c x B d y xs ys Ap cp rs Aq cq qs K ox oy) (hs : OpIn (· < w0.heap.size) w0 B y) : OpIn (· < w.heap.size) w B y := Sl.later hs h.b
theorem Tr.clean {w0 w : World} {X Y P Q : Nat} {A B : Option Addr} {c d : Nat} {x y : List PartD} {xs ys : List (Int × Int)} {Ap Aq : Option Addr} {cp cq : Nat} {rs qs : List PartD} {K : List (Nat × Obj)} {ox oy : Option Obj} (h : Tr w0 w X Y P Q A c x B d y xs ys Ap cp rs Aq cq qs K ox oy) : Tr w0 w X Y P Q A c x B d y xs ys Ap cp rs Aq cq qs [] w.heap[X]? w.heap[Y]? := by
  have h1 := h.drop
  exact ⟨rfl, rfl, h1.wx, h1.wy, h1.bp, h1.bq, h1.ne, h1.ap, h1.aq, h1.apq, h1.b, h1.k⟩
set_option maxHeartbeats 8000000 in
theorem Transform_go (w : World) (A B : Option Addr) (c d : Nat) (x y : List PartD) (hT : Tabs w) (hx : OpIn (· < w.heap.size) w A x) (hy : OpIn (· < w.heap.size) w B y) (hxl : x.length ≤ 1048576) (hyl : y.length ≤ 1048576) (hxt : ∀ p ∈ x, p.text.size ≤ 1048576) (hyt : ∀ p ∈ y, p.text.size ≤ 1048576) (he : bothErr x y = 0) :
    Calls Tryd.prog 49 #[.slice A x.length c, .slice B y.length d] w (RetTwo w (trL x y) (trR x y) (trE x y)) := by
  have HC := Lib.hid (both_c w A B c d x y hT hx hy hxl hyl hxt hyt)
  rw [he] at HC
  obtain ⟨hfx, hfy, hln⟩ := bothErr_zero he
  obtain ⟨_, hokx, _, _⟩ := opFault_zero hfx
  obtain ⟨_, hoky, _, _⟩ := opFault_zero hfy
  obtain ⟨ex1, _, nx1, nx2⟩ := op_from hfx
  obtain ⟨ey1, _, ny1, ny2⟩ := op_from hfy
  have hslx := stepsOf_length hokx
  have hsly := stepsOf_length hoky
  have htl := tr_length (stepsOf x) (stepsOf y)
  have HCL := Lib.hid (show (trC x y).length ≤ 16000 by unfold trC; omega)
  have HDL := Lib.hid (show (trD x y).length ≤ 16000 by unfold trD; omega)
  have HF0 := Lib.hid (show fromS (remS x 0 0) = fromS (remS y 0 0) by rw [remS_start, remS_start, fromS_steps, fromS_steps]; omega)
  have HC0 := Lib.hid (show [] ++ (trS (remS x 0 0) (remS y 0 0)).1 = trC x y by rw [remS_start, remS_start]; rfl)
  have HD0 := Lib.hid (show [] ++ (trS (remS x 0 0) (remS y 0 0)).2 = trD x y by rw [remS_start, remS_start]; rfl)
  have hE : trE x y = fitsErr (grouped (trC x y)) (grouped (trD x y)) := if_neg (by simpa using he)
  have HL := Lib.hid (show trL x y = if trE x y = 0 then grouped (trC x y) else [] from rfl)
  have HR0 := Lib.hid (show trR x y = if trE x y = 0 then grouped (trD x y) else [] from rfl)
  have HE := Lib.hid hE
  have HVX := Lib.hid (fun (W : World) X l (h : Wk W X A c x l) => h.view hokx hxl hxt)
  have HVY := Lib.hid (fun (W : World) X l (h : Wk W X B d y l) => h.view hoky hyl hyt)
  have HWX := Lib.hid (WOk.start hokx)
  have HWY := Lib.hid (WOk.start hoky)
  have HT := Lib.hid hT
  have HSX := Lib.hid hx
  have HSY := Lib.hid hy
  generalize trL x y = LL at *
  generalize trR x y = LR at *
  generalize trE x y = EE at *
  generalize trC x y = CC at *
  generalize trD x y = DD at *
  clear he hT hx hy hxl hyl hxt hyt hfx hfy hln hokx hoky ex1 ey1 nx1 nx2 ny1 ny2 hslx hsly htl hE
  go_enter Tryd.func49, Tryd.ntmps49
  go_wp2_with fail
  refine HC.out.mono ?_
  rintro e w1 ⟨rfl, hb1⟩
  have HB1 := Lib.hid hb1
  clear hb1 HC
  go_wp2_with fail
  obtain ⟨V1, hV1⟩ : ∃ V1, V1 = w1.alloc (.cells #[.slice A x.length c, .int .i64 0, .int .i64 0] 126) := ⟨_, rfl⟩
  obtain ⟨V2, hV2⟩ : ∃ V2, V2 = V1.alloc (.cells #[.slice B y.length d, .int .i64 0, .int .i64 0] 126) := ⟨_, rfl⟩
  obtain ⟨V3, hV3⟩ : ∃ V3, V3 = V2.alloc (.cells #[.slice none 0 0] 129) := ⟨_, rfl⟩
  obtain ⟨V4, hV4⟩ : ∃ V4, V4 = V3.alloc (.cells #[.slice none 0 0] 129) := ⟨_, rfl⟩
  have g1 : V1.heap.size = w1.heap.size + 1 := by rw [hV1]; simp
  have g2 : V2.heap.size = V1.heap.size + 1 := by rw [hV2]; simp
  have g3 : V3.heap.size = V2.heap.size + 1 := by rw [hV3]; simp
  have k2 : Below V1.heap.size V1 V2 := by rw [hV2]; exact bAlloc (Below.refl _ _) _
  have k3 : Below V2.heap.size V2 V3 := by rw [hV3]; exact bAlloc (Below.refl _ _) _
  have k4 : Below V3.heap.size V3 V4 := by rw [hV4]; exact bAlloc (Below.refl _ _) _
  have k34 := bThen k3 k4
  have k24 := bThen k2 k34
  have k1 : Below w1.heap.size w1 V1 := by rw [hV1]; exact bAlloc (Below.refl _ _) _
  have hXh : WalkAt V4 w1.heap.size A x.length c 0 0 := (k24.block _ (by omega)).trans (by rw [hV1]; exact heap_alloc_new _ _)
  have hYh : WalkAt V4 V1.heap.size B y.length d 0 0 := (k34.block _ (by omega)).trans (by rw [hV2]; exact heap_alloc_new _ _)
  have hPh : V4.heap[V2.heap.size]? = some (.cells #[.slice none 0 0] 129 (0, 0)) := (k4.block _ (by omega)).trans (by rw [hV3]; exact heap_alloc_new _ _)
  have hQh : V4.heap[V3.heap.size]? = some (.cells #[.slice none 0 0] 129 (0, 0)) := by rw [hV4]; exact heap_alloc_new _ _
  have HR0' := Lib.hid (show Tr w1 V4 w1.heap.size V1.heap.size V2.heap.size V3.heap.size A c x B d y (remS x 0 0) (remS y 0 0) none 0 [] none 0 [] [] V4.heap[w1.heap.size]? V4.heap[V1.heap.size]? from
    ⟨rfl, rfl, ⟨0, 0, hXh, HWX.out, rfl⟩, ⟨0, 0, hYh, HWY.out, rfl⟩, ⟨by omega, hPh, World.ownsRow_nil _ _ _ _, by simp [Value.ownBlock]⟩, ⟨by omega, hQh, World.ownsRow_nil _ _ _ _, by simp [Value.ownBlock]⟩, by omega, fun g h => by simp [Value.ownBlock] at h, fun g h => by simp [Value.ownBlock] at h, .inl rfl, bThen k1 k24, fun e he => by cases he⟩)
  have hW : (((w1.alloc (.cells #[.slice A x.length c, .int .i64 0, .int .i64 0] 126)).alloc (.cells #[.slice B y.length d, .int .i64 0, .int .i64 0] 126)).alloc (.cells #[.slice none 0 0] 129)).alloc (.cells #[.slice none 0 0] 129) = V4 := by rw [hV4, hV3, hV2, hV1]
  have HSX1 := Lib.hid (Sl.later HSX.out HB1.out)
  have HSY1 := Lib.hid (Sl.later HSY.out HB1.out)
  have hx1 : w1.heap.size + 1 = V1.heap.size := by omega
  have hx2 : w1.heap.size + 1 + 1 = V2.heap.size := by omega
  have hx3 : w1.heap.size + 1 + 1 + 1 = V3.heap.size := by omega
  rw [hW, hx3, hx2, hx1]
  obtain ⟨X, hX⟩ : ∃ X, X = w1.heap.size := ⟨_, rfl⟩
  obtain ⟨Y, hY⟩ : ∃ Y, Y = V1.heap.size := ⟨_, rfl⟩
  obtain ⟨P, hP⟩ : ∃ P, P = V2.heap.size := ⟨_, rfl⟩
  obtain ⟨Q, hQ⟩ : ∃ Q, Q = V3.heap.size := ⟨_, rfl⟩
  rw [← hX, ← hY, ← hP, ← hQ] at HR0'
  rw [← hX, ← hY, ← hP, ← hQ]
  clear hXh hYh hPh hQh k1 k2 k3 k4 k34 k24 g1 g2 g3 hV1 hV2 hV3 hV4 hx1 hx2 hx3 hX hY hP hQ hW HSX HSY HWX HWY
  go_loopw [4, 5, 6] (fun r1 r2 r3 wr => ∃ (xs ys c' d' : List (Int × Int)) (rs qs : List PartD) (Ap : Option Addr) (cp : Nat) (Aq : Option Addr) (cq : Nat), r1 = .slice none 0 0 ∧ r2 = .slice none 0 0 ∧ r3 = .int .i64 0 ∧ Hid (Tr w1 wr X Y P Q A c x B d y xs ys Ap cp rs Aq cq qs [] wr.heap[X]? wr.heap[Y]?) ∧ Hid (Holds rs c') ∧ Hid (Holds qs d') ∧ Hid (c' ++ (trS xs ys).1 = CC) ∧ Hid (d' ++ (trS xs ys).2 = DD) ∧ Hid (fromS xs = fromS ys))
    (fun _ _ _ wr => leftN wr X x + leftN wr Y y)
  case atStart => exact ⟨remS x 0 0, remS y 0 0, [], [], [], [], none, 0, none, 0, rfl, rfl, rfl, HR0', holds_nil, holds_nil, HC0, HD0, HF0⟩
  case round =>
    obtain ⟨xs, ys, c', d', rs, qs, Ap, cp, Aq, cq, rfl, rfl, rfl, HR1, hP, hQ, hC, hD, hF⟩ := hrel
    have HSX := HSX1
    have HSY := HSY1
    have HLR := Lib.hid (show rs.length ≤ 16000 by have h1 := hP.out.len; have h2 := congrArg List.length hC.out; have h3 := HCL.out; rw [List.length_append] at h2; omega)
    have HLQ := Lib.hid (show qs.length ≤ 16000 by have h1 := hQ.out.len; have h2 := congrArg List.length hD.out; have h3 := HDL.out; rw [List.length_append] at h2; omega)
    have HTR := Lib.hid (show ∀ p ∈ rs, p.text.size ≤ 4611686018427387903 from fun p hp => by have h1 := hP.out.text p hp; have h2 := congrArg List.length hC.out; have h3 := HCL.out; rw [List.length_append] at h2; omega)
    have HTQ := Lib.hid (show ∀ p ∈ qs, p.text.size ≤ 4611686018427387903 from fun p hp => by have h1 := hQ.out.text p hp; have h2 := congrArg List.length hD.out; have h3 := HDL.out; rw [List.length_append] at h2; omega)
    have HBC := Lib.hid (show c'.length ≤ 16000 by have h2 := congrArg List.length hC.out; have h3 := HCL.out; rw [List.length_append] at h2; omega)
    have HBD := Lib.hid (show d'.length ≤ 16000 by have h2 := congrArg List.length hD.out; have h3 := HDL.out; rw [List.length_append] at h2; omega)
    rcases HVX.out wr X xs HR1.out.wx with ⟨rfl, hpx⟩ | ⟨Z, l, hZ, hsc, hZ4, rfl, hpx, hpass⟩ | ⟨q, n, l, hq, hn0, hn4, rfl, hpx, hpass⟩
    · have HPX := Lib.hid hpx
      rcases HVY.out wr Y ys HR1.out.wy with ⟨rfl, hpy⟩ | ⟨Z, l, hZ, hsc, hZ4, rfl, hpy, hpass⟩ | ⟨q, n, l, hq, hn0, hn4, rfl, hpy, hpass⟩
      · have HPY := Lib.hid hpy
        have hcc : c' = CC := by have := hC.out; simpa [trS] using this
        have hdd : d' = DD := by have := hD.out; simpa [trS] using this
        have hrr := hP.out.rev
        have hqr := hQ.out.rev
        rw [hcc] at hrr
        rw [hdd] at hqr
        have hlr : (grouped CC).length = rs.length := by rw [← hrr, List.length_reverse]
        have hlq : (grouped DD).length = qs.length := by rw [← hqr, List.length_reverse]
        have hgt : ∀ p ∈ grouped CC, p.text.size ≤ 1048576 := fun p hp => by have := grouped_text CC p hp; have := HCL.out; omega
        have hht : ∀ p ∈ grouped DD, p.text.size ≤ 1048576 := fun p hp => by have := grouped_text DD p hp; have := HDL.out; omega
        have hfit := fun (W : World) A' c' B' d' hT hx hy => fits_c W A' B' c' d' (grouped CC) (grouped DD) hT hx hy (by have := HLR.out; omega) (by have := HLQ.out; omega) hgt hht
        rw [hlr, hlq] at hfit
        have HFIT := Lib.hid hfit
        have HSP := Lib.hid (fun (W : World) (h : Bld W w1.heap.size P Ap cp rs) => show OpIn (fun b => w1.heap.size ≤ b ∧ b < W.heap.size) W Ap (grouped CC) by
          have h1 := Sl.of_own W h.row
          rw [hrr, ← hlr] at h1
          exact h1)
        have HSQ := Lib.hid (fun (W : World) (h : Bld W w1.heap.size Q Aq cq qs) => show OpIn (fun b => w1.heap.size ≤ b ∧ b < W.heap.size) W Aq (grouped DD) by
          have h1 := Sl.of_own W h.row
          rw [hqr, ← hlq] at h1
          exact h1)
        clear hpx hpy hP hQ hC hD hF hfit hgt hht hcc hdd hrr hqr
        by_cases hz : fitsErr (grouped CC) (grouped DD) = 0
        · have he0 : EE = 0 := HE.out.trans hz
          have h1 := HL.out
          have h2 := HR0.out
          rw [if_pos he0] at h1 h2
          have HLL := Lib.hid h1
          have HLR2 := Lib.hid h2
          have HEE := Lib.hid he0
          have HZ := Lib.hid hz
          clear h1 h2 he0 hz HL HR0 HE
          go_wp2_with fail
          refine (HPX.out _ HR1.out.ex (HR1.out.opxi HSX.out)).mono ?_
          rintro e wa ⟨rfl, hb⟩
          have HR2 := Lib.hid (HR1.out.later hb)
          clear hb
          go_wp2_with fail
          obtain ⟨VS, hV⟩ : ∃ V, V = wa.alloc (.cells #[.int .i64 0, .int .i64 0, .string ⟨#[]⟩] 90) := ⟨_, rfl⟩
          rw [← hV]
          have HR3 := Lib.hid (HR2.out.note' hV)
          obtain ⟨S, hS⟩ : ∃ S, S = wa.heap.size := ⟨_, rfl⟩
          rw [← hS] at HR3
          rw [← hS]
          clear hV hS
          refine (HPY.out _ HR3.out.ey (HR3.out.opyi HSY.out)).mono ?_
          rintro e wb ⟨rfl, hb⟩
          have HR4 := Lib.hid (HR3.out.later hb)
          clear hb
          obtain ⟨s0, s1, s2, _, _, _, sz⟩ := three_cell HR4.out.k0
          have y1 := HR4.out.bp.cell
          have y2 := HR4.out.bq.cell
          have y3 := HR4.out.bp.lt
          have y4 := HR4.out.bq.lt
          go_wp2_with fail
          obtain ⟨VT, hV⟩ : ∃ V, V = wb.alloc (.cells #[.int .i64 0, .int .i64 0, .string ⟨#[]⟩] 90) := ⟨_, rfl⟩
          rw [← hV]
          have HR5 := Lib.hid (HR4.out.note' hV)
          obtain ⟨T, hS⟩ : ∃ S, S = wb.heap.size := ⟨_, rfl⟩
          rw [← hS] at HR5
          rw [← hS]
          clear hV hS
          clear s0 s1 s2 sz
          have y1 := HR5.out.bp.cell
          have y2 := HR5.out.bq.cell
          have y3 := HR5.out.bp.lt
          have y4 := HR5.out.bq.lt
          have HFW := Lib.hid (fun (W : World) (hb : Below VT.heap.size VT W) => show Calls Tryd.prog 76 #[.slice Ap rs.length cp, .slice Aq qs.length cq] W fun e w' => e = .returned (.tuple #[.slice Ap rs.length cp, .slice Aq qs.length cq, .int .i64 0]) ∧ Below W.heap.size W w' by
            have h2 := HR5.out.later hb
            have h3 := HFIT.out W Ap cp Aq cq (HT.out.later (bThen HB1.out h2.b)) ((HSP.out _ h2.bp).keep (fun _ h => h.2) (fun _ _ => rfl)) ((HSQ.out _ h2.bq).keep (fun _ h => h.2) (fun _ _ => rfl))
            rw [HZ.out, fitsV_ok] at h3
            exact h3)
          go_region_held3 (fun w' => w'.cell? ⟨P, 0, none⟩ = some (.slice Ap rs.length cp) ∧ w'.cell? ⟨Q, 0, none⟩ = some (.slice Aq qs.length cq))
            (go_keep)
            ((first
              | (go_at_call 76; (with_reducible refine (HFW.out _ ?_).mono ?_); exact (by repeat (first | exact Below.refl _ _ | apply bGrow | apply bAlloc | apply Below.drew | apply bDrewN | apply bIter)); rintro r w8 ⟨rfl, hb8⟩; obtain ⟨⟨d8, os8⟩, rfl⟩ := beyond_of hb8)))
          all_goals (
            refine post_hide (fun W => Below VT.heap.size VT W) (by repeat (first | exact Below.refl _ _ | apply bGrow | apply bAlloc | apply Below.drew | apply bDrewN | apply bIter)) ?_
            intro W9 hb9
            have HR9 := Lib.hid (HR5.out.later hb9)
            clear hb9
            go_wp2_with fail
            go_ret3
            rw [HLL.out, HLR2.out, HEE.out]
            exact ⟨Ap, cp, Aq, cq, (by rw [hlr, hlq]; rfl), (HSP.out _ HR9.out.bp).keep (fun _ h => ⟨by have := HB1.out.size; omega, h.2⟩) (fun _ _ => rfl), (HSQ.out _ HR9.out.bq).keep (fun _ h => ⟨by have := HB1.out.size; omega, h.2⟩) (fun _ _ => rfl), bThen HB1.out HR9.out.b⟩)
        · have he0 : ¬ EE = 0 := fun e => hz (HE.out.symm.trans e)
          have h1 := HL.out
          have h2 := HR0.out
          rw [if_neg he0] at h1 h2
          have HLL := Lib.hid h1
          have HLR2 := Lib.hid h2
          have HEE := Lib.hid HE.out
          have HZ := Lib.hid hz
          clear h1 h2 he0 hz HL HR0 HE
          go_wp2_with fail
          refine (HPX.out _ HR1.out.ex (HR1.out.opxi HSX.out)).mono ?_
          rintro e wa ⟨rfl, hb⟩
          have HR2 := Lib.hid (HR1.out.later hb)
          clear hb
          go_wp2_with fail
          obtain ⟨VS, hV⟩ : ∃ V, V = wa.alloc (.cells #[.int .i64 0, .int .i64 0, .string ⟨#[]⟩] 90) := ⟨_, rfl⟩
          rw [← hV]
          have HR3 := Lib.hid (HR2.out.note' hV)
          obtain ⟨S, hS⟩ : ∃ S, S = wa.heap.size := ⟨_, rfl⟩
          rw [← hS] at HR3
          rw [← hS]
          clear hV hS
          refine (HPY.out _ HR3.out.ey (HR3.out.opyi HSY.out)).mono ?_
          rintro e wb ⟨rfl, hb⟩
          have HR4 := Lib.hid (HR3.out.later hb)
          clear hb
          obtain ⟨s0, s1, s2, _, _, _, sz⟩ := three_cell HR4.out.k0
          have y1 := HR4.out.bp.cell
          have y2 := HR4.out.bq.cell
          have y3 := HR4.out.bp.lt
          have y4 := HR4.out.bq.lt
          go_wp2_with fail
          obtain ⟨VT, hV⟩ : ∃ V, V = wb.alloc (.cells #[.int .i64 0, .int .i64 0, .string ⟨#[]⟩] 90) := ⟨_, rfl⟩
          rw [← hV]
          have HR5 := Lib.hid (HR4.out.note' hV)
          obtain ⟨T, hS⟩ : ∃ S, S = wb.heap.size := ⟨_, rfl⟩
          rw [← hS] at HR5
          rw [← hS]
          clear hV hS
          clear s0 s1 s2 sz
          have y1 := HR5.out.bp.cell
          have y2 := HR5.out.bq.cell
          have y3 := HR5.out.bp.lt
          have y4 := HR5.out.bq.lt
          have HFW := Lib.hid (fun (W : World) (hb : Below VT.heap.size VT W) => show Calls Tryd.prog 76 #[.slice Ap rs.length cp, .slice Aq qs.length cq] W fun e w' => e = .returned (.tuple #[.slice none 0 0, .slice none 0 0, .int .i64 (fitsErr (grouped CC) (grouped DD))]) ∧ Below W.heap.size W w' by
            have h2 := HR5.out.later hb
            have h3 := HFIT.out W Ap cp Aq cq (HT.out.later (bThen HB1.out h2.b)) ((HSP.out _ h2.bp).keep (fun _ h => h.2) (fun _ _ => rfl)) ((HSQ.out _ h2.bq).keep (fun _ h => h.2) (fun _ _ => rfl))
            rw [fitsV_no HZ.out] at h3
            exact h3)
          go_region_held3 (fun w' => w'.cell? ⟨P, 0, none⟩ = some (.slice Ap rs.length cp) ∧ w'.cell? ⟨Q, 0, none⟩ = some (.slice Aq qs.length cq))
            (go_keep)
            ((first
              | (go_at_call 76; (with_reducible refine (HFW.out _ ?_).mono ?_); exact (by repeat (first | exact Below.refl _ _ | apply bGrow | apply bAlloc | apply Below.drew | apply bDrewN | apply bIter)); rintro r w8 ⟨rfl, hb8⟩; obtain ⟨⟨d8, os8⟩, rfl⟩ := beyond_of hb8)))
          all_goals (
            refine post_hide (fun W => Below VT.heap.size VT W) (by repeat (first | exact Below.refl _ _ | apply bGrow | apply bAlloc | apply Below.drew | apply bDrewN | apply bIter)) ?_
            intro W9 hb9
            have HR9 := Lib.hid (HR5.out.later hb9)
            clear hb9
            go_wp2_with fail
            go_ret3
            rw [HLL.out, HLR2.out, HEE.out]
            exact ⟨none, 0, none, 0, rfl, Sl.nil, Sl.nil, bThen HB1.out HR9.out.b⟩)
      · have HPY := Lib.hid hpy
        have HPASS := Lib.hid (hpass Z.length (Nat.le_refl _))
        have hszl := (runesBytes_le Z).2
        have HZS := Lib.hid (show (runesBytes Z).size ≤ 4611686018427387903 by omega)
        have HSZ := Lib.hid (fun (W : World) => show Calls Tryd.prog 79 #[partV 2 0 (runesBytes Z)] W fun e w' => e = .returned (.int .i64 Z.length) ∧ Below W.heap.size W w' by
          have h5 := size_ins 0 (runesBytes Z) W (by omega)
          rwa [← runesOf_length, runes_bytes Z hsc] at h5)
        clear hszl
        have HC' := Lib.hid (show (c' ++ othS 1 Z.length) ++ (trS [] l).1 = CC by rw [← hC.out, tr_insR (not1_nil 2), List.append_assoc])
        have HD' := Lib.hid (show (d' ++ insS Z) ++ (trS [] l).2 = DD by rw [← hD.out, tr_insR (not1_nil 2), List.append_assoc])
        have HF' := Lib.hid (show fromS [] = fromS l by rw [hF.out, fromS_insS])
        have HP' := Lib.hid (hP.out.keep Z.length (List.length_pos_iff.2 hZ) (by have := HBC.out; omega))
        have HQ' := Lib.hid (hQ.out.ins Z hZ)
        have HZ0 := Lib.hid (List.length_pos_iff.2 hZ)
        rw [show insS (Z.drop Z.length) ++ l = l by simp [insS]] at HPASS
        clear hpx hpy hpass hZ hsc hC hD hF hP hQ
        go_wp2_with fail
        refine (HPX.out _ HR1.out.ex (HR1.out.opxi HSX.out)).mono ?_
        rintro e wa ⟨rfl, hb⟩
        have HR2 := Lib.hid (HR1.out.later hb)
        clear hb
        go_wp2_with fail
        obtain ⟨VS, hV⟩ : ∃ V, V = wa.alloc (.cells #[.int .i64 0, .int .i64 0, .string ⟨#[]⟩] 90) := ⟨_, rfl⟩
        rw [← hV]
        have HR3 := Lib.hid (HR2.out.note' hV)
        obtain ⟨S, hS⟩ : ∃ S, S = wa.heap.size := ⟨_, rfl⟩
        rw [← hS] at HR3
        rw [← hS]
        clear hV hS
        refine (HPY.out _ HR3.out.ey (HR3.out.opyi HSY.out)).mono ?_
        rintro e wb ⟨rfl, hb⟩
        have HR4 := Lib.hid (HR3.out.later hb)
        clear hb
        obtain ⟨s0, s1, s2, _, _, _, sz⟩ := three_cell HR4.out.k0
        go_wp2_with fail
        obtain ⟨VT, hV⟩ : ∃ V, V = wb.alloc (.cells #[.int .i64 2, .int .i64 0, .string (runesBytes Z)] 90) := ⟨_, rfl⟩
        rw [← hV]
        have HR5 := Lib.hid (HR4.out.note' hV)
        obtain ⟨T, hS⟩ : ∃ S, S = wb.heap.size := ⟨_, rfl⟩
        rw [← hS] at HR5
        rw [← hS]
        clear hV hS
        clear s0 s1 s2 sz
        refine (HSZ.out _).mono ?_
        rintro e w6 ⟨rfl, hb⟩
        have HR6 := Lib.hid (HR5.out.later hb)
        clear hb
        obtain ⟨s0, s1, s2, _, _, _, sz⟩ := three_cell HR6.out.k0
        go_wp2_with fail
        refine (keep_c _ _ P Ap cp Z.length rs HR6.out.bp (by have := HLR.out; omega)).mono ?_
        rintro e w7 ⟨rfl, hto⟩
        obtain ⟨A7, c7, hr⟩ := HR6.out.p hto
        have HR7 := Lib.hid hr
        clear hto hr
        clear s0 s1 s2 sz
        obtain ⟨s0, s1, s2, _, _, _, sz⟩ := three_cell HR7.out.k0
        go_wp2_with fail
        refine (insert_c _ _ Q Aq cq (runesBytes Z) qs HR7.out.bq HZS.out (by have := HLQ.out; omega) HTQ.out).mono ?_
        rintro e w8 ⟨rfl, hto⟩
        obtain ⟨A8, c8, hr⟩ := HR7.out.q hto
        have HR8 := Lib.hid hr
        clear hto hr
        clear s0 s1 s2 sz
        obtain ⟨s0, s1, s2, _, _, _, sz⟩ := three_cell HR8.out.k0
        go_wp2_with fail
        refine (HSZ.out _).mono ?_
        rintro e w9 ⟨rfl, hb⟩
        have HR9 := Lib.hid (HR8.out.later hb)
        clear hb
        clear s0 s1 s2 sz
        go_wp2_with fail
        refine (HPASS.out _ HR9.out.ey (HR9.out.opyi HSY.out)).mono ?_
        rintro e w10 ⟨rfl, hwk, ho⟩
        have HR10 := Lib.hid (HR9.out.goY hwk ho)
        clear hwk ho
        go_wp2_with fail
        go_roundw
        case rel => exact ⟨[], l, c' ++ othS 1 Z.length, d' ++ insS Z, _, _, A7, c7, A8, c8, rfl, rfl, rfl, Lib.hid HR10.out.clean, HP', HQ', HC', HD', HF'⟩
        case measure =>
          rw [HR10.out.wx.left, HR10.out.wy.left, HR1.out.wx.left, HR1.out.wy.left]
          have := HZ0.out; simp only [insS, List.length_append, List.length_map]; omega
      · exfalso
        have := hF.out
        rw [fromS_othS (by rcases hq with rfl | rfl <;> decide)] at this
        simp [fromS] at this
        omega
    · have HPX := Lib.hid hpx
      have HPASS := Lib.hid (hpass Z.length (Nat.le_refl _))
      obtain ⟨tk, tn, tt, tb, hpy⟩ : ∃ tk tn tt tb, Parts wr Y B y tk tn tt tb := by
        rcases HVY.out wr Y ys HR1.out.wy with ⟨_, h⟩ | ⟨_, _, _, _, _, _, h, _⟩ | ⟨_, _, _, _, _, _, _, h, _⟩ <;> exact ⟨_, _, _, _, h⟩
      have HPY := Lib.hid hpy
      have hszl := (runesBytes_le Z).2
      have HZS := Lib.hid (show (runesBytes Z).size ≤ 4611686018427387903 by omega)
      have HSZ := Lib.hid (fun (W : World) => show Calls Tryd.prog 79 #[partV 2 0 (runesBytes Z)] W fun e w' => e = .returned (.int .i64 Z.length) ∧ Below W.heap.size W w' by
        have h5 := size_ins 0 (runesBytes Z) W (by omega)
        rwa [← runesOf_length, runes_bytes Z hsc] at h5)
      clear hszl
      have HC' := Lib.hid (show (c' ++ insS Z) ++ (trS l ys).1 = CC by rw [← hC.out, tr_insL, List.append_assoc])
      have HD' := Lib.hid (show (d' ++ othS 1 Z.length) ++ (trS l ys).2 = DD by rw [← hD.out, tr_insL, List.append_assoc])
      have HF' := Lib.hid (show fromS l = fromS ys by rw [← hF.out, fromS_insS])
      have HP' := Lib.hid (hP.out.ins Z hZ)
      have HQ' := Lib.hid (hQ.out.keep Z.length (List.length_pos_iff.2 hZ) (by have := HBD.out; omega))
      have HZ0 := Lib.hid (List.length_pos_iff.2 hZ)
      rw [show insS (Z.drop Z.length) ++ l = l by simp [insS]] at HPASS
      clear hpx hpy hpass hZ hsc hC hD hF hP hQ
      go_wp2_with fail
      refine (HPX.out _ HR1.out.ex (HR1.out.opxi HSX.out)).mono ?_
      rintro e wa ⟨rfl, hb⟩
      have HR2 := Lib.hid (HR1.out.later hb)
      clear hb
      go_wp2_with fail
      obtain ⟨VS, hV⟩ : ∃ V, V = wa.alloc (.cells #[.int .i64 2, .int .i64 0, .string (runesBytes Z)] 90) := ⟨_, rfl⟩
      rw [← hV]
      have HR3 := Lib.hid (HR2.out.note' hV)
      obtain ⟨S, hS⟩ : ∃ S, S = wa.heap.size := ⟨_, rfl⟩
      rw [← hS] at HR3
      rw [← hS]
      clear hV hS
      refine (HPY.out _ HR3.out.ey (HR3.out.opyi HSY.out)).mono ?_
      rintro e wb ⟨rfl, hb⟩
      have HR4 := Lib.hid (HR3.out.later hb)
      clear hb
      obtain ⟨s0, s1, s2, _, _, _, sz⟩ := three_cell HR4.out.k0
      go_wp2_with fail
      obtain ⟨VT, hV⟩ : ∃ V, V = wb.alloc (.cells #[.int .i64 tk, .int .i64 tn, .string tt] 90) := ⟨_, rfl⟩
      rw [← hV]
      have HR5 := Lib.hid (HR4.out.note' hV)
      obtain ⟨T, hS⟩ : ∃ S, S = wb.heap.size := ⟨_, rfl⟩
      rw [← hS] at HR5
      rw [← hS]
      clear hV hS
      clear s0 s1 s2 sz
      refine (insert_c _ _ P Ap cp (runesBytes Z) rs HR5.out.bp HZS.out (by have := HLR.out; omega) HTR.out).mono ?_
      rintro e w6 ⟨rfl, hto⟩
      obtain ⟨A6, c6, hr⟩ := HR5.out.p hto
      have HR6 := Lib.hid hr
      clear hto hr
      obtain ⟨s0, s1, s2, _, _, _, sz⟩ := three_cell HR6.out.k1
      go_wp2_with fail
      refine (HSZ.out _).mono ?_
      rintro e w7 ⟨rfl, hb⟩
      have HR7 := Lib.hid (HR6.out.later hb)
      clear hb
      clear s0 s1 s2 sz
      obtain ⟨s0, s1, s2, _, _, _, sz⟩ := three_cell HR7.out.k1
      go_wp2_with fail
      refine (keep_c _ _ Q Aq cq Z.length qs HR7.out.bq (by have := HLQ.out; omega)).mono ?_
      rintro e w8 ⟨rfl, hto⟩
      obtain ⟨A8, c8, hr⟩ := HR7.out.q hto
      have HR8 := Lib.hid hr
      clear hto hr
      clear s0 s1 s2 sz
      obtain ⟨s0, s1, s2, _, _, _, sz⟩ := three_cell HR8.out.k1
      go_wp2_with fail
      refine (HSZ.out _).mono ?_
      rintro e w9 ⟨rfl, hb⟩
      have HR9 := Lib.hid (HR8.out.later hb)
      clear hb
      clear s0 s1 s2 sz
      go_wp2_with fail
      refine (HPASS.out _ HR9.out.ex (HR9.out.opxi HSX.out)).mono ?_
      rintro e w10 ⟨rfl, hwk, ho⟩
      have HR10 := Lib.hid (HR9.out.goX hwk ho)
      clear hwk ho
      go_wp2_with fail
      go_roundw
      case rel => exact ⟨l, ys, c' ++ insS Z, d' ++ othS 1 Z.length, _, _, A6, c6, A8, c8, rfl, rfl, rfl, Lib.hid HR10.out.clean, HP', HQ', HC', HD', HF'⟩
      case measure =>
        rw [HR10.out.wx.left, HR10.out.wy.left, HR1.out.wx.left, HR1.out.wy.left]
        have := HZ0.out; rw [List.length_append, List.length_map]; omega
    · have HPX := Lib.hid hpx
      have e2 : (q == 2) = false := by rcases hq with rfl | rfl <;> rfl
      rcases HVY.out wr Y ys HR1.out.wy with ⟨rfl, hpy⟩ | ⟨Z, l', hZ, hsc, hZ4, rfl, hpy, hpass'⟩ | ⟨q', n', l', hq', hn0', hn4', rfl, hpy, hpass'⟩
      · exfalso
        have := hF.out
        rw [fromS_othS (by rcases hq with rfl | rfl <;> decide)] at this
        simp [fromS] at this
        omega
      · have HPY := Lib.hid hpy
        have HPASS := Lib.hid (hpass' Z.length (Nat.le_refl _))
        have hszl := (runesBytes_le Z).2
        have HZS := Lib.hid (show (runesBytes Z).size ≤ 4611686018427387903 by omega)
        have HSZ := Lib.hid (fun (W : World) => show Calls Tryd.prog 79 #[partV 2 0 (runesBytes Z)] W fun e w' => e = .returned (.int .i64 Z.length) ∧ Below W.heap.size W w' by
          have h5 := size_ins 0 (runesBytes Z) W (by omega)
          rwa [← runesOf_length, runes_bytes Z hsc] at h5)
        clear hszl
        have HC' := Lib.hid (show (c' ++ othS 1 Z.length) ++ (trS (othS q n ++ l) l').1 = CC by rw [← hC.out, tr_insR (not1_oth (by rcases hq with rfl | rfl <;> decide) hn0 _), List.append_assoc])
        have HD' := Lib.hid (show (d' ++ insS Z) ++ (trS (othS q n ++ l) l').2 = DD by rw [← hD.out, tr_insR (not1_oth (by rcases hq with rfl | rfl <;> decide) hn0 _), List.append_assoc])
        have HF' := Lib.hid (show fromS (othS q n ++ l) = fromS l' by rw [hF.out, fromS_insS])
        have HP' := Lib.hid (hP.out.keep Z.length (List.length_pos_iff.2 hZ) (by have := HBC.out; omega))
        have HQ' := Lib.hid (hQ.out.ins Z hZ)
        have HZ0 := Lib.hid (List.length_pos_iff.2 hZ)
        rw [show insS (Z.drop Z.length) ++ l' = l' by simp [insS]] at HPASS
        clear hpx hpy hpass' hZ hsc hC hD hF hP hQ
        go_wp2_with fail
        refine (HPX.out _ HR1.out.ex (HR1.out.opxi HSX.out)).mono ?_
        rintro e wa ⟨rfl, hb⟩
        have HR2 := Lib.hid (HR1.out.later hb)
        clear hb
        go_wp2_with fail
        obtain ⟨VS, hV⟩ : ∃ V, V = wa.alloc (.cells #[.int .i64 q, .int .i64 n, .string ⟨#[]⟩] 90) := ⟨_, rfl⟩
        rw [← hV]
        have HR3 := Lib.hid (HR2.out.note' hV)
        obtain ⟨S, hS⟩ : ∃ S, S = wa.heap.size := ⟨_, rfl⟩
        rw [← hS] at HR3
        rw [← hS]
        clear hV hS
        refine (HPY.out _ HR3.out.ey (HR3.out.opyi HSY.out)).mono ?_
        rintro e wb ⟨rfl, hb⟩
        have HR4 := Lib.hid (HR3.out.later hb)
        clear hb
        obtain ⟨s0, s1, s2, _, _, _, sz⟩ := three_cell HR4.out.k0
        go_wp2_with fail
        obtain ⟨VT, hV⟩ : ∃ V, V = wb.alloc (.cells #[.int .i64 2, .int .i64 0, .string (runesBytes Z)] 90) := ⟨_, rfl⟩
        rw [← hV]
        have HR5 := Lib.hid (HR4.out.note' hV)
        obtain ⟨T, hS⟩ : ∃ S, S = wb.heap.size := ⟨_, rfl⟩
        rw [← hS] at HR5
        rw [← hS]
        clear hV hS
        clear s0 s1 s2 sz
        refine (HSZ.out _).mono ?_
        rintro e w6 ⟨rfl, hb⟩
        have HR6 := Lib.hid (HR5.out.later hb)
        clear hb
        obtain ⟨s0, s1, s2, _, _, _, sz⟩ := three_cell HR6.out.k0
        go_wp2_with fail
        refine (keep_c _ _ P Ap cp Z.length rs HR6.out.bp (by have := HLR.out; omega)).mono ?_
        rintro e w7 ⟨rfl, hto⟩
        obtain ⟨A7, c7, hr⟩ := HR6.out.p hto
        have HR7 := Lib.hid hr
        clear hto hr
        clear s0 s1 s2 sz
        obtain ⟨s0, s1, s2, _, _, _, sz⟩ := three_cell HR7.out.k0
        go_wp2_with fail
        refine (insert_c _ _ Q Aq cq (runesBytes Z) qs HR7.out.bq HZS.out (by have := HLQ.out; omega) HTQ.out).mono ?_
        rintro e w8 ⟨rfl, hto⟩
        obtain ⟨A8, c8, hr⟩ := HR7.out.q hto
        have HR8 := Lib.hid hr
        clear hto hr
        clear s0 s1 s2 sz
        obtain ⟨s0, s1, s2, _, _, _, sz⟩ := three_cell HR8.out.k0
        go_wp2_with fail
        refine (HSZ.out _).mono ?_
        rintro e w9 ⟨rfl, hb⟩
        have HR9 := Lib.hid (HR8.out.later hb)
        clear hb
        clear s0 s1 s2 sz
        go_wp2_with fail
        refine (HPASS.out _ HR9.out.ey (HR9.out.opyi HSY.out)).mono ?_
        rintro e w10 ⟨rfl, hwk, ho⟩
        have HR10 := Lib.hid (HR9.out.goY hwk ho)
        clear hwk ho
        go_wp2_with fail
        go_roundw
        case rel => exact ⟨(othS q n ++ l), l', c' ++ othS 1 Z.length, d' ++ insS Z, _, _, A7, c7, A8, c8, rfl, rfl, rfl, Lib.hid HR10.out.clean, HP', HQ', HC', HD', HF'⟩
        case measure =>
          rw [HR10.out.wx.left, HR10.out.wy.left, HR1.out.wx.left, HR1.out.wy.left]
          have := HZ0.out; simp only [insS, List.length_append, List.length_map]; omega
      · have HPY := Lib.hid hpy
        have e3 : (q' == 2) = false := by rcases hq' with rfl | rfl <;> rfl
        obtain ⟨m, hm⟩ : ∃ m, m = min n n' := ⟨_, rfl⟩
        have hmn : m ≤ n := by omega
        have hmn' : m ≤ n' := by omega
        have hm0 : 0 < m := by omega
        have hmi : min (n : Int) (n' : Int) = (m : Int) := by omega
        have HPA := Lib.hid (hpass m hmn)
        have HPB := Lib.hid (hpass' m hmn')
        have hC2 := hC.out
        have hD2 := hD.out
        rw [othS_cut q hmn, othS_cut q' hmn', tr_both (by rcases hq with rfl | rfl <;> decide) (by rcases hq' with rfl | rfl <;> decide)] at hC2 hD2
        dsimp only at hC2 hD2
        have HF' := Lib.hid (show fromS (othS q (n - m) ++ l) = fromS (othS q' (n' - m) ++ l') by
          have := hF.out
          rw [fromS_othS (by rcases hq with rfl | rfl <;> decide), fromS_othS (by rcases hq' with rfl | rfl <;> decide)] at this ⊢
          omega)
        have HMS := Lib.hid (show m ≤ n ∧ m ≤ n' ∧ 0 < m from ⟨hmn, hmn', hm0⟩)
        clear hpx hpy hpass hpass' hC hD hF hm
        rcases hq with rfl | rfl
        · rcases hq' with rfl | rfl
          · have HC' := Lib.hid (show (c' ++ othS 1 m) ++ (trS (othS 1 (n - m) ++ l) (othS 1 (n' - m) ++ l')).1 = CC by simpa using hC2)
            have HD' := Lib.hid (show (d' ++ othS 1 m) ++ (trS (othS 1 (n - m) ++ l) (othS 1 (n' - m) ++ l')).2 = DD by simpa using hD2)
            have HP' := Lib.hid (hP.out.keep m hm0 (by have := HBC.out; omega))
            have HQ' := Lib.hid (hQ.out.keep m hm0 (by have := HBD.out; omega))
            clear hC2 hD2 hP hQ hm0 hmn hmn'
            go_wp2_with fail
            refine (HPX.out _ HR1.out.ex (HR1.out.opxi HSX.out)).mono ?_
            rintro e wa ⟨rfl, hb⟩
            have HR2 := Lib.hid (HR1.out.later hb)
            clear hb
            go_wp2_with fail
            obtain ⟨VS, hV⟩ : ∃ V, V = wa.alloc (.cells #[.int .i64 1, .int .i64 n, .string ⟨#[]⟩] 90) := ⟨_, rfl⟩
            rw [← hV]
            have HR3 := Lib.hid (HR2.out.note' hV)
            obtain ⟨S, hS⟩ : ∃ S, S = wa.heap.size := ⟨_, rfl⟩
            rw [← hS] at HR3
            rw [← hS]
            clear hV hS
            refine (HPY.out _ HR3.out.ey (HR3.out.opyi HSY.out)).mono ?_
            rintro e wb ⟨rfl, hb⟩
            have HR4 := Lib.hid (HR3.out.later hb)
            clear hb
            obtain ⟨s0, s1, s2, _, _, _, sz⟩ := three_cell HR4.out.k0
            go_wp2_with fail
            obtain ⟨VT, hV⟩ : ∃ V, V = wb.alloc (.cells #[.int .i64 1, .int .i64 n', .string ⟨#[]⟩] 90) := ⟨_, rfl⟩
            rw [← hV]
            have HR5 := Lib.hid (HR4.out.note' hV)
            obtain ⟨T, hS⟩ : ∃ S, S = wb.heap.size := ⟨_, rfl⟩
            rw [← hS] at HR5
            rw [← hS]
            clear hV hS
            clear s0 s1 s2 sz
            refine (keep_c _ _ P Ap cp m rs HR5.out.bp (by have := HLR.out; omega)).mono ?_
            rintro e w6 ⟨rfl, hto⟩
            obtain ⟨A6, c6, hr⟩ := HR5.out.p hto
            have HR6 := Lib.hid hr
            clear hto hr
            go_wp2_with fail
            refine (keep_c _ _ Q Aq cq m qs HR6.out.bq (by have := HLQ.out; omega)).mono ?_
            rintro e w7 ⟨rfl, hto⟩
            obtain ⟨A7, c7, hr⟩ := HR6.out.q hto
            have HR7 := Lib.hid hr
            clear hto hr
            go_wp2_with fail
            refine (HPA.out _ HR7.out.ex (HR7.out.opxi HSX.out)).mono ?_
            rintro e w8 ⟨rfl, hwk, ho⟩
            have HR8 := Lib.hid (HR7.out.goX hwk ho)
            clear hwk ho
            go_wp2_with fail
            refine (HPB.out _ HR8.out.ey (HR8.out.opyi HSY.out)).mono ?_
            rintro e w9 ⟨rfl, hwk, ho⟩
            have HR9 := Lib.hid (HR8.out.goY hwk ho)
            clear hwk ho
            go_wp2_with fail
            go_roundw
            case rel => exact ⟨_, _, c' ++ othS 1 m, d' ++ othS 1 m, _, _, A6, c6, A7, c7, rfl, rfl, rfl, Lib.hid HR9.out.clean, HP', HQ', HC', HD', HF'⟩
            case measure =>
              rw [HR9.out.wx.left, HR9.out.wy.left, HR1.out.wx.left, HR1.out.wy.left]
              have := HMS.out; simp only [List.length_append, List.length_replicate]; omega
          · have HC' := Lib.hid (show (c') ++ (trS (othS 1 (n - m) ++ l) (othS 3 (n' - m) ++ l')).1 = CC by simpa using hC2)
            have HD' := Lib.hid (show (d' ++ othS 3 m) ++ (trS (othS 1 (n - m) ++ l) (othS 3 (n' - m) ++ l')).2 = DD by simpa using hD2)
            have HP' := Lib.hid (hP.out)
            have HQ' := Lib.hid (hQ.out.del m hm0 (by have := HBD.out; omega))
            clear hC2 hD2 hP hQ hm0 hmn hmn'
            go_wp2_with fail
            refine (HPX.out _ HR1.out.ex (HR1.out.opxi HSX.out)).mono ?_
            rintro e wa ⟨rfl, hb⟩
            have HR2 := Lib.hid (HR1.out.later hb)
            clear hb
            go_wp2_with fail
            obtain ⟨VS, hV⟩ : ∃ V, V = wa.alloc (.cells #[.int .i64 1, .int .i64 n, .string ⟨#[]⟩] 90) := ⟨_, rfl⟩
            rw [← hV]
            have HR3 := Lib.hid (HR2.out.note' hV)
            obtain ⟨S, hS⟩ : ∃ S, S = wa.heap.size := ⟨_, rfl⟩
            rw [← hS] at HR3
            rw [← hS]
            clear hV hS
            refine (HPY.out _ HR3.out.ey (HR3.out.opyi HSY.out)).mono ?_
            rintro e wb ⟨rfl, hb⟩
            have HR4 := Lib.hid (HR3.out.later hb)
            clear hb
            obtain ⟨s0, s1, s2, _, _, _, sz⟩ := three_cell HR4.out.k0
            go_wp2_with fail
            obtain ⟨VT, hV⟩ : ∃ V, V = wb.alloc (.cells #[.int .i64 3, .int .i64 n', .string ⟨#[]⟩] 90) := ⟨_, rfl⟩
            rw [← hV]
            have HR5 := Lib.hid (HR4.out.note' hV)
            obtain ⟨T, hS⟩ : ∃ S, S = wb.heap.size := ⟨_, rfl⟩
            rw [← hS] at HR5
            rw [← hS]
            clear hV hS
            clear s0 s1 s2 sz
            refine (remove_c _ _ Q Aq cq m qs HR5.out.bq (by have := HLQ.out; omega)).mono ?_
            rintro e w6 ⟨rfl, hto⟩
            obtain ⟨A6, c6, hr⟩ := HR5.out.q hto
            have HR6 := Lib.hid hr
            clear hto hr
            go_wp2_with fail
            refine (HPA.out _ HR6.out.ex (HR6.out.opxi HSX.out)).mono ?_
            rintro e w7 ⟨rfl, hwk, ho⟩
            have HR7 := Lib.hid (HR6.out.goX hwk ho)
            clear hwk ho
            go_wp2_with fail
            refine (HPB.out _ HR7.out.ey (HR7.out.opyi HSY.out)).mono ?_
            rintro e w8 ⟨rfl, hwk, ho⟩
            have HR8 := Lib.hid (HR7.out.goY hwk ho)
            clear hwk ho
            go_wp2_with fail
            go_roundw
            case rel => exact ⟨_, _, c', d' ++ othS 3 m, _, _, Ap, cp, A6, c6, rfl, rfl, rfl, Lib.hid HR8.out.clean, HP', HQ', HC', HD', HF'⟩
            case measure =>
              rw [HR8.out.wx.left, HR8.out.wy.left, HR1.out.wx.left, HR1.out.wy.left]
              have := HMS.out; simp only [List.length_append, List.length_replicate]; omega
        · rcases hq' with rfl | rfl
          · have HC' := Lib.hid (show (c' ++ othS 3 m) ++ (trS (othS 3 (n - m) ++ l) (othS 1 (n' - m) ++ l')).1 = CC by simpa using hC2)
            have HD' := Lib.hid (show (d') ++ (trS (othS 3 (n - m) ++ l) (othS 1 (n' - m) ++ l')).2 = DD by simpa using hD2)
            have HP' := Lib.hid (hP.out.del m hm0 (by have := HBC.out; omega))
            have HQ' := Lib.hid (hQ.out)
            clear hC2 hD2 hP hQ hm0 hmn hmn'
            go_wp2_with fail
            refine (HPX.out _ HR1.out.ex (HR1.out.opxi HSX.out)).mono ?_
            rintro e wa ⟨rfl, hb⟩
            have HR2 := Lib.hid (HR1.out.later hb)
            clear hb
            go_wp2_with fail
            obtain ⟨VS, hV⟩ : ∃ V, V = wa.alloc (.cells #[.int .i64 3, .int .i64 n, .string ⟨#[]⟩] 90) := ⟨_, rfl⟩
            rw [← hV]
            have HR3 := Lib.hid (HR2.out.note' hV)
            obtain ⟨S, hS⟩ : ∃ S, S = wa.heap.size := ⟨_, rfl⟩
            rw [← hS] at HR3
            rw [← hS]
            clear hV hS
            refine (HPY.out _ HR3.out.ey (HR3.out.opyi HSY.out)).mono ?_
            rintro e wb ⟨rfl, hb⟩
            have HR4 := Lib.hid (HR3.out.later hb)
            clear hb
            obtain ⟨s0, s1, s2, _, _, _, sz⟩ := three_cell HR4.out.k0
            go_wp2_with fail
            obtain ⟨VT, hV⟩ : ∃ V, V = wb.alloc (.cells #[.int .i64 1, .int .i64 n', .string ⟨#[]⟩] 90) := ⟨_, rfl⟩
            rw [← hV]
            have HR5 := Lib.hid (HR4.out.note' hV)
            obtain ⟨T, hS⟩ : ∃ S, S = wb.heap.size := ⟨_, rfl⟩
            rw [← hS] at HR5
            rw [← hS]
            clear hV hS
            clear s0 s1 s2 sz
            refine (remove_c _ _ P Ap cp m rs HR5.out.bp (by have := HLR.out; omega)).mono ?_
            rintro e w6 ⟨rfl, hto⟩
            obtain ⟨A6, c6, hr⟩ := HR5.out.p hto
            have HR6 := Lib.hid hr
            clear hto hr
            go_wp2_with fail
            refine (HPA.out _ HR6.out.ex (HR6.out.opxi HSX.out)).mono ?_
            rintro e w7 ⟨rfl, hwk, ho⟩
            have HR7 := Lib.hid (HR6.out.goX hwk ho)
            clear hwk ho
            go_wp2_with fail
            refine (HPB.out _ HR7.out.ey (HR7.out.opyi HSY.out)).mono ?_
            rintro e w8 ⟨rfl, hwk, ho⟩
            have HR8 := Lib.hid (HR7.out.goY hwk ho)
            clear hwk ho
            go_wp2_with fail
            go_roundw
            case rel => exact ⟨_, _, c' ++ othS 3 m, d', _, _, A6, c6, Aq, cq, rfl, rfl, rfl, Lib.hid HR8.out.clean, HP', HQ', HC', HD', HF'⟩
            case measure =>
              rw [HR8.out.wx.left, HR8.out.wy.left, HR1.out.wx.left, HR1.out.wy.left]
              have := HMS.out; simp only [List.length_append, List.length_replicate]; omega
          · have HC' := Lib.hid (show (c') ++ (trS (othS 3 (n - m) ++ l) (othS 3 (n' - m) ++ l')).1 = CC by simpa using hC2)
            have HD' := Lib.hid (show (d') ++ (trS (othS 3 (n - m) ++ l) (othS 3 (n' - m) ++ l')).2 = DD by simpa using hD2)
            have HP' := Lib.hid (hP.out)
            have HQ' := Lib.hid (hQ.out)
            clear hC2 hD2 hP hQ hm0 hmn hmn'
            go_wp2_with fail
            refine (HPX.out _ HR1.out.ex (HR1.out.opxi HSX.out)).mono ?_
            rintro e wa ⟨rfl, hb⟩
            have HR2 := Lib.hid (HR1.out.later hb)
            clear hb
            go_wp2_with fail
            obtain ⟨VS, hV⟩ : ∃ V, V = wa.alloc (.cells #[.int .i64 3, .int .i64 n, .string ⟨#[]⟩] 90) := ⟨_, rfl⟩
            rw [← hV]
            have HR3 := Lib.hid (HR2.out.note' hV)
            obtain ⟨S, hS⟩ : ∃ S, S = wa.heap.size := ⟨_, rfl⟩
            rw [← hS] at HR3
            rw [← hS]
            clear hV hS
            refine (HPY.out _ HR3.out.ey (HR3.out.opyi HSY.out)).mono ?_
            rintro e wb ⟨rfl, hb⟩
            have HR4 := Lib.hid (HR3.out.later hb)
            clear hb
            obtain ⟨s0, s1, s2, _, _, _, sz⟩ := three_cell HR4.out.k0
            go_wp2_with fail
            obtain ⟨VT, hV⟩ : ∃ V, V = wb.alloc (.cells #[.int .i64 3, .int .i64 n', .string ⟨#[]⟩] 90) := ⟨_, rfl⟩
            rw [← hV]
            have HR5 := Lib.hid (HR4.out.note' hV)
            obtain ⟨T, hS⟩ : ∃ S, S = wb.heap.size := ⟨_, rfl⟩
            rw [← hS] at HR5
            rw [← hS]
            clear hV hS
            clear s0 s1 s2 sz
            refine (HPA.out _ HR5.out.ex (HR5.out.opxi HSX.out)).mono ?_
            rintro e w6 ⟨rfl, hwk, ho⟩
            have HR6 := Lib.hid (HR5.out.goX hwk ho)
            clear hwk ho
            go_wp2_with fail
            refine (HPB.out _ HR6.out.ey (HR6.out.opyi HSY.out)).mono ?_
            rintro e w7 ⟨rfl, hwk, ho⟩
            have HR7 := Lib.hid (HR6.out.goY hwk ho)
            clear hwk ho
            go_wp2_with fail
            go_roundw
            case rel => exact ⟨_, _, c', d', _, _, Ap, cp, Aq, cq, rfl, rfl, rfl, Lib.hid HR7.out.clean, HP', HQ', HC', HD', HF'⟩
            case measure =>
              rw [HR7.out.wx.left, HR7.out.wy.left, HR1.out.wx.left, HR1.out.wy.left]
              have := HMS.out; simp only [List.length_append, List.length_replicate]; omega
end Go.Proofs.YtbmdepbmejnlkaaDoor
