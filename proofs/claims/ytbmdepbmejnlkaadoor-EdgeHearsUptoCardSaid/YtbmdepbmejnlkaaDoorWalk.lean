/-
  Contracts of the walker's methods part and pass.
-/
import Derived.Test.YtbmdepbmejnlkaaDoorRows
import Derived.Test.YtbmdepbmejnlkaaDoorWalkP
import Derived.Test.YtbmdepbmejnlkaaDoorApplied
import Derived.Test.YtbmdepbmejnlkaaDoorMove
import Derived.Test.YtbmdepbmejnlkaaDoorOnly
import Derived.Test.YtbmdepbmejnlkaaDoorHide
import Derived.Test.YtbmdepbmejnlkaaDoorBld
import Derived.BigRegion
import Derived.BigQuiet
namespace Go.Proofs.YtbmdepbmejnlkaaDoor
open Go.ChangeShapes Go.WideShapes Go.ChangeAt Go.RowKit
set_option maxRecDepth 100000
/-- The walker in block X stands at the m'th step of the k'th part. -/
abbrev WalkAt (w : World) (X : Nat) (A : Option Addr) (n c k m : Nat) : Prop := w.heap[X]? = some (.cells #[.slice A n c, .int .i64 k, .int .i64 m] 126 (0, 0))
theorem any_three {w : World} {B : Nat} {u0 u1 u2 x0 x1 x2 : Value} {t : TypeId} (h : w.heap[B]? = some (.cells #[u0, u1, u2] t (0, 0))) {w' : World}
    (hw : w' = ((w.setCell ⟨B, 0, none⟩ x0).setCell ⟨B, 1, none⟩ x1).setCell ⟨B, 2, none⟩ x2) : w'.heap[B]? = some (.cells #[x0, x1, x2] t (0, 0)) ∧ Only B w w' := by
  have h1 : (w.setCell ⟨B, 0, none⟩ x0).heap[B]? = some (.cells #[x0, u1, u2] t (0, 0)) := by
    rw [heap_setCell_same w B 0 _ _ _ h]
    rfl
  have h2 := three_set1 (x := x1) h1
  have h3 := three_set2 (x := x2) h2
  rw [hw]
  exact ⟨h3, ((Only.set _ _ _).trans (Only.set _ _ _)).trans (Only.set _ _ _)⟩
theorem bOnly {w w1 w2 : World} (h : Below w.heap.size w w1) (o : Only w.heap.size w1 w2) : Below w.heap.size w w2 := bOver h (o.below (Nat.le_refl _) h.size)
section
variable (w : World) (X : Nat) (A : Option Addr) (c k m : Nat) (ps : List PartD)
theorem part_end (n : Nat) (hX : WalkAt w X A n c n m) :
    Calls Tryd.prog 75 #[.pointer (some ⟨X, 0, none⟩)] w fun e w' => e = .returned (.tuple #[partV 0 0 ⟨#[]⟩, .bool false]) ∧ Below w.heap.size w w' := by
  obtain ⟨c0, c1, c2, z0, z1, z2, hl⟩ := three_cell hX
  clear hX
  go_enter Tryd.func75, Tryd.ntmps75
  go_wp2_with fail
  go_quiet (fail)
  go_wp2_with fail
  obtain ⟨W0, hW0⟩ : ∃ W0, W0 = (w.alloc (.cells #[.int .i64 0, .int .i64 0, .string ⟨#[]⟩] 90)).drewN nq := ⟨_, rfl⟩
  have hx : W0.heap[w.heap.size]? = some (.cells #[.int .i64 0, .int .i64 0, .string ⟨#[]⟩] 90 (0, 0)) := by
    rw [hW0]
    exact heap_alloc_new _ _
  have hb : Below w.heap.size w W0 := by
    rw [hW0]
    exact bDrewN (bAlloc (Below.refl _ _) _) _
  rw [← hW0]
  clear hW0
  obtain ⟨W9, hW9⟩ : ∃ W9, W9 = ((W0.setCell ⟨w.heap.size, 0, none⟩ (.int .i64 0)).setCell ⟨w.heap.size, 1, none⟩ (.int .i64 0)).setCell ⟨w.heap.size, 2, none⟩ (.string ⟨#[]⟩) := ⟨_, rfl⟩
  rw [← hW9]
  obtain ⟨a1, a2⟩ := any_three hx hW9
  obtain ⟨r0, r1, r2, _, _, _, _⟩ := three_cell a1
  refine bodyPost_ret (v := .tuple #[partV 0 0 ⟨#[]⟩, .bool false]) (by simp [results, Tryd.results75, go_sem, r0, r1, r2]) rfl ⟨rfl, bOnly hb a2⟩
theorem part_oth (hX : WalkAt w X A ps.length c k m) (hs : OpIn (· < w.heap.size) w A ps) (hk : k < ps.length) (h2 : ps[k].kind ≠ 2) (hm : m ≤ 1048576) (h0 : 0 ≤ ps[k].n) (h1 : ps[k].n ≤ 1048576) :
    Calls Tryd.prog 75 #[.pointer (some ⟨X, 0, none⟩)] w fun e w' => e = .returned (.tuple #[partV ps[k].kind (ps[k].n - m) ps[k].text, .bool true]) ∧ Below w.heap.size w w' := by
  obtain ⟨c0, c1, c2, z0, z1, z2, hl⟩ := three_cell hX
  obtain ⟨b, o, rfl, hbs, g0, g1, g2⟩ := OpIn.at_ hs hk
  generalize ps[k] = p at *
  obtain ⟨q, n, s⟩ := p
  dsimp only at *
  have e2 : (q == 2) = false := by simpa using h2
  have hw : wrap64 (n - (m : Int)) = n - m := wrap64_in (by omega) (by omega)
  clear hX hs h2
  go_enter Tryd.func75, Tryd.ntmps75
  go_wp2_with fail
  go_quiet (fail)
  go_wp2_with fail
  go_region
  go_wp2_with fail
  obtain ⟨W1, hW1⟩ : ∃ W1, W1 = (w.alloc (.cells #[.int .i64 0, .int .i64 0, .string ⟨#[]⟩] 90)).drewN (nq + 1) := ⟨_, rfl⟩
  have hz1 : W1.heap.size = w.heap.size + 1 := by
    rw [hW1]
    exact Array.size_push ..
  have hx1 : W1.heap[w.heap.size]? = some (.cells #[.int .i64 0, .int .i64 0, .string ⟨#[]⟩] 90 (0, 0)) := by
    rw [hW1]
    exact heap_alloc_new _ _
  have hb1 : Below w.heap.size w W1 := by
    rw [hW1]
    exact bDrewN (bAlloc (Below.refl _ _) _) _
  rw [← hW1]
  obtain ⟨W3, hW3⟩ : ∃ W3, W3 = W1.alloc (.cells #[.int .i64 q, .int .i64 n, .string s] 90) := ⟨_, rfl⟩
  have hb3 : Below W1.heap.size W1 W3 := by
    rw [hW3]
    exact bAlloc (Below.refl _ _) _
  have hb := bThen hb1 hb3
  have hx := (hb3.block w.heap.size (by omega)).trans hx1
  have hy : W3.heap[w.heap.size + 1]? = some (.cells #[.int .i64 q, .int .i64 n, .string s] 90 (0, 0)) := by
    rw [hW3, ← hz1]
    exact heap_alloc_new _ _
  have hz : W3.heap.size = w.heap.size + 2 := by
    rw [hW3, World.size_alloc, hz1]
  obtain ⟨B, hB⟩ : ∃ B, B = w.heap.size + 1 := ⟨_, rfl⟩
  rw [← hW3, ← hB]
  rw [← hB] at hy
  have c2' := (hb.cell (p := ⟨X, 2, none⟩) hl).trans c2
  have z2' := (hb.frozen (p := ⟨X, 2, none⟩) hl).trans z2
  obtain ⟨y0, y1, y2, y3, y4, y5, hBl⟩ := three_cell hy
  obtain ⟨r0, r1, r2, r3, r4, r5, hRl⟩ := three_cell hx
  have hBr : w.heap.size < B := by omega
  have hXB : X < B := by omega
  have n1 : ¬ w.heap.size = B := by omega
  have n2 : ¬ B = w.heap.size := by omega
  clear hW3 c0 c1 c2 z0 z1 z2 g0 g1 g2 hW1 hx1 hb1 hb3 hz1 hB hz
  refine wp_region_still_tail 8 (by kernel_rfl) (by kernel_rfl) ?_
  simp only [List.take_succ_cons, List.take_zero, List.drop_succ_cons, List.drop_zero, mk_drew]
  repeat still_step
  refine wpStill_nil ?_
  go_wp2_with fail
  obtain ⟨W5, hW5⟩ : ∃ W5, W5 = W3.setCell ⟨B, 1, none⟩ (.int .i64 (n - (m : Int))) := ⟨_, rfl⟩
  rw [← hW5]
  have o5 : Only B W3 W5 := by
    rw [hW5]
    exact Only.set _ _ _
  have hb5 := bOver hb (o5.below (Nat.le_of_lt hBr) hb.size)
  have hx5 := (o5.block w.heap.size hRl n1).trans hx
  obtain ⟨W9, hW9⟩ : ∃ W9, W9 = ((W5.setCell ⟨w.heap.size, 0, none⟩ (.int .i64 q)).setCell ⟨w.heap.size, 1, none⟩ (.int .i64 (n - (m : Int)))).setCell ⟨w.heap.size, 2, none⟩ (.string s) := ⟨_, rfl⟩
  rw [← hW9]
  obtain ⟨a1, a2⟩ := any_three hx5 hW9
  obtain ⟨x0, x1, x2, _, _, _, _⟩ := three_cell a1
  clear r0 r1 r2
  refine bodyPost_ret (v := .tuple #[partV q (n - (m : Int)) s, .bool true]) (by simp [results, Tryd.results75, go_sem, x0, x1, x2]) rfl ⟨rfl, (bOnly hb5 a2).drew⟩
theorem part_ins (hX : WalkAt w X A ps.length c k m) (hs : OpIn (· < w.heap.size) w A ps) (hk : k < ps.length) (h2 : ps[k].kind = 2) (ht : ps[k].text.size ≤ 1048576) (hm : m < (runesOf ps[k].text).length) :
    Calls Tryd.prog 75 #[.pointer (some ⟨X, 0, none⟩)] w fun e w' => e = .returned (.tuple #[partV ps[k].kind ps[k].n (runesBytes ((runesOf ps[k].text).drop m)), .bool true]) ∧ Below w.heap.size w w' := by
  obtain ⟨c0, c1, c2, z0, z1, z2, hl⟩ := three_cell hX
  obtain ⟨b, o, rfl, hbs, g0, g1, g2⟩ := OpIn.at_ hs hk
  generalize ps[k] = p at *
  obtain ⟨q, n, s⟩ := p
  dsimp only at *
  subst h2
  have hrl := runesOf_length s
  have hcv := fun wx => convRunes (w := wx) ht
  rw [← hrl] at hcv
  have hrc : (runesOf s).length ≤ 1048576 := by
    have := Lib.runeCount_le s
    omega
  have HRN := Lib.hid (fun (w : World) n => RunesAt.new w s n 21)
  clear hrl
  generalize runesOf s = R at *
  clear hX hs
  go_enter Tryd.func75, Tryd.ntmps75
  go_wp2_with fail
  go_quiet (fail)
  go_wp2_with fail
  go_region
  go_wp2_with fail
  obtain ⟨W1, hW1⟩ : ∃ W1, W1 = (w.alloc (.cells #[.int .i64 0, .int .i64 0, .string ⟨#[]⟩] 90)).drewN (nq + 1) := ⟨_, rfl⟩
  have hz1 : W1.heap.size = w.heap.size + 1 := by
    rw [hW1]
    exact Array.size_push ..
  have hx1 : W1.heap[w.heap.size]? = some (.cells #[.int .i64 0, .int .i64 0, .string ⟨#[]⟩] 90 (0, 0)) := by
    rw [hW1]
    exact heap_alloc_new _ _
  have hb1 : Below w.heap.size w W1 := by
    rw [hW1]
    exact bDrewN (bAlloc (Below.refl _ _) _) _
  rw [← hW1]
  obtain ⟨W3, hW3⟩ : ∃ W3, W3 = W1.alloc (.cells #[.int .i64 2, .int .i64 n, .string s] 90) := ⟨_, rfl⟩
  have hb3 : Below W1.heap.size W1 W3 := by
    rw [hW3]
    exact bAlloc (Below.refl _ _) _
  have hb := bThen hb1 hb3
  have hx := (hb3.block w.heap.size (by omega)).trans hx1
  have hy : W3.heap[w.heap.size + 1]? = some (.cells #[.int .i64 2, .int .i64 n, .string s] 90 (0, 0)) := by
    rw [hW3, ← hz1]
    exact heap_alloc_new _ _
  have hz : W3.heap.size = w.heap.size + 2 := by
    rw [hW3, World.size_alloc, hz1]
  obtain ⟨B, hB⟩ : ∃ B, B = w.heap.size + 1 := ⟨_, rfl⟩
  rw [← hW3, ← hB]
  rw [← hB] at hy
  have c2' := (hb.cell (p := ⟨X, 2, none⟩) hl).trans c2
  have z2' := (hb.frozen (p := ⟨X, 2, none⟩) hl).trans z2
  obtain ⟨y0, y1, y2, y3, y4, y5, hBl⟩ := three_cell hy
  obtain ⟨r0, r1, r2, r3, r4, r5, hRl⟩ := three_cell hx
  have hBr : w.heap.size < B := by omega
  have hXB : X < B := by omega
  have n1 : ¬ w.heap.size = B := by omega
  have n2 : ¬ B = w.heap.size := by omega
  clear hW3 c0 c1 c2 z0 z1 z2 g0 g1 g2 hW1 hx1 hb1 hb3 hz1 hB hz
  have hpc := convPiece (HRN.out W3 (grownCap W3.drew R.length 0 21 - R.length)).drew.drew m (R.length - m) (grownCap W3.drew R.length 0 21 - m) (by omega)
  rw [List.take_of_length_le (show (R.drop m).length ≤ R.length - m by rw [List.length_drop]; exact Nat.le_refl _)] at hpc
  have hgc := grownCap_ge W3.drew R.length 0 21
  have hB3 : Below W3.heap.size W3 (W3.alloc (.cells (Conv.runesFrom s s.size 0 #[] ++ Array.replicate (grownCap W3.drew R.length 0 21 - R.length) (.int .i32 0)) 21)).drew.drew := (bAlloc (Below.refl _ _) _).drew.drew
  have c2'' := (hB3.cell (p := ⟨X, 2, none⟩) (Nat.lt_trans hXB hBl)).trans c2'
  generalize hpi : runesBytes (R.drop m) = piece at hpc
  have HPI := Lib.hid hpi
  clear hpi
  have hne : ¬ grownCap W3.drew R.length 0 21 = m := by omega
  go_region
  go_wp2_with fail
  rw [HPI.out]
  clear hcv hpc hgc hB3 c2''
  obtain ⟨W5, hW5⟩ : ∃ W5, W5 = W3.setCell ⟨B, 2, none⟩ (.string piece) := ⟨_, rfl⟩
  rw [← hW5]
  have o5 : Only B W3 W5 := by
    rw [hW5]
    exact Only.set _ _ _
  have hb5 := bOver hb (o5.below (Nat.le_of_lt hBr) hb.size)
  have hx5 := (o5.block w.heap.size hRl n1).trans hx
  obtain ⟨W9, hW9⟩ : ∃ W9, W9 = ((W5.setCell ⟨w.heap.size, 0, none⟩ (.int .i64 2)).setCell ⟨w.heap.size, 1, none⟩ (.int .i64 n)).setCell ⟨w.heap.size, 2, none⟩ (.string piece) := ⟨_, rfl⟩
  rw [← hW9]
  obtain ⟨a1, a2⟩ := any_three hx5 hW9
  have hb9 := bOnly hb5 a2
  have hR9 : w.heap.size < W9.heap.size := (three_cell a1).2.2.2.2.2.2
  obtain ⟨WZ, hWZ⟩ : ∃ WZ, WZ = (W9.alloc (.cells (Conv.runesFrom s s.size 0 #[] ++ Array.replicate (grownCap W3.drew R.length 0 21 - R.length) (.int .i32 0)) 21)).drew.drew := ⟨_, rfl⟩
  rw [← hWZ]
  have hbz : Below W9.heap.size W9 WZ := by
    rw [hWZ]
    exact (bAlloc (Below.refl _ _) _).drew.drew
  obtain ⟨x0, x1, x2, _, _, _, _⟩ := three_cell ((hbz.block _ hR9).trans a1)
  clear r0 r1 r2 hWZ
  refine bodyPost_ret (v := .tuple #[partV 2 n piece, .bool true]) (by simp [results, Tryd.results75, go_sem, x0, x1, x2]) rfl ⟨rfl, bThen hb9 hbz⟩
end
/-- A method of the walker in block X has brought it to the m'th step of the k'th part. -/
def WalkTo (w : World) (X : Nat) (A : Option Addr) (n c k m : Nat) (w' : World) : Prop := WalkAt w' X A n c k m ∧ Only X w w'
theorem WalkAt.later {w w' : World} {X : Nat} {A : Option Addr} {n c k m : Nat} (h : WalkAt w X A n c k m) (hb : Below w.heap.size w w') : WalkAt w' X A n c k m := (hb.block X (Array.getElem?_eq_some_iff.1 h).1).trans h
section
variable (w : World) (X : Nat) (A : Option Addr) (c k m : Nat)
theorem pass_go (n j sz : Nat) (_hk : k ≤ 1048576) (hm : m ≤ 1048576) (hj : j ≤ 1048576) (hX : WalkAt w X A n c k m) (pk pn : Int) (pt : ByteArray) (b : Bool) (hlt : ((j : Int) == (sz : Int)) = false)
    (HP : Hid (Calls Tryd.prog 75 #[.pointer (some ⟨X, 0, none⟩)] w fun e w' => e = .returned (.tuple #[partV pk pn pt, .bool b]) ∧ Below w.heap.size w w'))
    (HS : Hid (∀ W, Calls Tryd.prog 79 #[partV pk pn pt] W fun e w' => e = .returned (.int .i64 sz) ∧ Below W.heap.size W w')) :
    Calls Tryd.prog 80 #[.pointer (some ⟨X, 0, none⟩), .int .i64 j] w fun e w' => e = .returned (.tuple #[]) ∧ WalkTo w X A n c k (m + j) w' := by
  have HX := Lib.hid hX
  have hXl : X < w.heap.size := (Array.getElem?_eq_some_iff.1 hX).1
  clear hX
  go_enter Tryd.func80, Tryd.ntmps80
  go_wp2_with fail
  refine HP.out.mono ?_
  rintro e w1 ⟨rfl, hb1⟩
  have HX1 := HX.out.later hb1
  obtain ⟨c0, c1, c2, z0, z1, z2, hl⟩ := three_cell HX1
  go_wp2_with fail
  obtain ⟨W2, hW2⟩ : ∃ W2, W2 = (w1.setCell ⟨X, 2, none⟩ (.int .i64 ((m : Int) + (j : Int)))).alloc (.cells #[.int .i64 pk, .int .i64 pn, .string pt] 90) := ⟨_, rfl⟩
  rw [← hW2]
  have HX2 : WalkAt W2 X A n c k (m + j) := by
    rw [hW2]
    refine ((bAlloc (Below.refl _ _) _).block X (by simpa [World.setCell] using hl)).trans ?_
    rw [three_set2 HX1, show ((m + j : Nat) : Int) = (m : Int) + (j : Int) by omega]
  have HO2 : Only X w W2 := by
    rw [hW2]
    exact ((Only.of_below hb1).trans (Only.set _ _ _)).trans (Only.of_below (bAlloc (Below.refl _ _) _))
  clear hW2 c0 c1 c2 z0 z1 z2 hl HX1 hb1
  refine (HS.out W2).mono ?_
  rintro e w3 ⟨rfl, hb3⟩
  have HX3 := HX2.later hb3
  have HO3 := HO2.trans (Only.of_below hb3)
  obtain ⟨c0, c1, c2, z0, z1, z2, hl⟩ := three_cell HX3
  clear HX2 HO2 hb3
  go_wp2_with fail
  exact bodyPost_end (results_none rfl _ _ _) rfl ⟨rfl, HX3, HO3⟩
theorem pass_end (n j sz : Nat) (hk : k ≤ 1048576) (hm : m ≤ 1048576) (hj : j ≤ 1048576) (hX : WalkAt w X A n c k m) (pk pn : Int) (pt : ByteArray) (b : Bool) (hlt : ((j : Int) == (sz : Int)) = true)
    (HP : Hid (Calls Tryd.prog 75 #[.pointer (some ⟨X, 0, none⟩)] w fun e w' => e = .returned (.tuple #[partV pk pn pt, .bool b]) ∧ Below w.heap.size w w'))
    (HS : Hid (∀ W, Calls Tryd.prog 79 #[partV pk pn pt] W fun e w' => e = .returned (.int .i64 sz) ∧ Below W.heap.size W w')) :
    Calls Tryd.prog 80 #[.pointer (some ⟨X, 0, none⟩), .int .i64 j] w fun e w' => e = .returned (.tuple #[]) ∧ WalkTo w X A n c (k + 1) 0 w' := by
  have HX := Lib.hid hX
  have hXl : X < w.heap.size := (Array.getElem?_eq_some_iff.1 hX).1
  clear hX
  go_enter Tryd.func80, Tryd.ntmps80
  go_wp2_with fail
  refine HP.out.mono ?_
  rintro e w1 ⟨rfl, hb1⟩
  have HX1 := HX.out.later hb1
  obtain ⟨c0, c1, c2, z0, z1, z2, hl⟩ := three_cell HX1
  go_wp2_with fail
  obtain ⟨W2, hW2⟩ : ∃ W2, W2 = (w1.setCell ⟨X, 2, none⟩ (.int .i64 ((m : Int) + (j : Int)))).alloc (.cells #[.int .i64 pk, .int .i64 pn, .string pt] 90) := ⟨_, rfl⟩
  rw [← hW2]
  have HX2 : WalkAt W2 X A n c k (m + j) := by
    rw [hW2]
    refine ((bAlloc (Below.refl _ _) _).block X (by simpa [World.setCell] using hl)).trans ?_
    rw [three_set2 HX1, show ((m + j : Nat) : Int) = (m : Int) + (j : Int) by omega]
  have HO2 : Only X w W2 := by
    rw [hW2]
    exact ((Only.of_below hb1).trans (Only.set _ _ _)).trans (Only.of_below (bAlloc (Below.refl _ _) _))
  clear hW2 c0 c1 c2 z0 z1 z2 hl HX1 hb1
  refine (HS.out W2).mono ?_
  rintro e w3 ⟨rfl, hb3⟩
  have HX3 := HX2.later hb3
  have HO3 := HO2.trans (Only.of_below hb3)
  obtain ⟨c0, c1, c2, z0, z1, z2, hl⟩ := three_cell HX3
  clear HX2 HO2 hb3
  go_wp2_with fail
  have h1 := three_set1 (x := .int .i64 ((k : Int) + 1)) HX3
  have h2 := three_set2 (x := .int .i64 0) h1
  exact bodyPost_end (results_none rfl _ _ _) rfl ⟨rfl, by rw [show ((k : Int) + 1) = ((k + 1 : Nat) : Int) by omega] at h2; exact h2, (HO3.trans (Only.set _ _ _)).trans (Only.set _ _ _)⟩
end
end Go.Proofs.YtbmdepbmejnlkaaDoor
