/-
  Contracts of the eye's methods str and ops.
-/
import Derived.Test.YtieofljkgmkaiaaDoorRows
import Derived.Test.YtieofljkgmkaiaaDoorEye
import Derived.Test.YtieofljkgmkaiaaDoorReadM
import Derived.Test.YtieofljkgmkaiaaDoorHide
namespace Go.Proofs.YtieofljkgmkaiaaDoor
open Go.ChangeShapes Go.WideShapes Go.ChangeAt Go.RowKit
set_option maxRecDepth 100000
theorem three_set0 {w : World} {B : Nat} {v u z x : Value} {t : TypeId} (h : w.heap[B]? = some (.cells #[v, u, z] t (0, 0))) : (w.setCell ⟨B, 0, none⟩ x).heap[B]? = some (.cells #[x, u, z] t (0, 0)) := by
  rw [heap_setCell_same w B 0 _ _ _ h]
  rfl
set_option maxHeartbeats 1000000 in
theorem estr_c (w : World) (B : Nat) (bs l : List UInt8) (f : Int) (h : Ey w B bs l f) :
    Calls Tryd.prog 95 #[.pointer (some ⟨B, 0, none⟩)] w fun e w' => e = .returned (.string (readText l f).1) ∧ Ey w' B bs (readText l f).2.1 (readText l f).2.2 ∧ Only B w w' := by
  have hT := Lib.hid (enum_all w B bs l f h)
  have ha := readNum_any l f
  unfold readText
  generalize readNum l f = x at *
  obtain ⟨n, l1, f1⟩ := x
  obtain ⟨lo, hi, len, bad⟩ := ha
  dsimp only at lo hi len bad
  have hbad := Lib.hid bad
  clear bad h hi
  go_enter Tryd.func95, Tryd.ntmps95
  go_wp2_with fail
  refine hT.out.mono ?_
  rintro e w1 ⟨rfl, hr1, ho1⟩
  dsimp only at hr1
  have HR := Lib.hid hr1
  obtain ⟨A, c, a, h1, h2, h3, h4, ⟨h5, h6⟩, h7⟩ := hr1
  have h8 : a + l1.length = bs.length := by
    have := congrArg List.length h3
    rw [List.length_drop] at this
    omega
  obtain ⟨x0, x1, x2, g0, g1, g2, hlt⟩ := three_cell h1
  have HO := Lib.hid h1
  have H7 := Lib.hid h7
  have H3 := Lib.hid h3
  clear h1 h7 h3
  by_cases hn : (l1.length : Int) < n
  · have e1 : decide ((bs.length : Int) - (a : Int) < n) = true := by simp; omega
    obtain rfl : f1 = 0 := by
      rcases Classical.em (f1 = 0) with q | q
      · exact q
      · have := hbad.out q
        omega
    have HE := Lib.hid (show textOf (n, l1, 0) = (⟨#[]⟩, [], 5) from if_pos hn)
    clear hn
    go_wp2_with fail
    go_quiet (fail)
    go_wp2_with fail
    refine (estop_c _ B bs l1 5 ?ey).mono ?_
    case ey => exact HR.out.later (bDrewN (Below.refl _ _) _)
    rintro e w2 ⟨rfl, hr2, ho2⟩
    go_wp2_with fail
    go_ret
    rw [HE.out]
    exact ⟨rfl, hr2, (ho1.trans (Only.of_below (bDrewN (Below.refl _ _) _))).trans ho2⟩
  · have e1 : decide ((bs.length : Int) - (a : Int) < n) = false := by simp; omega
    obtain ⟨m, rfl⟩ : ∃ m : Nat, n = m := ⟨n.toNat, by omega⟩
    have hm : m ≤ l1.length := by omega
    have HE := Lib.hid (show textOf ((m : Int), l1, f1) = (⟨(l1.take m).toArray⟩, l1.drop m, f1) from by
      unfold textOf
      rw [if_neg hn]
      simp)
    have HM := Lib.hid hm
    have hma : (a : Int) + m ≤ bs.length := by omega
    clear hn hm
    go_wp2_with fail
    go_quiet (fail)
    go_wp2_with fail
    refine wp_hide (fun W => W.heap[B]? = some (.cells #[.slice A bs.length c, .int .i64 ((a : Int) + m), .int .i64 f1] 146 (0, 0)) ∧ (∀ k, k < B → W.heap[k]? = w1.heap[k]?) ∧ Only B w1 W) ⟨three_set1 HO.out, fun k hk => Below.heap_setCell _ _ _ _ (Nat.ne_of_lt hk), (Only.of_below (bDrewN (Below.refl _ _) _)).trans (Only.set _ _ _)⟩ ?_
    rintro W ⟨hW1, hW2, hW3⟩
    obtain ⟨y0, y1, y2, k0, k1, k2, hltW⟩ := three_cell hW1
    have HK := Lib.hid hW3
    have H9 := Lib.hid (show Sl (· < B) W 1 A bs.length (bs.map byteV) from H7.out.keep (fun _ x => x) hW2)
    have HX := Lib.hid (show Ey W B bs (l1.drop m) f1 from ⟨A, c, a + m, hW1, by omega, by rw [← H3.out, List.drop_drop], h4, ⟨h5, h6⟩, H9.out⟩)
    clear hW1 hW2 hW3 x0 x1 x2 g0 g1 g2
    have w0 : IntKind.i64.wrap 0 = 0 := by decide
    have w1' : IntKind.i64.wrap (a : Int) = a := by rw [IntKind.wrap_i64]; omega
    have w2' : IntKind.i64.wrap ((a : Int) + m - m) = a := by rw [IntKind.wrap_i64]; omega
    rcases Nat.eq_zero_or_pos m with rfl | hm0
    · have hcv : ∀ nn X c', (convert 47 9 (.slice X 0 c')).run Tryd.prog (W.drewN nn) = .ok (.string ⟨#[]⟩) (W.drewN nn) := fun nn X c' => run_str_of_sl (S := fun _ => True) (bs := []) (W.drewN nn) Tryd.underlying47 Tryd.underlying5 Tryd.underlying9 Sl.nil
      cases A with
      | none =>
        have hz : bs.length = 0 := by
          rcases Nat.eq_zero_or_pos bs.length with z | z
          · exact z
          · obtain ⟨b, o, e, _⟩ := H9.out.open_ z
            cases e
        obtain rfl : a = 0 := by omega
        go_wp2_with fail
        go_quiet (fail)
        go_wp2_with fail
        go_ret
        rw [HE.out]
        exact ⟨by simp, HX.out.later (bDrewN (Below.refl _ _) _), (ho1.trans HK.out).trans (Only.of_below (bDrewN (Below.refl _ _) _))⟩
      | some ad =>
        have hba : (a : Int) ≤ c := by omega
        by_cases hca : c = a
        all_goals
          go_wp2_with fail
          go_quiet (fail)
          go_wp2_with fail
          go_ret
          rw [HE.out]
          exact ⟨by simp, HX.out.later (bDrewN (Below.refl _ _) _), (ho1.trans HK.out).trans (Only.of_below (bDrewN (Below.refl _ _) _))⟩
    · have hml := HM.out
      obtain ⟨b, o, rfl, hbB, _⟩ := H9.out.open_ (by omega)
      have hcv : ∀ nn c', (convert 47 9 (.slice (some ⟨b, o + a, none⟩) m c')).run Tryd.prog (W.drewN nn) = .ok (.string ⟨(l1.take m).toArray⟩) (W.drewN nn) := by
        intro nn c'
        refine run_str_of_sl (S := (· < B)) (W.drewN nn) Tryd.underlying47 Tryd.underlying5 Tryd.underlying9 ?_
        have := Sl.drop (k := a) H9.out h2
        rw [H3.out] at this
        have h2' : Sl (· < B) W 1 (some ⟨b, o + a, none⟩) l1.length (l1.map byteV) := by
          rw [Option.map_some, Go.WideShapes.add_plain] at this
          exact this
        exact (Sl.take h2' hml).keep (fun _ x => x) (fun _ _ => rfl)
      have hac : ¬ c = a := by omega
      have hba : (a : Int) ≤ (a : Int) + m := by omega
      have hbc : (a : Int) + m ≤ c := by omega
      go_wp2_with fail
      go_quiet (fail)
      go_wp2_with fail
      all_goals
        go_ret
        rw [HE.out]
        exact ⟨by simp, HX.out.later (bDrewN (Below.refl _ _) _), (ho1.trans HK.out).trans (Only.of_below (bDrewN (Below.refl _ _) _))⟩
theorem Ey.grown {w w' : World} {B P j : Nat} {u : Value} {o : Obj} {bs l : List UInt8} {f : Int} {row : Option Nat} (h : Ey w B bs l f) (hP : B < P) (hg : ((w.setCell ⟨P, j, none⟩ u).alloc o).grownBy w' row) (hr : ∀ g, row = some g → B < g) : Ey w' B bs l f := by
  refine h.keep fun k hk => ?_
  have hlt := h.lt
  rw [hg.block k (by simp [World.setCell]; omega) (fun e => by have := hr k e.symm; omega), heap_alloc_old _ _ _ (by simp [World.setCell]; omega)]
  exact Below.heap_setCell _ _ _ _ (show k ≠ P by omega)
/-- A call that hands back these parts in memory of its own, and leaves the eye so. -/
def EyOp (B : Nat) (bs : List UInt8) (w : World) (x : List PartD × List UInt8 × Int) (e : Ending) (w' : World) : Prop :=
  ∃ A c, e = .returned (.slice A x.1.length c) ∧ w'.ownsRow w.heap.size 104 3 (.slice A x.1.length c) x.1.length (opCells x.1) ∧ Ey w' B bs x.2.1 x.2.2 ∧ Only B w w'
set_option maxHeartbeats 2000000 in
theorem eops_c (w : World) (B : Nat) (bs l : List UInt8) (f : Int) (h : Ey w B bs l f) (hl : l.length ≤ 50000) :
    Calls Tryd.prog 94 #[.pointer (some ⟨B, 0, none⟩)] w (EyOp B bs w (readOp l f)) := by
  obtain ⟨i0, hi, hz0, hz1, hz2⟩ := info_parts infoPart
  have hlen := (op_len l f).1
  have hT := Lib.hid (enum_all w B bs l f h)
  have ha := readNum_any l f
  have hBw := h.lt
  have HST := Lib.hid (show OpLeft (readOp l f) [] (readNum l f).1.toNat (readNum l f).2.1 (readNum l f).2.2 from OpLeft.start l f)
  generalize readNum l f = x at *
  obtain ⟨n, l1, f1⟩ := x
  obtain ⟨lo, hi2, len, bad⟩ := ha
  dsimp only at lo hi2 len bad HST
  obtain ⟨m, rfl⟩ : ∃ m : Nat, n = m := ⟨n.toNat, by omega⟩
  rw [Int.toNat_natCast] at HST
  generalize readOp l f = r at *
  have HM := Lib.hid (show ∃ z : Int, z = numTop ∧ (m : Int) < z from ⟨_, rfl, hi2⟩)
  clear bad h hi2
  go_enter Tryd.func94, Tryd.ntmps94
  go_wp2_with fail
  refine hT.out.mono ?_
  rintro e w1 ⟨rfl, hr1, ho1⟩
  dsimp only at hr1
  have HR1 := Lib.hid hr1
  clear hr1
  go_wp2_with fail
  go_loopw [4, 5] (fun o iv wr => ∃ (i k : Nat) (acc : List PartD) (l2 : List UInt8) (f2 : Int) (A : Option Addr) (c : Nat), i + k = m ∧ iv = .int .i64 i ∧ o = .slice A acc.length c ∧ wr.ownsRow w.heap.size 104 3 (.slice A acc.length c) acc.length (opCells acc) ∧ Hid (OpLeft r acc k l2 f2) ∧ Ey wr B bs l2 f2 ∧ Only B w wr)
    (fun _ iv _ => m - (intOf iv).toNat)
  case atStart => exact ⟨0, m, [], l1, f1, none, 0, by omega, rfl, rfl, World.ownsRow_nil _ _ _ _, HST, HR1.out, ho1⟩
  case round =>
    obtain ⟨i, k, acc, l2, f2, A, c, hik, rfl, rfl, hown, hst, hrd, hon⟩ := hrel
    have HRd := Lib.hid hrd
    have HOn := Lib.hid hon
    have hacc := hst.out.len
    obtain ⟨Ar, cr, ar, h1, h2, h3, h4, h5, h6⟩ := hrd
    obtain ⟨x0, x1, x2, g0, g1, g2, hlt⟩ := three_cell h1
    clear h1 h4 h2 hon h3 h5 h6
    by_cases hk0 : k = 0
    · subst hk0
      have HX := Lib.hid (hst.out.stop (.inl rfl))
      have e1 : decide ((i : Int) < (m : Int)) = false := by simp; omega
      clear hst
      go_wp2_with fail
      go_ret
      rw [HX.out]
      exact ⟨A, c, rfl, hown, HRd.out, HOn.out⟩
    · by_cases hf : f2 = 0
      · subst hf
        obtain ⟨j, rfl⟩ : ∃ j, k = j + 1 := ⟨k - 1, by omega⟩
        have e1 : decide ((i : Int) < (m : Int)) = true := by simp; omega
        obtain ⟨WA, hWA⟩ : ∃ WA, WA = wr.alloc (.cells #[.int .i64 0, .int .i64 0, .string ⟨#[]⟩] 104) := ⟨_, rfl⟩
        have HA := Lib.hid (show Below wr.heap.size wr WA by rw [hWA]; exact bAlloc (Below.refl _ _) _)
        have hWz : WA.heap.size = wr.heap.size + 1 := by rw [hWA]; simp
        have HWP := Lib.hid (show WA.heap[wr.heap.size]? = some (.cells #[.int .i64 0, .int .i64 0, .string ⟨#[]⟩] 104 (0, 0)) by rw [hWA]; show (wr.heap.push _)[wr.heap.size]? = _; simp)
        have HWA := Lib.hid hWA
        clear hWA
        have HRA := Lib.hid (HRd.out.later HA.out)
        have HT2 := Lib.hid (enum_all WA B bs l2 0 HRA.out)
        obtain ⟨⟨kd, l3, f3⟩, hy⟩ : ∃ y, y = readNum l2 0 := ⟨_, rfl⟩
        rw [← hy] at HT2
        have HP := Lib.hid (readPart_eq hy.symm)
        clear hy
        have HO0 := Lib.hid hown
        have HNE := Lib.hid (show (Value.slice A acc.length c).ownBlock ≠ some wr.heap.size from fun q => by have := (hown.lt _ q).2; omega)
        have HWn := Lib.hid (HOn.out.size)
        have hPB : wr.heap.size ≠ B := by omega
        clear hown hk0
        go_wp2_with fail
        rw [← HWA.out]
        go_wp2_with fail
        refine HT2.out.mono ?_
        rintro e w2 ⟨rfl, hr2, ho2⟩
        dsimp only at hr2
        have hw2 := ho2.size
        have HR2 := Lib.hid hr2
        have HO2 := Lib.hid ho2
        have HWP2 := Lib.hid ((ho2.block wr.heap.size (by omega) hPB).trans HWP.out)
        obtain ⟨y0, y1, y2, z0, z1, z2, hPl⟩ := three_cell HWP2.out
        clear hr2 ho2 HT2
        have HOA := Lib.hid (own_only (HO0.out.kept (row := none) ⟨HA.out.os, HA.out.tape, HA.out.output, HA.out.size, fun k hk _ => HA.out.block k hk⟩ (by cases (Value.slice A acc.length c).ownBlock <;> simp)) HO2.out hBw)
        obtain ⟨WB, hWB⟩ : ∃ WB, WB = w2.setCell ⟨wr.heap.size, 0, none⟩ (.int .i64 kd) := ⟨_, rfl⟩
        have HWB := Lib.hid (show WB.heap[wr.heap.size]? = some (.cells #[.int .i64 kd, .int .i64 0, .string ⟨#[]⟩] 104 (0, 0)) by rw [hWB]; exact three_set0 HWP2.out)
        have hWBz : WB.heap.size = w2.heap.size := by rw [hWB]; simp [World.setCell]
        have HRB := Lib.hid (show Ey WB B bs l3 f3 by rw [hWB]; exact HR2.out.keep (fun k hk => Below.heap_setCell _ _ _ _ (show k ≠ wr.heap.size by omega)))
        have HOWB := Lib.hid (show Only B w WB by rw [hWB]; exact ((HOn.out.trans (Only.of_below HA.out)).trans HO2.out).put HWn.out)
        have HOB := Lib.hid (show WB.ownsRow w.heap.size 104 3 (.slice A acc.length c) acc.length (opCells acc) by rw [hWB]; exact ownsRow_setCell_other HOA.out (a := ⟨wr.heap.size, 0, none⟩) HNE.out _)
        have HWBe := Lib.hid hWB
        clear hWB
        by_cases hk2 : kd = 2
        · subst hk2
          rw [if_pos rfl] at HP
          have HT3 := Lib.hid (estr_c WB B bs l3 f3 HRB.out)
          generalize readText l3 f3 = yy at *
          obtain ⟨s, l4, f4⟩ := yy
          dsimp only at HP
          go_wp2_with fail
          rw [← HWBe.out]
          refine HT3.out.mono ?_
          rintro e w3 ⟨rfl, hr3, ho3⟩
          try dsimp only at hr3
          have HR3 := Lib.hid hr3
          have HO3 := Lib.hid ho3
          have hw3 := ho3.size
          obtain ⟨q0, q1, q2, t0, t1, t2, hq⟩ := three_cell ((ho3.block wr.heap.size (by omega) hPB).trans HWB.out)
          have HOW := Lib.hid (own_only HOB.out ho3 hBw)
          have HX := Lib.hid ((ownsRow_setCell_other HOW.out (a := ⟨wr.heap.size, 2, none⟩) HNE.out (.string s)).alloc (.cells #[.int .i64 2, .int .i64 0, .string s] 104))
          have HS0 := Sl.new (S := fun _ => True) (w3.setCell ⟨wr.heap.size, 2, none⟩ (.string s)) [.int .i64 2, .int .i64 0, .string s] 104 3 1 rfl trivial
          rw [show (w3.setCell ⟨wr.heap.size, 2, none⟩ (.string s)).heap.size = w3.heap.size by simp [World.setCell]] at HS0
          have HS := Lib.hid HS0
          clear HS0
          have HN := Lib.hid (hst.out.next HP.out)
          have HW := Lib.hid (show wrap64 ((i : Int) + 1) = (i : Int) + 1 from by have := wrap_small (i + 1) m (by omega) HM.out; push_cast at this; exact this)
          clear hr3 ho3 hst
          go_wp2_with (at_builtin; refine wpList_append_sl _ rfl _ _ 33 rfl w.heap.size 104 i0 (.agg #[.int .i64 0, .int .i64 0, .string ⟨#[]⟩]) 3 32 Tryd.underlying33 hi hz0 hz1 hz2 rfl (by decide) _ _ _ rfl HX.out _ _ _ _ _ rfl HS.out ?c1 ?c2 ?c3 ?c4 ?_)
          case c1 => simp [Value.oneCell']
          case c2 => unfold maxLen; omega
          case c3 => omega
          case c4 => have := HWn.out; simp [World.setCell]; omega
          intro A' c' w4 hown' hgrow hat
          have HR4 := Lib.hid (HR3.out.grown (P := wr.heap.size) hlt hgrow (fun g hg => by have := (HO0.out.lt g hg).1; omega))
          have HO4 := Lib.hid ((HOWB.out.trans HO3.out).put (P := wr.heap.size) HWn.out |>.alloc _ |>.grown hgrow (fun g hg => (HO0.out.lt g hg).1))
          clear hgrow
          go_wp2_with fail
          go_roundw
          case rel => exact ⟨i + 1, j, acc ++ [⟨2, 0, s⟩], l4, f4, A', c', by omega, by rw [HW.out]; rfl, by rw [List.length_append]; rfl, by rw [opCells_snocR, List.length_append]; exact hown', HN, HR4.out, HO4.out⟩
          case measure => rw [HW.out]; simp [intOf]; omega
        · rw [if_neg hk2] at HP
          have e2 : (kd == 2) = false := by simpa using hk2
          have HT3 := Lib.hid (enum_all WB B bs l3 f3 HRB.out)
          generalize readNum l3 f3 = yy at *
          obtain ⟨s, l4, f4⟩ := yy
          dsimp only at HP
          clear hk2
          go_wp2_with fail
          rw [← HWBe.out]
          refine HT3.out.mono ?_
          rintro e w3 ⟨rfl, hr3, ho3⟩
          try dsimp only at hr3
          have HR3 := Lib.hid hr3
          have HO3 := Lib.hid ho3
          have hw3 := ho3.size
          obtain ⟨q0, q1, q2, t0, t1, t2, hq⟩ := three_cell ((ho3.block wr.heap.size (by omega) hPB).trans HWB.out)
          have HOW := Lib.hid (own_only HOB.out ho3 hBw)
          have HX := Lib.hid ((ownsRow_setCell_other HOW.out (a := ⟨wr.heap.size, 1, none⟩) HNE.out (.int .i64 s)).alloc (.cells #[.int .i64 kd, .int .i64 s, .string ⟨#[]⟩] 104))
          have HS0 := Sl.new (S := fun _ => True) (w3.setCell ⟨wr.heap.size, 1, none⟩ (.int .i64 s)) [.int .i64 kd, .int .i64 s, .string ⟨#[]⟩] 104 3 1 rfl trivial
          rw [show (w3.setCell ⟨wr.heap.size, 1, none⟩ (.int .i64 s)).heap.size = w3.heap.size by simp [World.setCell]] at HS0
          have HS := Lib.hid HS0
          clear HS0
          have HN := Lib.hid (hst.out.next HP.out)
          have HW := Lib.hid (show wrap64 ((i : Int) + 1) = (i : Int) + 1 from by have := wrap_small (i + 1) m (by omega) HM.out; push_cast at this; exact this)
          clear hr3 ho3 hst
          go_wp2_with (at_builtin; refine wpList_append_sl _ rfl _ _ 33 rfl w.heap.size 104 i0 (.agg #[.int .i64 0, .int .i64 0, .string ⟨#[]⟩]) 3 32 Tryd.underlying33 hi hz0 hz1 hz2 rfl (by decide) _ _ _ rfl HX.out _ _ _ _ _ rfl HS.out ?c1 ?c2 ?c3 ?c4 ?_)
          case c1 => simp [Value.oneCell']
          case c2 => unfold maxLen; omega
          case c3 => omega
          case c4 => have := HWn.out; simp [World.setCell]; omega
          intro A' c' w4 hown' hgrow hat
          have HR4 := Lib.hid (HR3.out.grown (P := wr.heap.size) hlt hgrow (fun g hg => by have := (HO0.out.lt g hg).1; omega))
          have HO4 := Lib.hid ((HOWB.out.trans HO3.out).put (P := wr.heap.size) HWn.out |>.alloc _ |>.grown hgrow (fun g hg => (HO0.out.lt g hg).1))
          clear hgrow
          go_wp2_with fail
          go_roundw
          case rel => exact ⟨i + 1, j, acc ++ [⟨kd, s, ⟨#[]⟩⟩], l4, f4, A', c', by omega, by rw [HW.out]; rfl, by rw [List.length_append]; rfl, by rw [opCells_snocR, List.length_append]; exact hown', HN, HR4.out, HO4.out⟩
          case measure => rw [HW.out]; simp [intOf]; omega
      · have HX := Lib.hid (hst.out.stop (.inr hf))
        have e0 : (f2 == 0) = false := by simpa using hf
        have e1 : decide ((i : Int) < (m : Int)) = true := by simp; omega
        clear hst hf
        go_wp2_with fail
        go_ret
        rw [HX.out]
        exact ⟨A, c, rfl, hown, HRd.out, HOn.out⟩
end Go.Proofs.YtieofljkgmkaiaaDoor
