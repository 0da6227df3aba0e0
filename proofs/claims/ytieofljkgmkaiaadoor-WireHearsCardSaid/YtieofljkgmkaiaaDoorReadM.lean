/-
  Contracts of the reader's methods text, op, end.
-/
import Derived.Test.YtieofljkgmkaiaaDoorRows
import Derived.Test.YtieofljkgmkaiaaDoorReader
import Derived.Test.YtieofljkgmkaiaaDoorOpCopy
namespace Go.Proofs.YtieofljkgmkaiaaDoor
open Go.ChangeShapes Go.WideShapes Go.ChangeAt Go.RowKit
set_option maxRecDepth 100000
theorem Rd.skip {w : World} {B : Nat} {l : List UInt8} {f : Int} {v : Value} {A A' : Option Addr} {c c' m : Nat} (ho : w.heap[B]? = some (.cells #[v, .int .i64 f] 141 (0, 0))) (hs : Sl (· < B) w 1 A l.length (l.map byteV)) (hm : m ≤ l.length) (h : l.length ≤ c) (hc : c ≤ 9223372036854775807)
    (hA : m < l.length → A' = A.map (fun x => x.add m)) (hc' : c' + m = c) {n : Nat} (hn : n + m = l.length) : Rd (w.setCell ⟨B, 0, none⟩ (.slice A' n c')) B (l.drop m) f := by
  have hl : (l.drop m).length = n := by rw [List.length_drop]; omega
  refine ⟨A', c', by rw [hl]; exact two_set0 ho, ⟨by omega, by omega⟩, ?_⟩
  by_cases q : m < l.length
  · rw [hA q]
    exact (Sl.drop hs hm).keep (fun _ x => x) (fun b hb => Below.heap_setCell _ _ _ _ (Nat.ne_of_lt hb))
  · rw [hl, show n = 0 by omega, show l.drop m = [] from List.drop_eq_nil_of_le (by omega)]
    exact Sl.nil
set_option maxHeartbeats 1000000 in
theorem rtext_c (w : World) (B : Nat) (l : List UInt8) (f : Int) (h : Rd w B l f) :
    Calls Tryd.prog 129 #[.pointer (some ⟨B, 0, none⟩)] w fun e w' => e = .returned (.string (readText l f).1) ∧ Rd w' B (readText l f).2.1 (readText l f).2.2 ∧ Only B w w' := by
  have hT := Lib.hid (rtake_all w B l f h)
  have ha := readNum_any l f
  unfold readText
  generalize readNum l f = x at *
  obtain ⟨n, l1, f1⟩ := x
  obtain ⟨lo, hi, len, bad⟩ := ha
  dsimp only at lo hi len bad
  have hbad := Lib.hid bad
  clear bad h
  go_enter Tryd.func129, Tryd.ntmps129
  go_wp2_with fail
  refine hT.out.mono ?_
  rintro e w1 ⟨rfl, hr1, ho1⟩
  dsimp only at hr1
  have HR := Lib.hid hr1
  obtain ⟨A, c, h1, ⟨h2, h3⟩, h4⟩ := hr1
  obtain ⟨x0, x1, g0, g1, hlt⟩ := two_cell h1
  have HO := Lib.hid h1
  clear h1
  by_cases hn : (l1.length : Int) < n
  · have e1 : decide ((l1.length : Int) < n) = true := by simpa using hn
    obtain rfl : f1 = 0 := by
      rcases Classical.em (f1 = 0) with q | q
      · exact q
      · have := hbad.out q
        omega
    have HE := Lib.hid (show textOf (n, l1, 0) = (⟨#[]⟩, [], 5) from if_pos hn)
    clear hn
    go_wp2_with fail
    refine (rfail_c w1 B l1 5 HR.out).mono ?_
    rintro e w2 ⟨rfl, hr2, ho2⟩
    go_wp2_with fail
    go_ret
    rw [HE.out]
    exact ⟨rfl, hr2, ho1.trans ho2⟩
  · have e1 : decide ((l1.length : Int) < n) = false := by simpa using hn
    obtain ⟨m, rfl⟩ : ∃ m : Nat, n = m := ⟨n.toNat, by omega⟩
    have hm : m ≤ l1.length := by omega
    have HE := Lib.hid (show textOf ((m : Int), l1, f1) = (⟨(l1.take m).toArray⟩, l1.drop m, f1) from by
      unfold textOf
      rw [if_neg hn]
      simp)
    have hcv := run_str_of_sl (c := c) w1 Tryd.underlying47 Tryd.underlying5 Tryd.underlying9 (Sl.take h4 hm)
    have HS := Lib.hid h4
    have HZ := Lib.hid (show A = none → l1.length = 0 ∧ m = 0 from by
      intro q
      subst q
      rcases Nat.eq_zero_or_pos l1.length with z | z
      · omega
      · obtain ⟨b, o, e, _⟩ := h4.open_ z
        cases e)
    generalize (l1.take m).toArray = ba at *
    have hmc : (m : Int) ≤ c := by omega
    have hgr : decide ((c : Int) < (m : Int)) = false := by simp; omega
    clear hn h4 hi
    cases A with
    | none =>
      obtain ⟨z1, rfl⟩ := HZ.out rfl
      go_wp2_with fail
      go_ret
      rw [HE.out]
      exact ⟨by simp, Rd.skip HO.out HS.out (by omega) h2 h3 (by intro q; rfl) (by omega) (by omega), ho1.trans (Only.set _ _ _)⟩
    | some ad =>
      go_wp2_with fail
      all_goals
        go_ret
        rw [HE.out]
        exact ⟨by simp, Rd.skip HO.out HS.out hm h2 h3 (by intro q; first | rfl | (exfalso; omega)) (by omega) (by omega), ho1.trans (Only.set _ _ _)⟩
/-- What is wrong at the end. -/
def endFault (l : List UInt8) (f : Int) : Int := if f = 0 ∧ l ≠ [] then 4 else f
theorem rend_c (w : World) (B : Nat) (l : List UInt8) (f : Int) (h : Rd w B l f) :
    Calls Tryd.prog 92 #[.pointer (some ⟨B, 0, none⟩)] w fun e w' => e = .returned (.tuple #[]) ∧ (∃ l', Rd w' B l' (endFault l f)) ∧ Only B w w' := by
  have HR := Lib.hid h
  obtain ⟨A, c, h1, ⟨h2, h3⟩, h4⟩ := h
  obtain ⟨x0, x1, g0, g1, hlt⟩ := two_cell h1
  clear h1 h4
  by_cases hf : f = 0
  · subst hf
    cases l with
    | nil =>
      go_enter Tryd.func92, Tryd.ntmps92
      go_wp2_with fail
      refine bodyPost_end (results_none rfl _ _ _) rfl ⟨rfl, ⟨[], ?_⟩, Only.refl _ _⟩
      rw [show endFault [] 0 = 0 from rfl]
      exact HR.out
    | cons ch t =>
      rw [List.length_cons] at x0 h2
      go_enter Tryd.func92, Tryd.ntmps92
      go_wp2_with fail
      refine (rfail_c w B (ch :: t) 4 HR.out).mono ?_
      rintro e w1 ⟨rfl, hr1, ho1⟩
      go_wp2_with fail
      refine bodyPost_end (results_none rfl _ _ _) rfl ⟨rfl, ⟨[], ?_⟩, ho1⟩
      rw [show endFault (ch :: t) 0 = 4 from if_pos (by simp)]
      exact hr1
  · have e0 : (f == 0) = false := by simpa using hf
    have HE := Lib.hid (show endFault l f = f from if_neg fun q => hf q.1)
    clear hf
    go_enter Tryd.func92, Tryd.ntmps92
    go_wp2_with fail
    refine bodyPost_end (results_none rfl _ _ _) rfl ⟨rfl, ⟨l, ?_⟩, Only.refl _ _⟩
    rw [HE.out]
    exact HR.out
theorem Only.grown {B : Nat} {w W w' : World} {row : Option Nat} (h : Only B w W) (hg : W.grownBy w' row) (hr : ∀ g, row = some g → w.heap.size ≤ g) : Only B w w' := by
  refine ⟨hg.os.trans h.os, hg.tape.trans h.tape, hg.output.trans h.output, Nat.le_trans h.size hg.size, fun k hk hb => ?_⟩
  refine (hg.block k (Nat.lt_of_lt_of_le hk h.size) ?_).trans (h.block k hk hb)
  intro e
  have := hr k e.symm
  omega
theorem Only.put {B P j : Nat} {w W : World} {v : Value} (h : Only B w W) (hp : w.heap.size ≤ P) : Only B w (W.setCell ⟨P, j, none⟩ v) :=
  ⟨h.os, h.tape, h.output, by have := h.size; simp [World.setCell]; omega, fun k hk hb => (Below.heap_setCell _ _ _ _ (show k ≠ P by omega)).trans (h.block k hk hb)⟩
theorem Only.alloc {B : Nat} {w W : World} (h : Only B w W) (o : Obj) : Only B w (W.alloc o) := h.trans (Only.of_below (bAlloc (Below.refl _ _) o))
theorem readPart_eq {l : List UInt8} {f kd : Int} {l3 : List UInt8} {f3 : Int} (h : readNum l f = (kd, l3, f3)) : readPart l f = if kd = 2 then (⟨2, 0, (readText l3 f3).1⟩, (readText l3 f3).2) else (⟨kd, (readNum l3 f3).1, ⟨#[]⟩⟩, (readNum l3 f3).2) := by
  unfold readPart
  rw [h]
theorem own_only {w w' : World} {base B size n : Nat} {e : TypeId} {v : Value} {xs : List Value} (h : w.ownsRow base e size v n xs) (ho : Only B w w') (hB : B < base) : w'.ownsRow base e size v n xs :=
  h.kept (row := some B) ⟨ho.os, ho.tape, ho.output, ho.size, fun k hk hne => ho.block k hk (fun e => hne (by rw [e]))⟩ (.inr fun q => by have := (h.lt B q).1; omega)
/-- The reader, behind an append onto a row of the call's own. -/
theorem Rd.grown {w w' : World} {B P j : Nat} {u : Value} {o : Obj} {l : List UInt8} {f : Int} {row : Option Nat} (h : Rd w B l f) (hP : B < P) (hg : ((w.setCell ⟨P, j, none⟩ u).alloc o).grownBy w' row) (hr : ∀ g, row = some g → B < g) : Rd w' B l f := by
  refine h.keep fun k hk => ?_
  have hlt := h.lt
  rw [hg.block k (by simp [World.setCell]; omega) (fun e => by have := hr k e.symm; omega), heap_alloc_old _ _ _ (by simp [World.setCell]; omega)]
  exact Below.heap_setCell _ _ _ _ (show k ≠ P by omega)
/-- What op has read so far, and what is still to read. -/
def OpLeft (r : List PartD × List UInt8 × Int) (acc : List PartD) (m : Nat) (l : List UInt8) (f : Int) : Prop := r = (acc ++ (readParts m l f).1, (readParts m l f).2)
theorem OpLeft.start (l : List UInt8) (f : Int) : OpLeft (readOp l f) [] (readNum l f).1.toNat (readNum l f).2.1 (readNum l f).2.2 := by
  unfold OpLeft readOp
  generalize readParts (readNum l f).1.toNat (readNum l f).2.1 (readNum l f).2.2 = x
  obtain ⟨a, b⟩ := x
  simp
theorem OpLeft.next {r : List PartD × List UInt8 × Int} {acc : List PartD} {m : Nat} {l : List UInt8} {p : PartD} {l' : List UInt8} {f' : Int} (h : OpLeft r acc (m + 1) l 0) (hp : readPart l 0 = (p, l', f')) : OpLeft r (acc ++ [p]) m l' f' := by
  unfold OpLeft at h ⊢
  rw [h, readParts, if_pos rfl, hp]
  simp
theorem OpLeft.stop {r : List PartD × List UInt8 × Int} {acc : List PartD} {m : Nat} {l : List UInt8} {f : Int} (h : OpLeft r acc m l f) (hs : m = 0 ∨ f ≠ 0) : r = (acc, l, f) := by
  unfold OpLeft at h
  rw [h]
  cases m with
  | zero => simp [readParts]
  | succ m =>
    have hf : f ≠ 0 := by rcases hs with q | q; exact absurd q (by omega); exact q
    rw [readParts, if_neg hf]
    simp
theorem OpLeft.len {r : List PartD × List UInt8 × Int} {acc : List PartD} {m : Nat} {l : List UInt8} {f : Int} (h : OpLeft r acc m l f) : acc.length ≤ r.1.length := by
  unfold OpLeft at h
  rw [h]
  simp
theorem opCells_snocR (rs : List PartD) (p : PartD) : opCells (rs ++ [p]) = opCells rs ++ p.cells := by simp [opCells]
/-- A call that hands back these parts in memory of its own, and leaves the reader so. -/
def RdOp (B : Nat) (w : World) (x : List PartD × List UInt8 × Int) (e : Ending) (w' : World) : Prop :=
  ∃ A c, e = .returned (.slice A x.1.length c) ∧ w'.ownsRow w.heap.size 104 3 (.slice A x.1.length c) x.1.length (opCells x.1) ∧ Rd w' B x.2.1 x.2.2 ∧ Only B w w'
theorem wrap_small (j m : Nat) (hj : j ≤ m) (h : ∃ z : Int, z = numTop ∧ (m : Int) < z) : wrap64 (j : Int) = j := by
  obtain ⟨z, hz, hM⟩ := h
  unfold numTop at hz
  unfold wrap64
  omega
set_option maxHeartbeats 2000000 in
theorem rop_c (w : World) (B : Nat) (l : List UInt8) (f : Int) (h : Rd w B l f) (hl : l.length ≤ 50000) :
    Calls Tryd.prog 124 #[.pointer (some ⟨B, 0, none⟩)] w (RdOp B w (readOp l f)) := by
  obtain ⟨i0, hi, hz0, hz1, hz2⟩ := info_parts infoPart
  have hlen := (op_len l f).1
  have hT := Lib.hid (rtake_all w B l f h)
  have ha := readNum_any l f
  have hBw := h.lt
  have HST := Lib.hid (show OpLeft (readOp l f) [] (readNum l f).1.toNat (readNum l f).2.1 (readNum l f).2.2 from OpLeft.start l f)
  generalize readNum l f = x at *
  obtain ⟨n, l1, f1⟩ := x
  obtain ⟨lo, hi2, len, bad⟩ := ha
  dsimp only at lo hi2 len bad HST
  obtain ⟨m, rfl⟩ : ∃ m : Nat, n = m := ⟨n.toNat, by omega⟩
  rw [Int.toNat_natCast] at HST
  generalize readOp l f = r at *
  have HM := Lib.hid (show ∃ z : Int, z = numTop ∧ (m : Int) < z from ⟨_, rfl, hi2⟩)
  clear bad h hi2
  go_enter Tryd.func124, Tryd.ntmps124
  go_wp2_with fail
  refine hT.out.mono ?_
  rintro e w1 ⟨rfl, hr1, ho1⟩
  dsimp only at hr1
  have HR1 := Lib.hid hr1
  clear hr1
  go_wp2_with fail
  go_loopw [3, 4] (fun o n wr => ∃ (k : Nat) (acc : List PartD) (l2 : List UInt8) (f2 : Int) (A : Option Addr) (c : Nat), k ≤ m ∧ n = .int .i64 k ∧ o = .slice A acc.length c ∧ wr.ownsRow w.heap.size 104 3 (.slice A acc.length c) acc.length (opCells acc) ∧ Hid (OpLeft r acc k l2 f2) ∧ Rd wr B l2 f2 ∧ Only B w wr)
    (fun _ n _ => (intOf n).toNat)
  case atStart => exact ⟨m, [], l1, f1, none, 0, Nat.le_refl _, rfl, rfl, World.ownsRow_nil _ _ _ _, HST, HR1.out, ho1⟩
  case round =>
    obtain ⟨k, acc, l2, f2, A, c, hk, rfl, rfl, hown, hst, hrd, hon⟩ := hrel
    have HRd := Lib.hid hrd
    have HOn := Lib.hid hon
    have hacc := hst.out.len
    obtain ⟨Ar, cr, h1, h2, h4⟩ := hrd
    obtain ⟨x0, x1, g0, g1, hlt⟩ := two_cell h1
    clear h1 h4 h2 hon
    by_cases hk0 : k = 0
    · subst hk0
      have HX := Lib.hid (hst.out.stop (.inl rfl))
      clear hst
      go_wp2_with fail
      go_ret
      rw [HX.out]
      exact ⟨A, c, rfl, hown, HRd.out, HOn.out⟩
    · by_cases hf : f2 = 0
      · subst hf
        obtain ⟨j, rfl⟩ : ∃ j, k = j + 1 := ⟨k - 1, by omega⟩
        have e1 : decide ((0 : Int) < ((j : Nat) : Int) + 1) = true := by simp <;> omega
        have HT2 := Lib.hid (rtake_all wr B l2 0 HRd.out)
        obtain ⟨⟨kd, l3, f3⟩, hy⟩ : ∃ y, y = readNum l2 0 := ⟨_, rfl⟩
        rw [← hy] at HT2
        have HP := Lib.hid (readPart_eq hy.symm)
        clear hy
        have HO0 := Lib.hid hown
        have hltr := fun g hg => (hown.lt g hg).2
        have HLT := Lib.hid hltr
        clear hown hltr hk0
        go_wp2_with fail
        refine HT2.out.mono ?_
        rintro e w2 ⟨rfl, hr2, ho2⟩
        dsimp only at hr2
        have hw2 := ho2.size
        have HR2 := Lib.hid hr2
        have HO2 := Lib.hid ho2
        clear hr2 ho2 HT2
        obtain ⟨WA, hWA⟩ : ∃ WA, WA = w2.alloc (.cells #[.int .i64 kd, .int .i64 0, .string ⟨#[]⟩] 104) := ⟨_, rfl⟩
        have HA := Lib.hid (show Below w2.heap.size w2 WA by rw [hWA]; exact bAlloc (Below.refl _ _) _)
        have hWz : WA.heap.size = w2.heap.size + 1 := by rw [hWA]; simp
        have HWP := Lib.hid (show WA.heap[w2.heap.size]? = some (.cells #[.int .i64 kd, .int .i64 0, .string ⟨#[]⟩] 104 (0, 0)) by rw [hWA]; show (w2.heap.push _)[w2.heap.size]? = _; simp)
        have HWA := Lib.hid hWA
        obtain ⟨y0, y1, y2, z0, z1, z2, hPl⟩ := three_cell HWP.out
        have HRA := Lib.hid (HR2.out.later HA.out)
        have HWn := Lib.hid (HOn.out.size)
        clear hWA
        by_cases hk2 : kd = 2
        · subst hk2
          rw [if_pos rfl] at HP
          have HT3 := Lib.hid (rtext_c WA B l3 f3 HRA.out)
          generalize readText l3 f3 = yy at *
          obtain ⟨s, l4, f4⟩ := yy
          dsimp only at HP
          go_wp2_with fail
          rw [← HWA.out]
          go_wp2_with fail
          refine HT3.out.mono ?_
          rintro e w3 ⟨rfl, hr3, ho3⟩
          try dsimp only at hr3
          have HR3 := Lib.hid hr3
          have HO3 := Lib.hid ho3
          have hw3 := ho3.size
          have hPB : w2.heap.size ≠ B := by have := HR2.out.lt; omega
          obtain ⟨q0, q1, q2, t0, t1, t2, hq⟩ := three_cell ((ho3.block w2.heap.size (by omega) hPB).trans HWP.out)
          have HOW := Lib.hid (own_only (own_only HO0.out HO2.out hBw |>.kept (row := none) ⟨HA.out.os, HA.out.tape, HA.out.output, HA.out.size, fun k hk _ => HA.out.block k hk⟩ (by cases (Value.slice A acc.length c).ownBlock <;> simp)) ho3 hBw)
          have hne : (Value.slice A acc.length c).ownBlock ≠ some w2.heap.size := fun q => by have := HLT.out _ q; omega
          have HX := Lib.hid ((ownsRow_setCell_other HOW.out (a := ⟨w2.heap.size, 2, none⟩) hne (.string s)).alloc (.cells #[.int .i64 2, .int .i64 0, .string s] 104))
          have HS0 := Sl.new (S := fun _ => True) (w3.setCell ⟨w2.heap.size, 2, none⟩ (.string s)) [.int .i64 2, .int .i64 0, .string s] 104 3 1 rfl trivial
          rw [show (w3.setCell ⟨w2.heap.size, 2, none⟩ (.string s)).heap.size = w3.heap.size by simp [World.setCell]] at HS0
          have HS := Lib.hid HS0
          clear HS0
          have HN := Lib.hid (hst.out.next HP.out)
          have HW := Lib.hid (wrap_small j m (by omega) HM.out)
          clear hr3 ho3 hst hne
          go_wp2_with (at_builtin; refine wpList_append_sl _ rfl _ _ 33 rfl w.heap.size 104 i0 (.agg #[.int .i64 0, .int .i64 0, .string ⟨#[]⟩]) 3 32 Tryd.underlying33 hi hz0 hz1 hz2 rfl (by decide) _ _ _ rfl HX.out _ _ _ _ _ rfl HS.out ?c1 ?c2 ?c3 ?c4 ?_)
          case c1 => simp [Value.oneCell']
          case c2 => unfold maxLen; omega
          case c3 => omega
          case c4 => have := HWn.out; simp [World.setCell]; omega
          intro A' c' w4 hown' hgrow hat
          have HR4 := Lib.hid (HR3.out.grown (P := w2.heap.size) (by have := HR2.out.lt; omega) hgrow (fun g hg => by have := (HO0.out.lt g hg).1; omega))
          have HO4 := Lib.hid (((((HOn.out.trans HO2.out).trans (Only.of_below HA.out)).trans HO3.out).put (P := w2.heap.size) (by have := HWn.out; omega)).alloc _ |>.grown hgrow (fun g hg => (HO0.out.lt g hg).1))
          clear hgrow
          go_wp2_with fail
          go_roundw
          case rel => exact ⟨j, acc ++ [⟨2, 0, s⟩], l4, f4, A', c', by omega, by (rw [HW.out]), by rw [List.length_append]; rfl, by rw [opCells_snocR, List.length_append]; exact hown', HN, HR4.out, HO4.out⟩
          case measure => rw [HW.out]; simp [intOf]
        · rw [if_neg hk2] at HP
          have e2 : (kd == 2) = false := by simpa using hk2
          have HT3 := Lib.hid (rtake_all WA B l3 f3 HRA.out)
          generalize readNum l3 f3 = yy at *
          obtain ⟨s, l4, f4⟩ := yy
          dsimp only at HP
          clear hk2
          go_wp2_with fail
          rw [← HWA.out]
          go_wp2_with fail
          refine HT3.out.mono ?_
          rintro e w3 ⟨rfl, hr3, ho3⟩
          try dsimp only at hr3
          have HR3 := Lib.hid hr3
          have HO3 := Lib.hid ho3
          have hw3 := ho3.size
          have hPB : w2.heap.size ≠ B := by have := HR2.out.lt; omega
          obtain ⟨q0, q1, q2, t0, t1, t2, hq⟩ := three_cell ((ho3.block w2.heap.size (by omega) hPB).trans HWP.out)
          have HOW := Lib.hid (own_only (own_only HO0.out HO2.out hBw |>.kept (row := none) ⟨HA.out.os, HA.out.tape, HA.out.output, HA.out.size, fun k hk _ => HA.out.block k hk⟩ (by cases (Value.slice A acc.length c).ownBlock <;> simp)) ho3 hBw)
          have hne : (Value.slice A acc.length c).ownBlock ≠ some w2.heap.size := fun q => by have := HLT.out _ q; omega
          have HX := Lib.hid ((ownsRow_setCell_other HOW.out (a := ⟨w2.heap.size, 1, none⟩) hne (.int .i64 s)).alloc (.cells #[.int .i64 kd, .int .i64 s, .string ⟨#[]⟩] 104))
          have HS0 := Sl.new (S := fun _ => True) (w3.setCell ⟨w2.heap.size, 1, none⟩ (.int .i64 s)) [.int .i64 kd, .int .i64 s, .string ⟨#[]⟩] 104 3 1 rfl trivial
          rw [show (w3.setCell ⟨w2.heap.size, 1, none⟩ (.int .i64 s)).heap.size = w3.heap.size by simp [World.setCell]] at HS0
          have HS := Lib.hid HS0
          clear HS0
          have HN := Lib.hid (hst.out.next HP.out)
          have HW := Lib.hid (wrap_small j m (by omega) HM.out)
          clear hr3 ho3 hst hne
          go_wp2_with (at_builtin; refine wpList_append_sl _ rfl _ _ 33 rfl w.heap.size 104 i0 (.agg #[.int .i64 0, .int .i64 0, .string ⟨#[]⟩]) 3 32 Tryd.underlying33 hi hz0 hz1 hz2 rfl (by decide) _ _ _ rfl HX.out _ _ _ _ _ rfl HS.out ?c1 ?c2 ?c3 ?c4 ?_)
          case c1 => simp [Value.oneCell']
          case c2 => unfold maxLen; omega
          case c3 => omega
          case c4 => have := HWn.out; simp [World.setCell]; omega
          intro A' c' w4 hown' hgrow hat
          have HR4 := Lib.hid (HR3.out.grown (P := w2.heap.size) (by have := HR2.out.lt; omega) hgrow (fun g hg => by have := (HO0.out.lt g hg).1; omega))
          have HO4 := Lib.hid (((((HOn.out.trans HO2.out).trans (Only.of_below HA.out)).trans HO3.out).put (P := w2.heap.size) (by have := HWn.out; omega)).alloc _ |>.grown hgrow (fun g hg => (HO0.out.lt g hg).1))
          clear hgrow
          go_wp2_with fail
          go_roundw
          case rel => exact ⟨j, acc ++ [⟨kd, s, ⟨#[]⟩⟩], l4, f4, A', c', by omega, by (rw [HW.out]), by rw [List.length_append]; rfl, by rw [opCells_snocR, List.length_append]; exact hown', HN, HR4.out, HO4.out⟩
          case measure => rw [HW.out]; simp [intOf]
      · have HX := Lib.hid (hst.out.stop (.inr hf))
        have e0 : (f2 == 0) = false := by simpa using hf
        have e1 : decide ((0 : Int) < (k : Int)) = true := by simp; omega
        clear hst hf
        go_wp2_with fail
        go_ret
        rw [HX.out]
        exact ⟨A, c, rfl, hown, HRd.out, HOn.out⟩
end Go.Proofs.YtieofljkgmkaiaaDoor
