/-
  Arguments that came in, opened: a slice of parts reads as an operation; what the second form's bound gives.
-/
import Derived.Test.YtbmdepbmejnlkaaDoorRows
import Derived.Test.YtbmdepbmejnlkaaDoorFrame
import Derived.Test.YtbmdepbmejnlkaaDoorOps
import Derived.Deep.Slices
import Derived.Deep.Fields
namespace Go.Proofs.YtbmdepbmejnlkaaDoor
open Go.ChangeShapes Go.WideShapes Go.ChangeAt Go.RowKit Go.Joins Go.Deep
set_option maxRecDepth 100000
/-! ### the second form's bound -/
theorem bulk_one {H : Type} (d : DataW H) : 1 ≤ Rows.uptoBulk d := by
  cases d with
  | lit l => cases l <;> simp [Rows.uptoBulk]
  | nil => simp [Rows.uptoBulk]
  | ptr d => simp [Rows.uptoBulk]
  | slice elems spare => simp [Rows.uptoBulk]
  | agg parts => simp [Rows.uptoBulk]
  | iface t d => simp [Rows.uptoBulk]
  | map entries => simp [Rows.uptoBulk]
  | held h => simp [Rows.uptoBulk]
theorem bulk_mem {H : Type} {d : DataW H} {l : List (DataW H)} (h : d ∈ l) : Rows.uptoBulk d ≤ Rows.uptoBulkAll l := by
  induction l with
  | nil => cases h
  | cons x r ih =>
    simp only [Rows.uptoBulkAll]
    rcases List.mem_cons.1 h with e | e
    · subst e; omega
    · have := ih e; omega
theorem bulk_length {H : Type} (l : List (DataW H)) : l.length ≤ Rows.uptoBulkAll l := by
  induction l with
  | nil => simp [Rows.uptoBulkAll]
  | cons x r ih => have := bulk_one x; simp only [Rows.uptoBulkAll, List.length_cons]; omega
theorem bulk_small {H : Type} {l : List (DataW H)} (hk : Rows.uptoSmall H l = true) : Rows.uptoBulkAll l ≤ 1048576 := of_decide_eq_true hk
theorem bulk_slice {H : Type} (elems spare : List (DataW H)) : Rows.uptoBulk (.slice elems spare) = Rows.uptoBulkAll elems + Rows.uptoBulkAll spare + 1 := by simp [Rows.uptoBulk]
theorem bulk_agg {H : Type} (l : List (DataW H)) : Rows.uptoBulk (.agg l) = Rows.uptoBulkAll l + 1 := by simp [Rows.uptoBulk]
theorem bulk_string {H : Type} (b : List UInt8) : Rows.uptoBulk (DataW.lit (H := H) (.string b)) = b.length + 1 := by simp [Rows.uptoBulk]

/-! ### a slice of structs of one-cell fields -/
section
variable {H : Type} {enc : TypeId × Value → H} {P : Program} {w : World} {base : Nat} {spare : Nat → Bool} {held : Bool}
theorem open_slice_fields {t e : TypeId} {fs : Array Field} {fuel : Nat} {cs : List Value} {x : DataW H × List MemPlace} (ht : P.underlying t = some (.slice e)) (he : P.underlying e = some (.struct fs))
    (hone : oneCellFields P fs = true) (hC : P.cellsOf e = fs.size) (h : DataW.trod enc P w base spare held fuel t cs = some x) :
    (cs = [.slice none 0 0] ∧ x = (.nil, [])) ∨
    ∃ (a : Addr) (len cap m : Nat) (D : Nat → DataW H) (Pl : Nat → List MemPlace), cs = [.slice (some a) len cap] ∧ base ≤ a.block ∧ len ≤ cap ∧ cap ≤ maxLen ∧ m = (if spare a.block then cap else len) ∧
      x = (.slice ((List.range len).map D) ((List.range (m - len)).map fun j => D (len + j)), MemPlace.row a (m * fs.size) ++ (List.range m).flatMap Pl) ∧
      ∀ i, i < m → ∃ (ys : List (DataW H × List MemPlace)) (n : Nat), D i = .agg (ys.map (·.1)) ∧ Pl i = ys.flatMap (·.2) ∧ ys.length = fs.size ∧
        ∀ (j : Nat) (f : Field), fs[j]? = some f → ∃ (v : Value) (y : DataW H × List MemPlace), w.cell? (a.add (i * fs.size + j)) = some v ∧ ys[j]? = some y ∧ DataW.trod enc P w base spare held n f.type [v] = some y := by
  rcases open_slice ht h with h0 | ⟨a, len, cap, m, n, D, Pl, hcs, hb, hl, hm, hmm, hx, hi⟩
  · exact .inl h0
  · refine .inr ⟨a, len, cap, m, D, Pl, hcs, hb, hl, hm, hmm, by rw [hC] at hx; exact hx, fun i him => ?_⟩
    obtain ⟨cs', hc, ht'⟩ := hi i him
    rw [hC] at hc
    obtain ⟨ys, n', hn', hy, hlen, hyl, hf⟩ := DataW.trod_struct he ht'
    obtain ⟨_, hcl, hat⟩ := World.cells?_some hc
    simp only [Prod.mk.injEq] at hy
    refine ⟨ys, n', hy.1, hy.2, hyl, fun j f hj => ?_⟩
    obtain ⟨ho, hk⟩ := hone_of hone j f hj
    have hjl : j < fs.size := (Array.getElem?_eq_some_iff.1 hj).1
    have hcell := hat j hjl
    have hv : cs'[j]? = some (cs'[j]'(by omega)) := List.getElem?_eq_getElem (by omega)
    have h1 := hf j f hj
    rw [ho, hk] at h1
    have hone' : (cs'.drop j).take 1 = [cs'[j]'(by omega)] := by
      rw [List.drop_eq_getElem_cons (by omega)]
      rfl
    rw [hone'] at h1
    have hys : ys[j]? = some (ys[j]'(by omega)) := List.getElem?_eq_getElem (by omega)
    refine ⟨_, _, ?_, hys, h1.trans hys⟩
    rw [← Go.Deep.add_add, hcell, hv]
end

theorem i64_of_wf {z : Int} (h : (Lit.int .i64 z).wf = true) : -9223372036854775808 ≤ z ∧ z ≤ 9223372036854775807 := by
  simpa [Lit.wf, IntKind.min, IntKind.max, IntKind.signed, IntKind.bits] using h
theorem ba_len (s : ByteArray) : s.data.toList.length = s.size := rfl
/-- A part whose numbers are int64's and whose text is short. -/
structure PartD.Fit (p : PartD) : Prop where
  k1 : -9223372036854775808 ≤ p.kind
  k2 : p.kind ≤ 9223372036854775807
  n1 : -9223372036854775808 ≤ p.n
  n2 : p.n ≤ 9223372036854775807
  text : p.text.size ≤ 1048576
theorem cellsPart : Tryd.prog.cellsOf 90 = 3 := by kernel_rfl
/-- An operation that came in. -/
theorem open_op {H : Type} {enc : TypeId × Value → H} {w : World} {m : Nat} {t : TypeId} {v : Value} {y : DataW H × List MemPlace} (ht : Tryd.prog.underlying t = some (.slice 90))
    (h : DataW.trod enc Tryd.prog w 0 (fun _ => true) true m t [v] = some y) (hbulk : Rows.uptoBulk y.1 ≤ 1048576) :
    ∃ (A : Option Addr) (c : Nat) (ps : List PartD), v = .slice A ps.length c ∧ ps.length ≤ c ∧ c ≤ 9223372036854775807 ∧ OpIn (· < w.heap.size) w A ps ∧ ps.length ≤ Rows.uptoBulk y.1 ∧ ∀ p ∈ ps, p.Fit := by
  rcases open_slice_fields ht Tryd.underlying90 (by kernel_rfl) cellsPart h with ⟨hcs, hx⟩ | ⟨a, len, cap, mm, D, Pl, hcs, _, hl, hm, hmm, hx, hi⟩
  · obtain rfl : v = .slice none 0 0 := by simpa using hcs
    exact ⟨none, 0, [], rfl, by simp, by omega, Sl.nil, by simp, by simp⟩
  · obtain rfl : v = .slice (some a) len cap := by simpa using hcs
    simp only [if_true] at hmm
    subst hmm
    unfold maxLen at hm
    have hy1 : y.1 = .slice ((List.range len).map D) ((List.range (mm - len)).map fun j => D (len + j)) := by rw [hx]
    rw [hy1, bulk_slice] at hbulk
    have hrow : ∀ i, ∃ p : PartD, i < len → (w.cell? (a.add (i * 3 + 0)) = some (.int .i64 p.kind) ∧ w.cell? (a.add (i * 3 + 1)) = some (.int .i64 p.n) ∧ w.cell? (a.add (i * 3 + 2)) = some (.string p.text)) ∧ p.Fit := by
      intro i
      by_cases hil : i < len
      · obtain ⟨ys, n, hD, _, hyl, hf⟩ := hi i (by omega)
        obtain ⟨v0, y0, hc0, hy0, ht0⟩ := hf 0 _ rfl
        obtain ⟨v1, y1, hc1, hy1', ht1⟩ := hf 1 _ rfl
        obtain ⟨v2, y2, hc2, hy2, ht2⟩ := hf 2 _ rfl
        obtain ⟨k0, e0, d0, w0⟩ := DataW.trod_int Tryd.underlying3 ht0
        obtain ⟨k1, e1, d1, w1⟩ := DataW.trod_int Tryd.underlying3 ht1
        obtain ⟨s2, e2, d2⟩ := DataW.trod_string Tryd.underlying9 ht2
        have e0' : v0 = .int .i64 k0 := by simpa using e0
        have e1' : v1 = .int .i64 k1 := by simpa using e1
        have e2' : v2 = .string s2 := by simpa using e2
        subst e0' e1' e2'
        have hDi : Rows.uptoBulk (D i) ≤ 1048576 := by
          have := bulk_mem (show D i ∈ (List.range len).map D from List.mem_map.2 ⟨i, List.mem_range.2 hil, rfl⟩)
          omega
        have hs : s2.size ≤ 1048576 := by
          rw [hD, bulk_agg] at hDi
          have hm2 : y2.1 ∈ ys.map (·.1) := List.mem_map.2 ⟨y2, List.mem_of_getElem? hy2, rfl⟩
          have := bulk_mem hm2
          rw [d2.1, bulk_string] at this
          have e := ba_len s2
          omega
        exact ⟨⟨k0, k1, s2⟩, fun _ => ⟨⟨hc0, hc1, hc2⟩, (i64_of_wf w0).1, (i64_of_wf w0).2, (i64_of_wf w1).1, (i64_of_wf w1).2, hs⟩⟩
      · exact ⟨⟨0, 0, ByteArray.empty⟩, fun h => absurd h hil⟩
    obtain ⟨f, hf⟩ := Classical.skolem.1 hrow
    have hlen : ((List.range len).map f).length = len := by simp
    refine ⟨some a, mm, (List.range len).map f, by rw [hlen], by rw [hlen]; exact hl, hm, ?_, ?_, ?_⟩
    · refine ⟨opCells_length _, fun hn => ?_⟩
      rw [hlen] at hn
      have hat : ∀ i, i < len → ∀ j u, j < 3 → ((f i).cells)[j]? = some u → w.cell? (a.add (i * 3 + j)) = some u := by
        intro i hil j u hj hu
        obtain ⟨⟨c0, c1, c2⟩, _⟩ := hf i hil
        match j, hj with
        | 0, _ => simp [PartD.cells] at hu; subst hu; exact c0
        | 1, _ => simp [PartD.cells] at hu; subst hu; exact c1
        | 2, _ => simp [PartD.cells] at hu; subst hu; exact c2
      obtain ⟨b, o, sp⟩ := a
      have hsp : sp = none := by
        have := hat 0 hn 0 _ (by omega) rfl
        simpa [Addr.add] using World.cell?_spot this
      subst hsp
      refine ⟨b, o, rfl, ?_, fun j u hu => ?_⟩
      · have := hat 0 hn 0 _ (by omega) rfl
        rw [Go.WideShapes.add_plain] at this
        exact block_lt_of_cell this
      · have hjl : j < len * 3 := by
          have := (List.getElem?_eq_some_iff.1 hu).1
          rw [opCells_length, hlen] at this
          exact this
        have hdm : j = (j / 3) * 3 + j % 3 := by omega
        have hq : j / 3 < ((List.range len).map f).length := by rw [hlen]; omega
        rw [hdm, opCells_get _ _ _ hq (by omega)] at hu
        have := hat (j / 3) (by omega) (j % 3) u (by omega) (by simpa using hu)
        rw [Go.WideShapes.add_plain, ← hdm] at this
        exact this
    · rw [hlen, hy1, bulk_slice]
      have := bulk_length ((List.range len).map D)
      simp at this
      omega
    · intro p hp
      obtain ⟨i, hi', rfl⟩ := List.mem_map.1 hp
      exact (hf i (List.mem_range.1 hi')).2
end Go.Proofs.YtbmdepbmejnlkaaDoor
