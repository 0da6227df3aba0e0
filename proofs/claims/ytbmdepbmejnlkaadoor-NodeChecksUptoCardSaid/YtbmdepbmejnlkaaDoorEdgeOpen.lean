/-
  A row of operations, and an edge, that came in.
-/
import Derived.Test.YtbmdepbmejnlkaaDoorRows
import Derived.Test.YtbmdepbmejnlkaaDoorOpenB
import Derived.Test.YtbmdepbmejnlkaaDoorEdgeA
namespace Go.Proofs.YtbmdepbmejnlkaaDoor
open Go.ChangeShapes Go.WideShapes Go.ChangeAt Go.RowKit Go.Joins Go.Deep
set_option maxRecDepth 100000
theorem cellsOp : Tryd.prog.cellsOf 43 = 1 := by kernel_rfl
section
variable {H : Type} {enc : TypeId × Value → H} {w : World} {m : Nat}
structure OpV.Fit (o : OpV) : Prop where
  len : o.ps.length ≤ 1048576
  parts : ∀ p ∈ o.ps, p.Fit
  cap : o.ps.length ≤ o.c
  top : o.c ≤ 9223372036854775807
theorem OpV.Fit.small {o : OpV} (h : o.Fit) : o.Small := ⟨h.len, fun p hp => (h.parts p hp).text⟩
theorem open_ops {t : TypeId} {v : Value} {y : DataW H × List MemPlace} (ht : Tryd.prog.underlying t = some (.slice 43)) (h : DataW.trod enc Tryd.prog w 0 (fun _ => true) true m t [v] = some y) (hbulk : Rows.uptoBulk y.1 ≤ 1048576) :
    ∃ (A : Option Addr) (c : Nat) (L : List OpV), v = .slice A L.length c ∧ L.length ≤ c ∧ c ≤ 9223372036854775807 ∧ OpsIn w A L ∧ L.length ≤ 1048576 ∧ ∀ o ∈ L, o.Fit := by
  rcases open_slice ht h with ⟨hcs, hx⟩ | ⟨a, len, cap, mm, n, D, Pl, hcs, _, hl, hm, hmm, hx, hi⟩
  · obtain rfl : v = .slice none 0 0 := by simpa using hcs
    exact ⟨none, 0, [], rfl, by simp, by omega, ⟨Sl.nil, by simp⟩, by simp, by simp⟩
  · obtain rfl : v = .slice (some a) len cap := by simpa using hcs
    simp only [if_true] at hmm
    subst hmm
    unfold maxLen at hm
    have hy1 : y.1 = .slice ((List.range len).map D) ((List.range (mm - len)).map fun j => D (len + j)) := by rw [hx]
    rw [hy1, bulk_slice] at hbulk
    have hrow : ∀ i, ∃ o : OpV, i < len → w.cell? (a.add i) = some o.val ∧ OpIn (· < w.heap.size) w o.A o.ps ∧ o.Fit := by
      intro i
      by_cases hil : i < len
      · obtain ⟨cs', hc, ht'⟩ := hi i (by omega)
        rw [cellsOp] at hc
        obtain ⟨_, hcl, hat⟩ := World.cells?_some hc
        obtain ⟨u, rfl⟩ : ∃ u, cs' = [u] := List.length_eq_one_iff.1 hcl
        have hDi : Rows.uptoBulk (D i) ≤ 1048576 := by
          have := bulk_mem (show D i ∈ (List.range len).map D from List.mem_map.2 ⟨i, List.mem_range.2 hil, rfl⟩)
          omega
        obtain ⟨A, c, ps, rfl, h1, h2, h3, h4, h5⟩ := open_opv ht' hDi
        have h0 := hat 0 (by omega)
        refine ⟨⟨A, c, ps⟩, fun _ => ⟨?_, h3, h4, h5, h1, h2⟩⟩
        simpa [Go.Deep.add_add] using h0
      · exact ⟨⟨none, 0, []⟩, fun h => absurd h hil⟩
    obtain ⟨f, hf⟩ := Classical.skolem.1 hrow
    have hlen : ((List.range len).map f).length = len := by simp
    refine ⟨some a, mm, (List.range len).map f, by rw [hlen], by rw [hlen]; exact hl, hm, ⟨⟨by simp, fun hn => ?_⟩, ?_⟩, ?_, ?_⟩
    · rw [hlen] at hn
      obtain ⟨b, o, sp⟩ := a
      have hsp : sp = none := by
        have := (hf 0 hn).1
        simpa [Addr.add] using World.cell?_spot this
      subst hsp
      refine ⟨b, o, rfl, ?_, fun j u hu => ?_⟩
      · have := (hf 0 hn).1
        rw [Go.WideShapes.add_plain] at this
        exact block_lt_of_cell this
      · have hjl : j < len := by
          have := (List.getElem?_eq_some_iff.1 hu).1
          simpa using this
        have := (hf j hjl).1
        rw [Go.WideShapes.add_plain] at this
        rw [this]
        simpa [hjl] using hu
    · intro o ho
      obtain ⟨i, hi', rfl⟩ := List.mem_map.1 ho
      exact (hf i (List.mem_range.1 hi')).2.1
    · rw [hlen]
      have := bulk_length ((List.range len).map D)
      simp at this
      omega
    · intro o ho
      obtain ⟨i, hi', rfl⟩ := List.mem_map.1 ho
      exact (hf i (List.mem_range.1 hi')).2.2
theorem open_edge {cs : List Value} {y : DataW H × List MemPlace} (h : DataW.trod enc Tryd.prog w 0 (fun _ => true) true m 41 cs = some y) (hb : Rows.uptoBulk y.1 ≤ 1048576) :
    ∃ (s hd : Int) (A : Option Addr) (c : Nat) (L : List OpV), cs = [.int .i64 s, .int .i64 hd, .slice A L.length c] ∧ (-9223372036854775808 ≤ s ∧ s ≤ 9223372036854775807) ∧ (-9223372036854775808 ≤ hd ∧ hd ≤ 9223372036854775807) ∧
      L.length ≤ c ∧ c ≤ 9223372036854775807 ∧ OpsIn w A L ∧ L.length ≤ 1048576 ∧ ∀ o ∈ L, o.Fit := by
  obtain ⟨ys, n, hx, _, hl, hf⟩ := open_struct Tryd.underlying41 (by kernel_rfl) (by kernel_rfl) h
  obtain ⟨v0, v1, v2, rfl⟩ := list3 hl
  obtain ⟨_, y0, hc0, hy0, ht0⟩ := hf 0 _ rfl
  obtain ⟨_, y1, hc1, hy1, ht1⟩ := hf 1 _ rfl
  obtain ⟨_, y2, hc2, hy2, ht2⟩ := hf 2 _ rfl
  obtain rfl := Option.some.inj hc0
  obtain rfl := Option.some.inj hc1
  obtain rfl := Option.some.inj hc2
  obtain ⟨s, rfl, h0⟩ := open_num Tryd.underlying3 ht0
  obtain ⟨hd, rfl, h1⟩ := open_num Tryd.underlying3 ht1
  obtain ⟨A, c, L, rfl, h2⟩ := open_ops Tryd.underlying25 ht2 (bulk_field hx hb hy2)
  exact ⟨s, hd, A, c, L, rfl, h0, h1, h2⟩
end
end Go.Proofs.YtbmdepbmejnlkaaDoor
