/-
  Structs that came in, opened: records, frames; rows of operations.
-/
import Derived.Test.YtbmdepbmejnlkaaDoorRows
import Derived.Test.YtbmdepbmejnlkaaDoorOpen
import Derived.Lib.SmallJoins
namespace Go.Proofs.YtbmdepbmejnlkaaDoor
open Go.ChangeShapes Go.WideShapes Go.ChangeAt Go.RowKit Go.Joins Go.Deep
set_option maxRecDepth 100000
section
variable {H : Type} {enc : TypeId × Value → H} {P : Program} {w : World} {base : Nat} {spare : Nat → Bool} {held : Bool}
/-- A struct of one-cell fields, its cells and what they read. -/
theorem open_struct {t : TypeId} {fs : Array Field} {fuel : Nat} {cs : List Value} {x : DataW H × List MemPlace} (ht : P.underlying t = some (.struct fs)) (hone : oneCellFields P fs = true) (hC : P.cellsOf t = fs.size)
    (h : DataW.trod enc P w base spare held fuel t cs = some x) :
    ∃ (ys : List (DataW H × List MemPlace)) (n : Nat), x.1 = .agg (ys.map (·.1)) ∧ ys.length = fs.size ∧ cs.length = fs.size ∧
      ∀ (j : Nat) (f : Field), fs[j]? = some f → ∃ (v : Value) (y : DataW H × List MemPlace), cs[j]? = some v ∧ ys[j]? = some y ∧ DataW.trod enc P w base spare held n f.type [v] = some y := by
  obtain ⟨ys, n', hn', hy, hlen, hyl, hf⟩ := DataW.trod_struct ht h
  rw [hC] at hlen
  refine ⟨ys, n', by rw [hy], hyl, hlen, fun j f hj => ?_⟩
  obtain ⟨ho, hk⟩ := hone_of hone j f hj
  have hjl : j < fs.size := (Array.getElem?_eq_some_iff.1 hj).1
  have h1 := hf j f hj
  rw [ho, hk] at h1
  have hone' : (cs.drop j).take 1 = [cs[j]'(by omega)] := by
    rw [List.drop_eq_getElem_cons (by omega)]
    rfl
  rw [hone'] at h1
  have hys : ys[j]? = some (ys[j]'(by omega)) := List.getElem?_eq_getElem (by omega)
  exact ⟨_, _, List.getElem?_eq_getElem (by omega), hys, h1.trans hys⟩
theorem bulk_field {ys : List (DataW H × List MemPlace)} {x : DataW H} {n : Nat} (hx : x = .agg (ys.map (·.1))) (hb : Rows.uptoBulk x ≤ n) {j : Nat} {y : DataW H × List MemPlace} (hj : ys[j]? = some y) : Rows.uptoBulk y.1 ≤ n := by
  rw [hx, bulk_agg] at hb
  have := bulk_mem (List.mem_map.2 ⟨y, List.mem_of_getElem? hj, rfl⟩ : y.1 ∈ ys.map (·.1))
  omega
end
theorem list2 {α : Type} {l : List α} (h : l.length = 2) : ∃ a b, l = [a, b] := by
  match l, h with
  | [a, b], _ => exact ⟨a, b, rfl⟩
theorem list3 {α : Type} {l : List α} (h : l.length = 3) : ∃ a b c, l = [a, b, c] := by
  match l, h with
  | [a, b, c], _ => exact ⟨a, b, c, rfl⟩
theorem list5 {α : Type} {l : List α} (h : l.length = 5) : ∃ a b c d e, l = [a, b, c, d, e] := by
  match l, h with
  | [a, b, c, d, e], _ => exact ⟨a, b, c, d, e, rfl⟩
section
variable {H : Type} {enc : TypeId × Value → H} {w : World} {m : Nat}
theorem open_num {t : TypeId} {v : Value} {y : DataW H × List MemPlace} (ht : Tryd.prog.underlying t = some (.int .i64)) (h : DataW.trod enc Tryd.prog w 0 (fun _ => true) true m t [v] = some y) :
    ∃ k : Int, v = .int .i64 k ∧ -9223372036854775808 ≤ k ∧ k ≤ 9223372036854775807 := by
  obtain ⟨k, e, _, hw⟩ := DataW.trod_int ht h
  exact ⟨k, by simpa using e, (i64_of_wf hw).1, (i64_of_wf hw).2⟩
theorem open_text {t : TypeId} {v : Value} {y : DataW H × List MemPlace} (ht : Tryd.prog.underlying t = some .string) (h : DataW.trod enc Tryd.prog w 0 (fun _ => true) true m t [v] = some y) (hb : Rows.uptoBulk y.1 ≤ 1048576) :
    ∃ s : ByteArray, v = .string s ∧ s.size ≤ 1048576 := by
  obtain ⟨s, e, d⟩ := DataW.trod_string ht h
  refine ⟨s, by simpa using e, ?_⟩
  rw [d.1, bulk_string] at hb
  have e := ba_len s
  omega
/-- An operation in a cell. -/
theorem open_opv {v : Value} {y : DataW H × List MemPlace} (h : DataW.trod enc Tryd.prog w 0 (fun _ => true) true m 43 [v] = some y) (hb : Rows.uptoBulk y.1 ≤ 1048576) :
    ∃ (A : Option Addr) (c : Nat) (ps : List PartD), v = .slice A ps.length c ∧ ps.length ≤ c ∧ c ≤ 9223372036854775807 ∧ OpIn (· < w.heap.size) w A ps ∧ ps.length ≤ 1048576 ∧ ∀ p ∈ ps, p.Fit := by
  obtain ⟨A, c, ps, h1, h2, h3, h4, h5, h6⟩ := open_op Tryd.underlying43 h hb
  exact ⟨A, c, ps, h1, h2, h3, h4, by omega, h6⟩
theorem open_record {cs : List Value} {y : DataW H × List MemPlace} (h : DataW.trod enc Tryd.prog w 0 (fun _ => true) true m 121 cs = some y) (hb : Rows.uptoBulk y.1 ≤ 1048576) :
    ∃ (ep : Int) (A : Option Addr) (c : Nat) (ps : List PartD), cs = [.int .i64 ep, .slice A ps.length c] ∧ (-9223372036854775808 ≤ ep ∧ ep ≤ 9223372036854775807) ∧
      ps.length ≤ c ∧ c ≤ 9223372036854775807 ∧ OpIn (· < w.heap.size) w A ps ∧ ps.length ≤ 1048576 ∧ ∀ p ∈ ps, p.Fit := by
  obtain ⟨ys, n, hx, _, hl, hf⟩ := open_struct Tryd.underlying121 (by kernel_rfl) (by kernel_rfl) h
  obtain ⟨v0, v1, rfl⟩ := list2 hl
  obtain ⟨_, y0, hc0, hy0, ht0⟩ := hf 0 _ rfl
  obtain ⟨_, y1, hc1, hy1, ht1⟩ := hf 1 _ rfl
  obtain rfl := Option.some.inj hc0
  obtain rfl := Option.some.inj hc1
  obtain ⟨ep, rfl, he⟩ := open_num Tryd.underlying3 ht0
  obtain ⟨A, c, ps, rfl, h1⟩ := open_opv ht1 (bulk_field hx hb hy1)
  exact ⟨ep, A, c, ps, rfl, he, h1⟩
theorem open_frame {cs : List Value} {y : DataW H × List MemPlace} (h : DataW.trod enc Tryd.prog w 0 (fun _ => true) true m 83 cs = some y) (hb : Rows.uptoBulk y.1 ≤ 1048576) :
    ∃ (k hd ep : Int) (A : Option Addr) (c : Nat) (ps : List PartD) (s : ByteArray), cs = [.int .i64 k, .int .i64 hd, .int .i64 ep, .slice A ps.length c, .string s] ∧ (-9223372036854775808 ≤ k ∧ k ≤ 9223372036854775807) ∧
      (-9223372036854775808 ≤ hd ∧ hd ≤ 9223372036854775807) ∧ (-9223372036854775808 ≤ ep ∧ ep ≤ 9223372036854775807) ∧
      (ps.length ≤ c ∧ c ≤ 9223372036854775807 ∧ OpIn (· < w.heap.size) w A ps ∧ ps.length ≤ 1048576 ∧ ∀ p ∈ ps, p.Fit) ∧ s.size ≤ 1048576 := by
  obtain ⟨ys, n, hx, _, hl, hf⟩ := open_struct Tryd.underlying83 (by kernel_rfl) (by kernel_rfl) h
  obtain ⟨v0, v1, v2, v3, v4, rfl⟩ := list5 hl
  obtain ⟨_, y0, hc0, hy0, ht0⟩ := hf 0 _ rfl
  obtain ⟨_, y1, hc1, hy1, ht1⟩ := hf 1 _ rfl
  obtain ⟨_, y2, hc2, hy2, ht2⟩ := hf 2 _ rfl
  obtain ⟨_, y3, hc3, hy3, ht3⟩ := hf 3 _ rfl
  obtain ⟨_, y4, hc4, hy4, ht4⟩ := hf 4 _ rfl
  obtain rfl := Option.some.inj hc0
  obtain rfl := Option.some.inj hc1
  obtain rfl := Option.some.inj hc2
  obtain rfl := Option.some.inj hc3
  obtain rfl := Option.some.inj hc4
  obtain ⟨k, rfl, h0⟩ := open_num Tryd.underlying3 ht0
  obtain ⟨hd, rfl, h1⟩ := open_num Tryd.underlying3 ht1
  obtain ⟨ep, rfl, h2⟩ := open_num Tryd.underlying3 ht2
  obtain ⟨A, c, ps, rfl, h3⟩ := open_opv ht3 (bulk_field hx hb hy3)
  obtain ⟨s, rfl, h4⟩ := open_text Tryd.underlying9 ht4 (bulk_field hx hb hy4)
  exact ⟨k, hd, ep, A, c, ps, s, rfl, h0, h1, h2, h3, h4⟩
end
end Go.Proofs.YtbmdepbmejnlkaaDoor
