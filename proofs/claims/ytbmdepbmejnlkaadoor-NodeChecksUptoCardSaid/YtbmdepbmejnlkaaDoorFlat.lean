/-
  Slices of elements of n cells each: the cells of the k'th, and how such a slice that came in is opened (for every element that can be opened).
-/
import Derived.Test.YtbmdepbmejnlkaaDoorRows
import Derived.Test.YtbmdepbmejnlkaaDoorOpenB
namespace Go.Proofs.YtbmdepbmejnlkaaDoor
open Go.ChangeShapes Go.WideShapes Go.ChangeAt Go.RowKit Go.Joins Go.Deep
theorem box_at' {w w1 : World} {vs : Array Value} {t : TypeId} (hb : Below (w.alloc (.cells vs t)).heap.size (w.alloc (.cells vs t)) w1) (j : Nat) : w1.cell? ⟨w.heap.size, j, none⟩ = vs[j]? := by
  rw [hb.cell (p := ⟨w.heap.size, j, none⟩) (by simp), World.cell?_alloc_new]
theorem box_below' {w w1 : World} {o : Obj} (hb : Below (w.alloc o).heap.size (w.alloc o) w1) : Below w.heap.size w w1 := bThen (bAlloc (Below.refl _ _) o) hb
section
variable {α : Type} (f : α → List Value) (n : Nat) (hf : ∀ x, (f x).length = n)
include hf
theorem flat_length (L : List α) : (L.flatMap f).length = L.length * n := by
  induction L with
  | nil => simp
  | cons x L ih => rw [List.flatMap_cons, List.length_append, ih, hf, List.length_cons, Nat.succ_mul]; omega
theorem flat_get (L : List α) : ∀ (k j : Nat) (hk : k < L.length) (_ : j < n), (L.flatMap f)[k * n + j]? = (f L[k])[j]? := by
  induction L with
  | nil => intro k j hk; exact absurd hk (by simp)
  | cons p L ih =>
    intro k j hk hj
    rw [List.flatMap_cons]
    cases k with
    | zero =>
      rw [List.getElem?_append_left (by rw [hf]; omega)]
      simp
    | succ k =>
      rw [List.getElem?_append_right (by rw [hf, Nat.succ_mul]; omega), hf]
      rw [show (k + 1) * n + j - n = k * n + j by rw [Nat.succ_mul]; omega, ih k j (by simpa using hk) hj]
      rfl
theorem row_at {S : Nat → Prop} {w : World} {A : Option Addr} {L : List α} (h : Sl S w n A L.length (L.flatMap f)) {k : Nat} (hk : k < L.length) :
    ∃ b o, A = some ⟨b, o, none⟩ ∧ S b ∧ ∀ j u, (f L[k])[j]? = some u → w.cell? ⟨b, o + k * n + j, none⟩ = some u := by
  obtain ⟨b, o, e, hb, hc⟩ := h.2 (by omega)
  refine ⟨b, o, e, hb, fun j u hu => ?_⟩
  have hj : j < n := by
    have := (List.getElem?_eq_some_iff.1 hu).1
    rwa [hf] at this
  have := hc (k * n + j) u (by rw [flat_get f n hf L k j hk hj]; exact hu)
  rwa [← Nat.add_assoc] at this
end
section
variable {H : Type} {enc : TypeId × Value → H} {P : Program} {w : World} {m : Nat}
theorem open_rows {α : Type} [Inhabited α] (f : α → List Value) (n : Nat) (hf : ∀ x, (f x).length = n) (hn : 0 < n) (Q : α → Prop) {t e : TypeId} {v : Value} {y : DataW H × List MemPlace} (ht : P.underlying t = some (.slice e)) (hC : P.cellsOf e = n)
    (hopen : ∀ m cs (y : DataW H × List MemPlace), DataW.trod enc P w 0 (fun _ => true) true m e cs = some y → Rows.uptoBulk y.1 ≤ 1048576 → ∃ x, cs = f x ∧ Q x)
    (h : DataW.trod enc P w 0 (fun _ => true) true m t [v] = some y) (hbulk : Rows.uptoBulk y.1 ≤ 1048576) :
    ∃ (A : Option Addr) (c : Nat) (L : List α), v = .slice A L.length c ∧ L.length ≤ c ∧ c ≤ 9223372036854775807 ∧ Sl (· < w.heap.size) w n A L.length (L.flatMap f) ∧ L.length ≤ Rows.uptoBulk y.1 ∧ ∀ x ∈ L, Q x := by
  rcases open_slice ht h with ⟨hcs, hx⟩ | ⟨a, len, cap, mm, n', D, Pl, hcs, _, hl, hm, hmm, hx, hi⟩
  · obtain rfl : v = .slice none 0 0 := by simpa using hcs
    exact ⟨none, 0, [], rfl, by simp, by omega, Sl.nil, by simp, by simp⟩
  · obtain rfl : v = .slice (some a) len cap := by simpa using hcs
    simp only [if_true] at hmm
    subst hmm
    unfold maxLen at hm
    have hy1 : y.1 = .slice ((List.range len).map D) ((List.range (mm - len)).map fun j => D (len + j)) := by rw [hx]
    rw [hy1, bulk_slice] at hbulk
    have hrow : ∀ i, ∃ o : α, i < len → (∀ j u, (f o)[j]? = some u → w.cell? (a.add (i * n + j)) = some u) ∧ Q o := by
      intro i
      by_cases hil : i < len
      · obtain ⟨cs', hc, ht'⟩ := hi i (by omega)
        rw [hC] at hc
        obtain ⟨_, hcl, hat⟩ := World.cells?_some hc
        have hDi : Rows.uptoBulk (D i) ≤ 1048576 := by
          have := bulk_mem (show D i ∈ (List.range len).map D from List.mem_map.2 ⟨i, List.mem_range.2 hil, rfl⟩)
          omega
        obtain ⟨o, rfl, hq⟩ := hopen _ _ _ ht' hDi
        refine ⟨o, fun _ => ⟨fun j u hu => ?_, hq⟩⟩
        have hj : j < n := by
          have := (List.getElem?_eq_some_iff.1 hu).1
          rwa [hf] at this
        have h0 := hat _ hj
        rw [← Go.Deep.add_add, h0, ← hu]
      · exact ⟨default, fun h => absurd h hil⟩
    obtain ⟨g, hg⟩ := Classical.skolem.1 hrow
    have hlen : ((List.range len).map g).length = len := by simp
    refine ⟨some a, mm, (List.range len).map g, by rw [hlen], by rw [hlen]; exact hl, hm, ⟨flat_length f n hf _, fun h0 => ?_⟩, ?_, ?_⟩
    · rw [hlen] at h0
      have h00 : ∃ u, w.cell? (a.add (0 * n + 0)) = some u := by
        have hz : 0 < (f (g 0)).length := by rw [hf]; exact hn
        exact ⟨_, (hg 0 h0).1 0 _ (List.getElem?_eq_getElem hz)⟩
      obtain ⟨u0, hu0⟩ := h00
      obtain ⟨b, o, sp⟩ := a
      have hsp : sp = none := by simpa [Addr.add] using World.cell?_spot hu0
      subst hsp
      refine ⟨b, o, rfl, ?_, fun j u hu => ?_⟩
      · rw [Go.WideShapes.add_plain] at hu0
        exact block_lt_of_cell hu0
      · have hjl : j < len * n := by
          have := (List.getElem?_eq_some_iff.1 hu).1
          rw [flat_length f n hf, hlen] at this
          exact this
        have hdm : j = (j / n) * n + j % n := by rw [Nat.mul_comm]; exact (Nat.div_add_mod j n).symm
        have hq : j / n < len := (Nat.div_lt_iff_lt_mul hn).2 hjl
        have hq2 : j / n < ((List.range len).map g).length := by rw [hlen]; exact hq
        have hr : j % n < n := Nat.mod_lt _ hn
        rw [hdm, flat_get f n hf _ _ _ hq2 hr] at hu
        have := (hg (j / n) hq).1 (j % n) u (by simpa using hu)
        rw [Go.WideShapes.add_plain, ← hdm] at this
        exact this
    · rw [hlen, hy1, bulk_slice]
      have := bulk_length ((List.range len).map D)
      simp at this
      omega
    · intro x hx
      obtain ⟨i, hi', rfl⟩ := List.mem_map.1 hx
      exact (hg i (List.mem_range.1 hi')).2
end
end Go.Proofs.YtbmdepbmejnlkaaDoor
