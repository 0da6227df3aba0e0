/-
  The plain law of a walker through an operation: what is left of it (no program in sight).
-/
import Derived.Test.YtbmdepbmejnlkaaDoorTransP
namespace Go.Proofs.YtbmdepbmejnlkaaDoor
open Go.RowKit Go.Lib
/-- The steps that are left where m steps of the k'th part are gone. -/
def remS (ps : List PartD) (k m : Nat) : List (Int × Int) := (stepsOf (ps.drop k)).drop m
structure WOk (ps : List PartD) (k m : Nat) : Prop where
  le : k ≤ ps.length
  lt : ∀ h : k < ps.length, m < (partSteps ps[k]).length
  z : k = ps.length → m = 0
/-- What is left of a part. -/
def headV (p : PartD) (m : Nat) : PartD := if p.kind = 2 then ⟨p.kind, p.n, runesBytes ((runesOf p.text).drop m)⟩ else ⟨p.kind, p.n - m, p.text⟩
theorem headV_ins {p : PartD} (h : p.kind = 2) (m : Nat) : headV p m = ⟨p.kind, p.n, runesBytes ((runesOf p.text).drop m)⟩ := if_pos h
theorem headV_oth {p : PartD} (h : p.kind ≠ 2) (m : Nat) : headV p m = ⟨p.kind, p.n - m, p.text⟩ := if_neg h
theorem okParts_mem : ∀ {ps : List PartD}, okParts ps → ∀ p ∈ ps, partFault p = 0
  | [], _, p, hp => by cases hp
  | q :: ps, ⟨h1, _, h2⟩, p, hp => by
    rcases List.mem_cons.1 hp with rfl | h
    · exact h1
    · exact okParts_mem h2 p h
theorem toList_nil {s : ByteArray} (h : s.toList = []) : s = ⟨#[]⟩ := by
  have h1 := congrArg List.length h
  rw [blen, size_eq] at h1
  have h2 : s.data.toList = [] := List.eq_nil_of_length_eq_zero (by simpa using h1)
  apply ba_ext
  rw [h2]
theorem partSteps_ins {p : PartD} (h : p.kind = 2) : partSteps p = insS (runesOf p.text) := if_pos h
theorem partSteps_oth {p : PartD} (h : p.kind ≠ 2) : partSteps p = othS p.kind p.n.toNat := if_neg h
theorem partSteps_some {p : PartD} (h : partFault p = 0) : 0 < (partSteps p).length ∧ (partSteps p).length ≤ 4000 := by
  by_cases h2 : p.kind = 2
  · obtain ⟨_, h4, h5⟩ := kind_two h h2
    rw [partSteps_ins h2]
    have h6 := (textFault_runes h4).1
    simp only [insS, List.length_map]
    rw [runesOf_length]
    refine ⟨?_, h6⟩
    have h7 : p.text.size ≠ 0 := by
      intro e
      apply h5
      have := blen p.text
      rw [e] at this
      exact List.eq_nil_of_length_eq_zero this
    unfold Lib.runeCount
    obtain ⟨n, hn⟩ : ∃ n, p.text.size = n + 1 := ⟨p.text.size - 1, by omega⟩
    rw [hn]
    unfold Lib.runeCountFrom
    rw [if_pos (by omega)]
    omega
  · obtain ⟨_, h4, h5, _⟩ := kind_other h h2
    rw [partSteps_oth h2]
    simp only [othS, List.length_replicate]
    omega
theorem WOk.start {ps : List PartD} (hok : okParts ps) : WOk ps 0 0 :=
  ⟨Nat.zero_le _, fun h => (partSteps_some (okParts_mem hok _ (List.getElem_mem h))).1, fun _ => rfl⟩
theorem remS_start (ps : List PartD) : remS ps 0 0 = stepsOf ps := by simp [remS]
theorem remS_end (ps : List PartD) (m : Nat) : remS ps ps.length m = [] := by simp [remS, stepsOf]
theorem remS_some {ps : List PartD} {k m : Nat} (hk : k < ps.length) (hm : m ≤ (partSteps ps[k]).length) : remS ps k m = (partSteps ps[k]).drop m ++ stepsOf (ps.drop (k + 1)) := by
  unfold remS
  rw [List.drop_eq_getElem_cons hk, stepsOf_cons, List.drop_append_of_le_length hm]
/-- What a walker shows. -/
theorem WOk.cases {ps : List PartD} {k m : Nat} (hok : okParts ps) (h : WOk ps k m) :
    (k = ps.length ∧ remS ps k m = []) ∨
    (∃ hk : k < ps.length, ∃ X, ps[k].kind = 2 ∧ X ≠ [] ∧ (∀ r ∈ X, Scal r) ∧ X.length ≤ 4000 ∧ remS ps k m = insS X ++ stepsOf (ps.drop (k + 1)) ∧ headV ps[k] m = ⟨2, 0, runesBytes X⟩) ∨
    (∃ hk : k < ps.length, ∃ q : Int, ∃ n : Nat, ps[k].kind ≠ 2 ∧ (q = 1 ∨ q = 3) ∧ 0 < n ∧ n ≤ 4000 ∧ remS ps k m = othS q n ++ stepsOf (ps.drop (k + 1)) ∧ headV ps[k] m = ⟨q, (n : Int), ⟨#[]⟩⟩) := by
  by_cases hk : k < ps.length
  · refine .inr ?_
    have hm := h.lt hk
    have hf := okParts_mem hok _ (List.getElem_mem hk)
    have hr := remS_some hk (Nat.le_of_lt hm)
    have hb := (partSteps_some hf).2
    by_cases h2 : ps[k].kind = 2
    · refine .inl ⟨hk, (runesOf ps[k].text).drop m, h2, ?_, fun r hr => runesOf_scal _ r (List.mem_of_mem_drop hr), ?_, ?_, ?_⟩
      · rw [partSteps_ins h2] at hm
        simp only [insS, List.length_map] at hm
        intro e
        have := congrArg List.length e
        rw [List.length_drop] at this
        simp at this
        omega
      · rw [partSteps_ins h2] at hb
        simp only [insS, List.length_map] at hb
        rw [List.length_drop]
        omega
      · rw [hr, partSteps_ins h2]
        simp only [insS, List.map_drop]
      · rw [headV_ins h2, h2, (kind_two hf h2).1]
    · obtain ⟨h4, h5, h6, h7⟩ := kind_other hf h2
      rw [partSteps_oth h2] at hm
      simp only [othS, List.length_replicate] at hm
      refine .inr ⟨hk, ps[k].kind, ps[k].n.toNat - m, h2, h4, by omega, by omega, ?_, ?_⟩
      · rw [hr, partSteps_oth h2]
        simp only [othS, List.drop_replicate]
      · rw [headV_oth h2, toList_nil h7, show ps[k].n - (m : Int) = ((ps[k].n.toNat - m : Nat) : Int) by omega]
  · have := h.le
    obtain rfl : k = ps.length := by omega
    exact .inl ⟨rfl, remS_end ps m⟩
/-- It goes on by j steps of the part. -/
theorem WOk.next {ps : List PartD} {k m j : Nat} (hok : okParts ps) (h : WOk ps k m) (hk : k < ps.length) (hj : m + j ≤ (partSteps ps[k]).length) {k' m' : Nat}
    (hn : (m + j = (partSteps ps[k]).length ∧ k' = k + 1 ∧ m' = 0) ∨ (m + j < (partSteps ps[k]).length ∧ k' = k ∧ m' = m + j)) :
    WOk ps k' m' ∧ remS ps k' m' = (remS ps k m).drop j := by
  have hm := h.lt hk
  rw [remS_some hk (Nat.le_of_lt hm), List.drop_append_of_le_length (by rw [List.length_drop]; omega), List.drop_drop]
  rcases hn with ⟨he, rfl, rfl⟩ | ⟨hl, rfl, rfl⟩
  · refine ⟨⟨by omega, fun h2 => (partSteps_some (okParts_mem hok _ (List.getElem_mem h2))).1, fun _ => rfl⟩, ?_⟩
    rw [he, List.drop_length, List.nil_append]
    simp [remS]
  · exact ⟨⟨h.le, fun _ => hl, fun e => by omega⟩, remS_some hk (Nat.le_of_lt hl)⟩
end Go.Proofs.YtbmdepbmejnlkaaDoor
