/-
  The plain law of Move: what the program's loop answers is what counting step by step answers (no program in sight).
-/
import Derived.Test.YtbmdepbmejnlkaaDoorCheck
import Derived.Test.YtbmdepbmejnlkaaDoorRunes
namespace Go.Proofs.YtbmdepbmejnlkaaDoor
open Go.RowKit Go.Lib
/-- The steps of a part: its kind and rune, one for each rune. -/
def partSteps (p : PartD) : List (Int × Int) := if p.kind = 2 then (runesOf p.text).map (fun r => (2, r)) else List.replicate p.n.toNat (p.kind, 0)
def stepsOf (ps : List PartD) : List (Int × Int) := ps.flatMap partSteps
theorem stepsOf_cons (p : PartD) (ps : List PartD) : stepsOf (p :: ps) = partSteps p ++ stepsOf ps := rfl
/-- The program's loop: the place, and how long both texts are so far. -/
def moveGo (push : Bool) : List PartD → Int → Int → Int → Int
  | [], _, _, new => new
  | p :: ps, at_, old, new =>
    if p.kind = 2 then (if at_ < old ∨ (old = at_ ∧ push = false) then new + at_ - old else moveGo push ps at_ old (new + Lib.runeCount p.text))
    else if p.kind = 1 then (if at_ < old + p.n then new + at_ - old else moveGo push ps at_ (old + p.n) (new + p.n))
    else moveGo push ps (if at_ < old + p.n then old + p.n else at_) (old + p.n) new
/-- The reference's loop. -/
def movedGo (push : Bool) : List (Int × Int) → Int → Int → Int → Int
  | [], _, _, new => new
  | x :: l, at_, old, new =>
    if x.1 = 2 then movedGo push l at_ old (if old < at_ ∨ (old = at_ ∧ push = true) then new + 1 else new)
    else movedGo push l at_ (old + 1) (if x.1 = 1 ∧ old < at_ then new + 1 else new)
theorem movedGo_cons (push : Bool) (x : Int × Int) (l : List (Int × Int)) (at_ old new : Int) : movedGo push (x :: l) at_ old new =
    if x.1 = 2 then movedGo push l at_ old (if old < at_ ∨ (old = at_ ∧ push = true) then new + 1 else new) else movedGo push l at_ (old + 1) (if x.1 = 1 ∧ old < at_ then new + 1 else new) := rfl
theorem moved_past (push : Bool) : ∀ (l : List (Int × Int)) (at_ old new : Int), at_ < old → movedGo push l at_ old new = new
  | [], _, _, _, _ => rfl
  | x :: l, at_, old, new, h => by
    unfold movedGo
    by_cases hx : x.1 = 2
    · rw [if_pos hx, if_neg (by omega), moved_past push l _ _ _ h]
    · rw [if_neg hx, if_neg (by omega), moved_past push l _ _ _ (by omega)]
theorem moved_stay : ∀ (l : List (Int × Int)) (at_ new : Int), movedGo false l at_ at_ new = new
  | [], _, _ => rfl
  | x :: l, at_, new => by
    unfold movedGo
    by_cases hx : x.1 = 2
    · rw [if_pos hx, if_neg (by simp), moved_stay l]
    · rw [if_neg hx, if_neg (by omega), moved_past false l _ _ _ (by omega)]
theorem moved_ins (push : Bool) (l : List (Int × Int)) : ∀ (rs : List Int) (at_ old new : Int), (old < at_ ∨ (old = at_ ∧ push = true)) → movedGo push (rs.map (fun r => ((2 : Int), r)) ++ l) at_ old new = movedGo push l at_ old (new + rs.length)
  | [], _, _, _, _ => by simp
  | r :: rs, at_, old, new, h => by
    rw [List.map_cons, List.cons_append]
    rw [movedGo_cons, if_pos rfl, if_pos h, moved_ins push l rs _ _ _ h]
    congr 1
    simp only [List.length_cons]
    omega
theorem moved_keep (push : Bool) (l : List (Int × Int)) : ∀ (n : Nat) (at_ old new : Int), old ≤ at_ →
    movedGo push (List.replicate n ((1 : Int), (0 : Int)) ++ l) at_ old new = if at_ < old + n then new + at_ - old else movedGo push l at_ (old + n) (new + n)
  | 0, at_, old, new, h => by
    rw [if_neg (by omega)]
    simp
  | n + 1, at_, old, new, h => by
    rw [List.replicate_succ, List.cons_append]
    rw [movedGo_cons, if_neg (by decide)]
    by_cases hlt : old < at_
    · rw [if_pos ⟨rfl, hlt⟩, moved_keep push l n _ _ _ (by omega)]
      have e1 : old + 1 + (n : Int) = old + (n + 1 : Nat) := by omega
      have e2 : new + 1 + (n : Int) = new + (n + 1 : Nat) := by omega
      have e3 : new + 1 + at_ - (old + 1) = new + at_ - old := by omega
      rw [e1, e2, e3]
    · rw [if_neg (by omega), if_pos (by omega), moved_past push _ _ _ _ (by omega)]
      omega
theorem moved_del (push : Bool) (k : Int) (h1 : k ≠ 1) (h2 : k ≠ 2) (l : List (Int × Int)) : ∀ (n : Nat) (at_ old new : Int),
    movedGo push (List.replicate n (k, (0 : Int)) ++ l) at_ old new = movedGo push l at_ (old + n) new
  | 0, at_, old, new => by simp
  | n + 1, at_, old, new => by
    rw [List.replicate_succ, List.cons_append]
    rw [movedGo_cons, if_neg h2, if_neg (fun h => h1 h.1), moved_del push k h1 h2 l n]
    congr 1
    omega
/-- What a refused part cannot be, and what two neighbours cannot. -/
def okParts : List PartD → Prop
  | [] => True
  | p :: ps => partFault p = 0 ∧ (∀ q, ps.head? = some q → clash p q = false) ∧ okParts ps
theorem partFault_zero {p : PartD} (h : partFault p = 0) : (p.kind = 2 ∧ p.n = 0 ∧ textFault p.text = 0 ∧ p.text.toList ≠ []) ∨ ((p.kind = 1 ∨ p.kind = 3) ∧ 1 ≤ p.n ∧ p.n ≤ 4000 ∧ p.text.toList = []) := by
  unfold partFault at h
  by_cases h2 : p.kind = 2
  · rw [if_pos h2] at h
    by_cases h3 : textFault p.text ≠ 0
    · rw [if_pos h3] at h
      exact absurd h h3
    · rw [if_neg h3] at h
      by_cases h4 : p.text.toList = [] ∨ p.n ≠ 0
      · rw [if_pos h4] at h
        cases h
      · refine .inl ⟨h2, ?_, ?_, ?_⟩
        · exact Classical.not_not.1 fun q => h4 (.inr q)
        · exact Classical.not_not.1 h3
        · exact fun q => h4 (.inl q)
  · rw [if_neg h2] at h
    by_cases h3 : p.kind = 1 ∨ p.kind = 3
    · rw [if_pos h3] at h
      by_cases h4 : p.n < 1 ∨ 4000 < p.n
      · rw [if_pos h4] at h
        cases h
      · rw [if_neg h4] at h
        by_cases h5 : p.text.toList ≠ []
        · rw [if_pos h5] at h
          cases h
        · exact .inr ⟨h3, by omega, by omega, Classical.not_not.1 h5⟩
    · rw [if_neg h3] at h
      cases h
theorem okParts_of (ps : List PartD) (h : ∀ i, i < ps.length → badAt ps i = 0) : okParts ps := by
  have key : ∀ (qs : List PartD) (n : Nat), qs = ps.drop n → okParts qs := by
    intro qs
    induction qs with
    | nil => intro _ _; trivial
    | cons p qs ih =>
      intro n hn
      have hl : n < ps.length := by
        have := congrArg List.length hn
        rw [List.length_drop, List.length_cons] at this
        omega
      have e0 : p = ps[n] ∧ qs = ps.drop (n + 1) := by
        rw [List.drop_eq_getElem_cons hl] at hn
        injection hn with a b
        exact ⟨a, b⟩
      obtain ⟨rfl, rfl⟩ := e0
      have hp : partFault ps[n] = 0 := by
        rcases Classical.em (partFault ps[n] = 0) with q | q
        · exact q
        · have := h n hl
          rw [badAt_part hl q] at this
          exact this
      refine ⟨hp, ?_, ih (n + 1) rfl⟩
      intro q hq
      rw [List.head?_drop] at hq
      obtain ⟨hl2, rfl⟩ := List.getElem?_eq_some_iff.1 hq
      have h1 := h (n + 1) hl2
      have hq0 : partFault ps[n + 1] = 0 := by
        rcases Classical.em (partFault ps[n + 1] = 0) with q | q
        · exact q
        · rw [badAt_part hl2 q] at h1
          exact h1
      rw [badAt_succ hl2 hq0] at h1
      cases hc : clash ps[n] ps[n + 1]
      · rfl
      · rw [hc] at h1
        cases h1
  exact key ps 0 (by simp)
/-- What an operation that may be is. -/
theorem opFault_zero {ps : List PartD} (h : opFault ps = 0) : ps.length ≤ 8001 ∧ okParts ps ∧ (lens ps).1 ≤ 4000 ∧ (lens ps).2 ≤ 4000 := by
  by_cases h8 : 8001 < ps.length
  · rw [opFault_long h8] at h
    cases h
  by_cases hg : ∀ i, i < ps.length → badAt ps i = 0
  · rw [opFault_good h8 hg] at h
    by_cases hl : 4000 < (lens ps).1 ∨ 4000 < (lens ps).2
    · rw [if_pos hl] at h
      cases h
    · exact ⟨by omega, okParts_of ps hg, by omega, by omega⟩
  · exfalso
    have hex : ∃ n, n < ps.length ∧ badAt ps n ≠ 0 := by
      apply Classical.byContradiction
      intro hn
      apply hg
      intro i hi
      apply Classical.byContradiction
      intro hb
      exact hn ⟨i, hi, hb⟩
    have hmin : ∀ n, n < ps.length → badAt ps n ≠ 0 → ∃ k, k < ps.length ∧ badAt ps k ≠ 0 ∧ ∀ i, i < k → badAt ps i = 0 := by
      intro n
      induction n using Nat.strongRecOn with
      | ind n ih =>
        intro hn hb
        by_cases hall : ∀ i, i < n → badAt ps i = 0
        · exact ⟨n, hn, hb, hall⟩
        · have : ∃ i, i < n ∧ badAt ps i ≠ 0 := by
            apply Classical.byContradiction
            intro hc
            apply hall
            intro i hi
            apply Classical.byContradiction
            intro hq
            exact hc ⟨i, hi, hq⟩
          obtain ⟨i, hi, hq⟩ := this
          exact ih i hi (by omega) hq
    obtain ⟨n, hn, hb⟩ := hex
    obtain ⟨k, hk, hbk, hall⟩ := hmin n hn hb
    rw [opFault_bad h8 hk hall hbk] at h
    exact hbk h
theorem kind_two {p : PartD} (h : partFault p = 0) (h2 : p.kind = 2) : p.n = 0 ∧ textFault p.text = 0 ∧ p.text.toList ≠ [] := by
  rcases partFault_zero h with q | q
  · exact q.2
  · omega
theorem kind_other {p : PartD} (h : partFault p = 0) (h2 : p.kind ≠ 2) : (p.kind = 1 ∨ p.kind = 3) ∧ 1 ≤ p.n ∧ p.n ≤ 4000 ∧ p.text.toList = [] := by
  rcases partFault_zero h with q | q
  · exact absurd q.1 h2
  · exact q
theorem move_law (push : Bool) : ∀ (ps : List PartD) (at_ old new : Int), okParts ps → old ≤ at_ → moveGo push ps at_ old new = movedGo push (stepsOf ps) at_ old new
  | [], _, _, _, _, _ => rfl
  | p :: ps, at_, old, new, ⟨hp, hc, hps⟩, hle => by
    rw [stepsOf_cons]
    unfold moveGo partSteps
    by_cases h2 : p.kind = 2
    · rw [if_pos h2, if_pos h2]
      by_cases hs : at_ < old ∨ (old = at_ ∧ push = false)
      · rw [if_pos hs]
        have e : old = at_ ∧ push = false := by
          rcases hs with q | q
          · omega
          · exact q
        obtain ⟨rfl, rfl⟩ := e
        rw [moved_stay]
        omega
      · rw [if_neg hs, moved_ins push _ _ _ _ _ (by cases push <;> simp at hs ⊢ <;> omega), runesOf_length]
        exact move_law push ps _ _ _ hps hle
    · obtain ⟨hk, hn1, hn2, _⟩ := kind_other hp h2
      rw [if_neg h2, if_neg h2]
      have hnn : ((p.n.toNat : Nat) : Int) = p.n := by omega
      by_cases h1 : p.kind = 1
      · rw [if_pos h1, h1, moved_keep push _ _ _ _ _ hle, hnn]
        by_cases hs : at_ < old + p.n
        · rw [if_pos hs, if_pos hs]
        · rw [if_neg hs, if_neg hs]
          exact move_law push ps _ _ _ hps (by omega)
      · have h3 : p.kind = 3 := by omega
        rw [if_neg h1, moved_del push _ h1 h2, hnn]
        by_cases hs : at_ < old + p.n
        · rw [if_pos hs, moved_past push _ _ _ _ hs]
          rcases ps with _ | ⟨q, r⟩
          · rfl
          · obtain ⟨hq, _, _⟩ := hps
            have hcl := hc q rfl
            unfold moveGo
            have hq2 : q.kind ≠ 2 := by
              intro e
              simp [clash, h3, e] at hcl
            have hq3 : q.kind ≠ 3 := by
              intro e
              simp [clash, h3, e] at hcl
            obtain ⟨hk', hn1', _, _⟩ := kind_other hq hq2
            rw [if_neg hq2, if_pos (by omega), if_pos (by omega)]
            omega
        · rw [if_neg hs]
          exact move_law push ps _ _ _ hps (by omega)
end Go.Proofs.YtbmdepbmejnlkaaDoor
