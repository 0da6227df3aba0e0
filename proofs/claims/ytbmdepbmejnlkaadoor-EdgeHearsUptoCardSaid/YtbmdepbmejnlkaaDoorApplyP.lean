/-
  The plain law of Apply: keeping, inserting and passing over by parts gives what doing so step by step gives (no program in sight).
-/
import Derived.Test.YtbmdepbmejnlkaaDoorMoveP
namespace Go.Proofs.YtbmdepbmejnlkaaDoor
open Go.RowKit Go.Lib
/-- The runes behind an operation, from the at'th of those before it on. -/
def appRunes (r : List Int) : List PartD → Nat → List Int
  | [], _ => []
  | p :: ps, at_ => if p.kind = 2 then runesOf p.text ++ appRunes r ps at_ else if p.kind = 1 then (r.drop at_).take p.n.toNat ++ appRunes r ps (at_ + p.n.toNat) else appRunes r ps (at_ + p.n.toNat)
/-- The same, step by step. -/
def appSteps (r : List Int) : List (Int × Int) → Nat → List Int
  | [], _ => []
  | x :: l, at_ => if x.1 = 2 then x.2 :: appSteps r l at_ else if x.1 = 1 then r.getD at_ 0 :: appSteps r l (at_ + 1) else appSteps r l (at_ + 1)
theorem appSteps_cons (r : List Int) (x : Int × Int) (l : List (Int × Int)) (at_ : Nat) : appSteps r (x :: l) at_ = if x.1 = 2 then x.2 :: appSteps r l at_ else if x.1 = 1 then r.getD at_ 0 :: appSteps r l (at_ + 1) else appSteps r l (at_ + 1) := rfl
theorem app_ins (r : List Int) (l : List (Int × Int)) (at_ : Nat) : ∀ rs : List Int, appSteps r (rs.map (fun x => ((2 : Int), x)) ++ l) at_ = rs ++ appSteps r l at_
  | [] => rfl
  | x :: rs => by
    rw [List.map_cons, List.cons_append]
    rw [appSteps_cons, if_pos rfl, app_ins r l at_ rs]
    rfl
theorem app_keep (r : List Int) (l : List (Int × Int)) : ∀ (n at_ : Nat), at_ + n ≤ r.length → appSteps r (List.replicate n ((1 : Int), (0 : Int)) ++ l) at_ = (r.drop at_).take n ++ appSteps r l (at_ + n)
  | 0, at_, _ => by simp
  | n + 1, at_, h => by
    rw [List.replicate_succ, List.cons_append]
    rw [appSteps_cons, if_neg (by decide), if_pos rfl, app_keep r l n _ (by omega), List.drop_eq_getElem_cons (show at_ < r.length by omega), List.take_succ_cons]
    rw [List.getD_eq_getElem?_getD, List.getElem?_eq_getElem (show at_ < r.length by omega)]
    rw [show at_ + 1 + n = at_ + (n + 1) by omega]
    rfl
theorem app_del (r : List Int) (k : Int) (h1 : k ≠ 1) (h2 : k ≠ 2) (l : List (Int × Int)) : ∀ (n at_ : Nat), appSteps r (List.replicate n (k, (0 : Int)) ++ l) at_ = appSteps r l (at_ + n)
  | 0, at_ => by simp
  | n + 1, at_ => by
    rw [List.replicate_succ, List.cons_append]
    rw [appSteps_cons, if_neg h2, if_neg h1, app_del r k h1 h2 l n, show at_ + 1 + n = at_ + (n + 1) by omega]
/-- How many runes an operation begins with. -/
def fromN : List PartD → Nat
  | [] => 0
  | p :: ps => (if p.kind = 2 then 0 else p.n.toNat) + fromN ps
theorem app_law (r : List Int) : ∀ (ps : List PartD) (at_ : Nat), okParts ps → at_ + fromN ps ≤ r.length → appSteps r (stepsOf ps) at_ = appRunes r ps at_
  | [], _, _, _ => rfl
  | p :: ps, at_, ⟨hp, _, hps⟩, hle => by
    rw [stepsOf_cons]
    unfold appRunes partSteps
    unfold fromN at hle
    by_cases h2 : p.kind = 2
    · rw [if_pos h2, if_pos h2, app_ins, app_law r ps at_ hps (by rw [if_pos h2] at hle; omega)]
    · obtain ⟨hk, _, _, _⟩ := kind_other hp h2
      rw [if_neg h2] at hle
      rw [if_neg h2, if_neg h2]
      by_cases h1 : p.kind = 1
      · rw [if_pos h1, h1, app_keep r _ _ _ (by omega), app_law r ps _ hps (by omega)]
      · rw [if_neg h1, app_del r _ h1 h2, app_law r ps _ hps (by omega)]
theorem wrap64_in {x : Int} (h1 : -9223372036854775808 ≤ x) (h2 : x ≤ 9223372036854775807) : wrap64 x = x := by
  unfold wrap64
  omega
/-- The lengths, without any wrap. -/
def toN : List PartD → Nat
  | [] => 0
  | p :: ps => (if p.kind = 2 then Lib.runeCount p.text else if p.kind = 1 then p.n.toNat else 0) + toN ps
theorem textFault_runes {s : ByteArray} (h : textFault s = 0) : Lib.runeCount s ≤ 4000 ∧ validD s.data.toList = true := by
  unfold textFault at h
  by_cases hv : validD s.data.toList = false
  · rw [if_pos hv] at h
    cases h
  · rw [if_neg hv] at h
    by_cases h4 : 4000 < Lib.runeCount s
    · rw [if_pos h4] at h
      cases h
    · exact ⟨by omega, by simpa using hv⟩
theorem lenStep_nat (p : PartD) (a b : Nat) (hp : partFault p = 0) (hle : a + b ≤ 9000000000000000000) :
    lenStep ((a : Int), (b : Int)) p = (((a + (if p.kind = 2 then 0 else p.n.toNat) : Nat) : Int), ((b + (if p.kind = 2 then Lib.runeCount p.text else if p.kind = 1 then p.n.toNat else 0) : Nat) : Int)) := by
  by_cases h2 : p.kind = 2
  · obtain ⟨_, ht, _⟩ := kind_two hp h2
    obtain ⟨hr, _⟩ := textFault_runes ht
    rw [show lenStep ((a : Int), (b : Int)) p = ((a : Int), wrap64 ((b : Int) + Lib.runeCount p.text)) by unfold lenStep; rw [if_neg (by omega), if_pos h2]]
    rw [wrap64_in (by omega) (by omega), if_pos h2, if_pos h2]
    exact Prod.ext (by simp) (by simp)
  · obtain ⟨hk, hn1, hn2, _⟩ := kind_other hp h2
    rw [if_neg h2, if_neg h2]
    by_cases h1 : p.kind = 1
    · rw [show lenStep ((a : Int), (b : Int)) p = (wrap64 ((a : Int) + p.n), wrap64 ((b : Int) + p.n)) by unfold lenStep; rw [if_pos h1]]
      rw [wrap64_in (by omega) (by omega), wrap64_in (by omega) (by omega), if_pos h1]
      exact Prod.ext (by simp only []; omega) (by simp only []; omega)
    · rw [show lenStep ((a : Int), (b : Int)) p = (wrap64 ((a : Int) + p.n), (b : Int)) by unfold lenStep; rw [if_neg h1, if_neg h2, if_pos (by omega)]]
      rw [wrap64_in (by omega) (by omega), if_neg h1]
      exact Prod.ext (by simp only []; omega) (by simp)
theorem lens_nat : ∀ (ps : List PartD) (a b : Nat), okParts ps → a + b + ps.length * 8000 ≤ 9000000000000000000 → ps.foldl lenStep ((a : Int), (b : Int)) = (((a + fromN ps : Nat) : Int), ((b + toN ps : Nat) : Int))
  | [], a, b, _, _ => by simp [fromN, toN]
  | p :: ps, a, b, ⟨hp, _, hps⟩, hle => by
    simp only [List.length_cons] at hle
    have hb : (if p.kind = 2 then 0 else p.n.toNat) + (if p.kind = 2 then Lib.runeCount p.text else if p.kind = 1 then p.n.toNat else 0) ≤ 8000 := by
      by_cases h2 : p.kind = 2
      · have := (textFault_runes (kind_two hp h2).2.1).1
        rw [if_pos h2, if_pos h2]
        omega
      · obtain ⟨_, hn1, hn2, _⟩ := kind_other hp h2
        rw [if_neg h2, if_neg h2]
        split <;> omega
    rw [List.foldl_cons, lenStep_nat p a b hp (by omega), lens_nat ps _ _ hps (by omega)]
    rw [show fromN (p :: ps) = (if p.kind = 2 then 0 else p.n.toNat) + fromN ps from rfl, show toN (p :: ps) = (if p.kind = 2 then Lib.runeCount p.text else if p.kind = 1 then p.n.toNat else 0) + toN ps from rfl, Nat.add_assoc, Nat.add_assoc]
theorem lens_eq {ps : List PartD} (h : okParts ps) (hl : ps.length ≤ 8001) : (lens ps).1 = (fromN ps : Int) ∧ (lens ps).2 = (toN ps : Int) := by
  have := lens_nat ps 0 0 h (by omega)
  unfold lens
  rw [show ((0 : Int), (0 : Int)) = (((0 : Nat) : Int), ((0 : Nat) : Int)) from rfl, this]
  simp
theorem op_from {ps : List PartD} (h : opFault ps = 0) : (lens ps).1 = (fromN ps : Int) ∧ (lens ps).2 = (toN ps : Int) ∧ fromN ps ≤ 4000 ∧ toN ps ≤ 4000 := by
  obtain ⟨h8, hok, h1, h2⟩ := opFault_zero h
  obtain ⟨e1, e2⟩ := lens_eq hok h8
  exact ⟨e1, e2, by omega, by omega⟩
theorem stepsOf_length : ∀ {ps : List PartD}, okParts ps → (stepsOf ps).length ≤ fromN ps + toN ps
  | [], _ => by simp [stepsOf]
  | p :: ps, ⟨hp, _, hps⟩ => by
    rw [stepsOf_cons, List.length_append]
    have ih := stepsOf_length hps
    unfold fromN toN partSteps
    by_cases h2 : p.kind = 2
    · rw [if_pos h2, if_pos h2, if_pos h2, List.length_map, runesOf_length]
      omega
    · rw [if_neg h2, if_neg h2, if_neg h2, List.length_replicate]
      omega
/-- What Apply answers. -/
def applyErr (s : ByteArray) (ps : List PartD) : Int := if textFault s ≠ 0 then textFault s else if opFault ps ≠ 0 then opFault ps else if (lens ps).1 ≠ (Lib.runeCount s : Int) then 10 else 0
def applyText (s : ByteArray) (ps : List PartD) : ByteArray := if applyErr s ps = 0 then runesBytes (appRunes (runesOf s) ps 0) else ⟨#[]⟩
end Go.Proofs.YtbmdepbmejnlkaaDoor
