/-
  What edge.Hear answers, in plain words (no walk).
-/
import Derived.Test.YtbmdepbmejnlkaaDoorRows
import Derived.Test.YtbmdepbmejnlkaaDoorTransL
namespace Go.Proofs.YtbmdepbmejnlkaaDoor
open Go.ChangeShapes Go.WideShapes Go.ChangeAt Go.RowKit
set_option maxRecDepth 100000
theorem text_small {s : ByteArray} (h : textFault s = 0) : s.size ≤ 16000 := by
  obtain ⟨h1, h2⟩ := textFault_runes h
  have h3 := (runesBytes_le (runesOf s)).2
  rw [text_back s h2, runesOf_length] at h3
  omega
theorem part_small {p : PartD} (h : partFault p = 0) : p.text.size ≤ 16000 := by
  rcases partFault_zero h with ⟨_, _, h1, _⟩ | ⟨_, _, _, h1⟩
  · exact text_small h1
  · have := congrArg List.length h1
    rw [blen, List.length_nil] at this
    omega
theorem okParts_each {ps : List PartD} (h : okParts ps) : ∀ p ∈ ps, partFault p = 0 := by
  induction ps with
  | nil => simp
  | cons p ps ih =>
    intro q hq
    rcases List.mem_cons.1 hq with rfl | hq
    · exact h.1
    · exact ih h.2.2 q hq
/-- An operation without fault is small. -/
theorem fault_small {x : List PartD} (h : opFault x = 0) : x.length ≤ 1048576 ∧ ∀ p ∈ x, p.text.size ≤ 1048576 := by
  obtain ⟨h1, h2, _, _⟩ := opFault_zero h
  exact ⟨by omega, fun p hp => Nat.le_trans (part_small (okParts_each h2 p hp)) (by decide)⟩
theorem trE_fits {x y : List PartD} (h : trE x y = 0) : opFault (grouped (trC x y)) = 0 ∧ opFault (grouped (trD x y)) = 0 := by
  unfold trE at h
  by_cases q : bothErr x y ≠ 0
  · rw [if_pos q] at h
    exact absurd h q
  · rw [if_neg q] at h
    unfold fitsErr at h
    by_cases q2 : opFault (grouped (trC x y)) ≠ 0
    · rw [if_pos q2] at h
      exact absurd h q2
    · rw [if_neg q2] at h
      exact ⟨Classical.not_not.1 q2, h⟩
abbrev SmallD (x : List PartD) : Prop := x.length ≤ 1048576 ∧ ∀ p ∈ x, p.text.size ≤ 1048576
theorem trL_small (x y : List PartD) : SmallD (trL x y) := by
  unfold trL
  by_cases h : trE x y = 0
  · rw [if_pos h]
    exact fault_small (trE_fits h).1
  · rw [if_neg h]
    exact ⟨by simp, by simp⟩
theorem trR_small (x y : List PartD) : SmallD (trR x y) := by
  unfold trR
  by_cases h : trE x y = 0
  · rw [if_pos h]
    exact fault_small (trE_fits h).2
  · rw [if_neg h]
    exact ⟨by simp, by simp⟩
/-- One step of the loop: the error, what becomes of the pending one, and of the one that came. -/
def stE (up : Bool) (p here : List PartD) : Int := if up = true then trE p here else trE here p
def stP (up : Bool) (p here : List PartD) : List PartD := if up = true then trL p here else trR here p
def stH (up : Bool) (p here : List PartD) : List PartD := if up = true then trR p here else trL here p
theorem stP_small (up : Bool) (p here : List PartD) : SmallD (stP up p here) := by
  unfold stP
  split
  · exact trL_small _ _
  · exact trR_small _ _
theorem stH_small (up : Bool) (p here : List PartD) : SmallD (stH up p here) := by
  unfold stH
  split
  · exact trR_small _ _
  · exact trL_small _ _
/-- The whole loop: what is pending then, what the one that came is here, and the error. -/
def hearG (up : Bool) : List (List PartD) → List PartD → List (List PartD) → List (List PartD) × List PartD × Int
  | acc, here, [] => (acc, here, 0)
  | acc, here, p :: ps => if stE up p here ≠ 0 then ([], [], stE up p here) else hearG up (acc ++ [stP up p here]) (stH up p here) ps
/-- What is handed back of the loop's end. -/
def hearOut (s h : Int) (g : List (List PartD) × List PartD × Int) : Int × Int × List (List PartD) × List PartD × Int :=
  if g.2.2 = 0 then (s, h, g.1, g.2.1, 0) else (0, 0, [], [], g.2.2)
theorem hearG_step {up : Bool} {acc : List (List PartD)} {here p : List PartD} {ps : List (List PartD)} (h : stE up p here = 0) : hearG up acc here (p :: ps) = hearG up (acc ++ [stP up p here]) (stH up p here) ps := by
  show (if stE up p here ≠ 0 then _ else _) = _
  rw [if_neg (fun k => k h)]
theorem hearG_stop {up : Bool} {acc : List (List PartD)} {here p : List PartD} {ps : List (List PartD)} (h : stE up p here ≠ 0) : hearG up acc here (p :: ps) = ([], [], stE up p here) := if_pos h
theorem hearOut_stop {s h er : Int} (h0 : er ≠ 0) : hearOut s h ([], [], er) = (0, 0, [], [], er) := if_neg h0
theorem hearOut_ok {s h : Int} {acc : List (List PartD)} {here : List PartD} : hearOut s h (acc, here, 0) = (s, h, acc, here, 0) := if_pos rfl
/-- What edge.Hear answers: sent, heard, pending, the operation, the error. -/
def hearR (s h : Int) (D : List (List PartD)) (x : List PartD) (heard : Int) (up : Bool) : Int × Int × List (List PartD) × List PartD × Int :=
  hearOut s (h + 1) (hearG up [] x (D.drop (heard - (s - D.length)).toNat))
end Go.Proofs.YtbmdepbmejnlkaaDoor
