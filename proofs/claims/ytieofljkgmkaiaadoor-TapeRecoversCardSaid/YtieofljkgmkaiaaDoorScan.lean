/-
  What a tape's bytes hold: the records that are whole, and how far they reach (no program in sight).
-/
import Derived.Test.YtieofljkgmkaiaaDoorReadC
namespace Go.Proofs.YtieofljkgmkaiaaDoor
open Go.RowKit
/-- How long the record is that stands ahead, as its three bytes say. -/
def recLen (l : List UInt8) : Nat := 65536 * (l.getD 0 0).toNat + 256 * (l.getD 1 0).toNat + (l.getD 2 0).toNat
def recBody (l : List UInt8) : List UInt8 := (l.drop 3).take (recLen l)
def recWhole (l : List UInt8) : Prop := 3 + recLen l ≤ l.length ∧ (readRec (recBody l)).2.2 = 0
instance (l : List UInt8) : Decidable (recWhole l) := by
  unfold recWhole
  exact inferInstance
def recScan (l : List UInt8) : List (Int × List PartD) × Nat :=
  if recWhole l then (((readRec (recBody l)).1, (readRec (recBody l)).2.1) :: (recScan (l.drop (3 + recLen l))).1, 3 + recLen l + (recScan (l.drop (3 + recLen l))).2) else ([], 0)
  termination_by l.length
  decreasing_by
    all_goals (rename_i h; have := h.1; simp; omega)
/-- How far the tape is synced, cut at n. -/
def cutSync (n : Nat) (sy : Int) : Int := if (n : Int) < sy then n else sy
theorem cutSync_min (k : Nat) (sy : Int) : cutSync k sy = min sy k := by
  unfold cutSync
  split <;> omega
theorem recScan_yes {l : List UInt8} (h : recWhole l) : recScan l = (((readRec (recBody l)).1, (readRec (recBody l)).2.1) :: (recScan (l.drop (3 + recLen l))).1, 3 + recLen l + (recScan (l.drop (3 + recLen l))).2) := by
  rw [recScan, if_pos h]
theorem recScan_no {l : List UInt8} (h : ¬ recWhole l) : recScan l = ([], 0) := by
  rw [recScan, if_neg h]
/-- What is found when the bytes are read as far as k. -/
def Scanned (bs : List UInt8) (k : Nat) (R : List (Int × List PartD)) : Prop :=
  recScan bs = (R ++ (recScan (bs.drop k)).1, k + (recScan (bs.drop k)).2)
theorem Scanned.start (bs : List UInt8) : Scanned bs 0 [] := by
  unfold Scanned
  simp
theorem Scanned.next {bs : List UInt8} {k n : Nat} {R : List (Int × List PartD)} {x : Int × List PartD × Int} (h : Scanned bs k R) (hn : recLen (bs.drop k) = n) (hl : k + 3 + n ≤ bs.length) (hx : readRec (((bs.drop k).drop 3).take n) = x) (h0 : x.2.2 = 0) : Scanned bs (k + 3 + n) (R ++ [(x.1, x.2.1)]) := by
  subst hn
  subst hx
  have hw : recWhole (bs.drop k) := ⟨by simp; omega, h0⟩
  unfold Scanned at h ⊢
  rw [h, recScan_yes hw, List.drop_drop, show k + (3 + recLen (bs.drop k)) = k + 3 + recLen (bs.drop k) by omega]
  unfold recBody
  simp
  omega
theorem Scanned.stop {bs : List UInt8} {k : Nat} {R : List (Int × List PartD)} (h : Scanned bs k R) (hn : ¬ recWhole (bs.drop k)) : recScan bs = (R, k) := by
  unfold Scanned at h
  rw [h, recScan_no hn]
  simp
theorem not_short {bs : List UInt8} {k : Nat} (h : ¬ k + 3 ≤ bs.length) (hk : k ≤ bs.length) : ¬ recWhole (bs.drop k) := fun q => by have := q.1; simp at this; omega
theorem not_long {bs : List UInt8} {k n : Nat} (hn : recLen (bs.drop k) = n) (h : ¬ k + 3 + n ≤ bs.length) (hk : k ≤ bs.length) : ¬ recWhole (bs.drop k) := fun q => by have := q.1; simp at this; omega
theorem not_read {bs : List UInt8} {k n : Nat} {x : Int × List PartD × Int} (hn : recLen (bs.drop k) = n) (hx : readRec (((bs.drop k).drop 3).take n) = x) (h0 : x.2.2 ≠ 0) : ¬ recWhole (bs.drop k) := fun q => by
  subst hn
  subst hx
  exact h0 q.2
theorem recScan_len (n : Nat) : ∀ bs : List UInt8, bs.length ≤ n → (recScan bs).1.length ≤ bs.length ∧ (recScan bs).2 ≤ bs.length ∧ ∀ r ∈ (recScan bs).1, r.2.length ≤ 1048576 := by
  induction n with
  | zero =>
    intro bs h
    have hn : ¬ recWhole bs := fun q => by have := q.1; omega
    rw [recScan_no hn]
    simp
  | succ n ih =>
    intro bs h
    by_cases hw : recWhole bs
    · have h1 := hw.1
      obtain ⟨q1, q2, q3⟩ := ih (bs.drop (3 + recLen bs)) (by rw [List.length_drop]; omega)
      rw [List.length_drop] at q1 q2
      rw [recScan_yes hw]
      refine ⟨by rw [List.length_cons]; omega, by dsimp only; omega, fun r hr => ?_⟩
      rcases List.mem_cons.1 hr with rfl | hr
      · exact readRec_len _
      · exact q3 r hr
    · rw [recScan_no hw]
      simp
end Go.Proofs.YtieofljkgmkaiaaDoor
