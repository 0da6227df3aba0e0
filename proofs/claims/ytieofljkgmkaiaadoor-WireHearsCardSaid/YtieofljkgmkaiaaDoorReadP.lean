/-
  Reading bytes as numbers, texts and operations: plain functions (no program in sight).
-/
import Derived.Test.YtieofljkgmkaiaaDoorOps
namespace Go.Proofs.YtieofljkgmkaiaaDoor
open Go.RowKit
/-- The number that is next, i bytes of it being read: its value, what is left, what was wrong. -/
def numGo (i : Nat) (acc : Int) : List UInt8 → Int × List UInt8 × Int
  | [] => (0, [], 5)
  | c :: l => if (0 < i ∧ c.toNat = 0) ∨ (i = 3 ∧ 127 < c.toNat) then (0, [], 4)
    else if c.toNat < 128 then (acc + (c.toNat : Int) % 128 * 128 ^ i, l, 0) else numGo (i + 1) (acc + (c.toNat : Int) % 128 * 128 ^ i) l
theorem numGo_nil (i : Nat) (acc : Int) : numGo i acc [] = (0, [], 5) := rfl
theorem numGo_bad (i : Nat) (acc : Int) (c : UInt8) (l : List UInt8) (h : (0 < i ∧ c.toNat = 0) ∨ (i = 3 ∧ 127 < c.toNat)) : numGo i acc (c :: l) = (0, [], 4) := by
  rw [numGo, if_pos h]
theorem numGo_end (i : Nat) (acc : Int) (c : UInt8) (l : List UInt8) (h : ¬ ((0 < i ∧ c.toNat = 0) ∨ (i = 3 ∧ 127 < c.toNat))) (h2 : c.toNat < 128) : numGo i acc (c :: l) = (acc + (c.toNat : Int) % 128 * 128 ^ i, l, 0) := by
  rw [numGo, if_neg h, if_pos h2]
theorem numGo_more (i : Nat) (acc : Int) (c : UInt8) (l : List UInt8) (h : ¬ ((0 < i ∧ c.toNat = 0) ∨ (i = 3 ∧ 127 < c.toNat))) (h2 : ¬ c.toNat < 128) : numGo i acc (c :: l) = numGo (i + 1) (acc + (c.toNat : Int) % 128 * 128 ^ i) l := by
  rw [numGo, if_neg h, if_neg h2]
/-- No number that is read is as big as this. -/
def numTop : Int := 268435456
/-- What a reading of a number brings: its bounds, how much it takes. -/
structure NumOk (l : List UInt8) (x : Int × List UInt8 × Int) : Prop where
  lo : 0 ≤ x.1
  hi : x.1 < numTop
  len : x.2.1.length ≤ l.length
  less : x.2.2 = 0 → x.2.1.length < l.length
  bad : x.2.2 ≠ 0 → x.1 = 0
theorem numGo_ok : ∀ (l : List UInt8) (i : Nat) (acc : Int), i ≤ 3 → 0 ≤ acc → acc < 128 ^ i → NumOk l (numGo i acc l)
  | [], i, acc, _, _, _ => by
    rw [numGo_nil]
    exact ⟨by decide, by decide, Nat.le_refl _, fun h => absurd h (by decide), fun _ => rfl⟩
  | c :: l, i, acc, hi, h0, h1 => by
    have hb : 0 ≤ (c.toNat : Int) % 128 ∧ (c.toNat : Int) % 128 ≤ 127 := by omega
    by_cases a1 : (0 < i ∧ c.toNat = 0) ∨ (i = 3 ∧ 127 < c.toNat)
    · rw [numGo_bad i acc c l a1]
      exact ⟨by decide, by decide, by simp, fun h => absurd h (by decide), fun _ => rfl⟩
    · have hnew : 0 ≤ acc + (c.toNat : Int) % 128 * 128 ^ i ∧ acc + (c.toNat : Int) % 128 * 128 ^ i < 128 ^ (i + 1) := by
        obtain rfl | rfl | rfl | rfl : i = 0 ∨ i = 1 ∨ i = 2 ∨ i = 3 := by omega
        all_goals (simp at h1 ⊢; omega)
      by_cases a2 : c.toNat < 128
      · rw [numGo_end i acc c l a1 a2]
        refine ⟨hnew.1, ?_, by simp, fun _ => by simp, fun h => absurd rfl h⟩
        have : (128 : Int) ^ (i + 1) ≤ numTop := by
          obtain rfl | rfl | rfl | rfl : i = 0 ∨ i = 1 ∨ i = 2 ∨ i = 3 := by omega
          all_goals decide
        have := hnew.2
        omega
      · rw [numGo_more i acc c l a1 a2]
        have := numGo_ok l (i + 1) _ (by omega) hnew.1 hnew.2
        exact ⟨this.lo, this.hi, Nat.le_trans this.len (by simp), fun h => Nat.lt_of_lt_of_le (this.less h) (by simp), this.bad⟩
def readNum (l : List UInt8) (f : Int) : Int × List UInt8 × Int := if f = 0 then numGo 0 0 l else (0, l, f)
theorem readNum_ok (l : List UInt8) : NumOk l (readNum l 0) := by
  unfold readNum
  rw [if_pos rfl]
  exact numGo_ok l 0 0 (by omega) (by omega) (by decide)
structure NumAny (l : List UInt8) (x : Int × List UInt8 × Int) : Prop where
  lo : 0 ≤ x.1
  hi : x.1 < numTop
  len : x.2.1.length ≤ l.length
  bad : x.2.2 ≠ 0 → x.1 = 0
theorem readNum_any (l : List UInt8) (f : Int) : NumAny l (readNum l f) := by
  by_cases h : f = 0
  · subst h
    have := readNum_ok l
    exact ⟨this.lo, this.hi, this.len, this.bad⟩
  · unfold readNum
    rw [if_neg h]
    exact ⟨Int.le_refl 0, by show (0 : Int) < _; decide, Nat.le_refl _, fun _ => rfl⟩
theorem readNum_keep (l : List UInt8) {f : Int} (h : f ≠ 0) : readNum l f = (0, l, f) := by
  unfold readNum
  rw [if_neg h]
/-- The text that is next. -/
def textOf (x : Int × List UInt8 × Int) : ByteArray × List UInt8 × Int :=
  if (x.2.1.length : Int) < x.1 then (⟨#[]⟩, [], 5) else (⟨(x.2.1.take x.1.toNat).toArray⟩, x.2.1.drop x.1.toNat, x.2.2)
def readText (l : List UInt8) (f : Int) : ByteArray × List UInt8 × Int := textOf (readNum l f)
/-- The part that is next. -/
def readPart (l : List UInt8) (f : Int) : PartD × List UInt8 × Int :=
  if (readNum l f).1 = 2 then (⟨2, 0, (readText (readNum l f).2.1 (readNum l f).2.2).1⟩, (readText (readNum l f).2.1 (readNum l f).2.2).2)
  else (⟨(readNum l f).1, (readNum (readNum l f).2.1 (readNum l f).2.2).1, ⟨#[]⟩⟩, (readNum (readNum l f).2.1 (readNum l f).2.2).2)
/-- So many parts. -/
def readParts : Nat → List UInt8 → Int → List PartD × List UInt8 × Int
  | 0, l, f => ([], l, f)
  | n + 1, l, f => if f = 0 then ((readPart l f).1 :: (readParts n (readPart l f).2.1 (readPart l f).2.2).1, (readParts n (readPart l f).2.1 (readPart l f).2.2).2) else ([], l, f)
/-- The operation that is next. -/
def readOp (l : List UInt8) (f : Int) : List PartD × List UInt8 × Int := readParts (readNum l f).1.toNat (readNum l f).2.1 (readNum l f).2.2
theorem text_len (l : List UInt8) (f : Int) : (readText l f).2.1.length ≤ l.length ∧ (readText l f).1.size ≤ l.length := by
  have h := readNum_any l f
  unfold readText textOf
  split
  · exact ⟨by simp, by show (0 : Nat) ≤ _; omega⟩
  · refine ⟨?_, ?_⟩
    · have := h.len
      simp
      omega
    · have := h.len
      show (List.take _ _).toArray.size ≤ _
      simp
      omega
theorem part_len (l : List UInt8) : (readPart l 0).2.1.length ≤ l.length ∧ ((readPart l 0).2.2 = 0 → (readPart l 0).2.1.length < l.length) ∧ (readPart l 0).1.text.size ≤ l.length := by
  have h := readNum_ok l
  unfold readPart
  split
  · have ht := text_len (readNum l 0).2.1 (readNum l 0).2.2
    have := h.len
    refine ⟨by dsimp only; omega, fun hf => ?_, by dsimp only; omega⟩
    dsimp only at hf ⊢
    by_cases hz : (readNum l 0).2.2 = 0
    · have := h.less hz
      omega
    · exfalso
      rename_i h2
      have := h.bad hz
      omega
  · have ht := readNum_any (readNum l 0).2.1 (readNum l 0).2.2
    have := h.len
    have := ht.len
    refine ⟨by dsimp only; omega, fun hf => ?_, by show (0 : Nat) ≤ _; omega⟩
    dsimp only at hf ⊢
    by_cases hz : (readNum l 0).2.2 = 0
    · have := h.less hz
      omega
    · rw [readNum_keep _ hz] at hf
      exact absurd hf hz
theorem parts_len : ∀ (n : Nat) (l : List UInt8) (f : Int), (readParts n l f).1.length ≤ l.length + 1 ∧ (readParts n l f).2.1.length ≤ l.length ∧ ∀ p ∈ (readParts n l f).1, p.text.size ≤ l.length
  | 0, l, f => ⟨by simp [readParts], by simp [readParts], by simp [readParts]⟩
  | n + 1, l, f => by
    by_cases hf : f = 0
    · subst hf
      have hp := part_len l
      have ih := parts_len n (readPart l 0).2.1 (readPart l 0).2.2
      rw [readParts, if_pos rfl]
      dsimp only
      refine ⟨?_, by omega, ?_⟩
      · by_cases hz : (readPart l 0).2.2 = 0
        · have := hp.2.1 hz
          rw [List.length_cons]
          omega
        · cases n with
          | zero => simp [readParts]
          | succ n => simp [readParts, hz]
      · intro p hmem
        rcases List.mem_cons.1 hmem with rfl | h
        · exact hp.2.2
        · exact Nat.le_trans (ih.2.2 p h) hp.1
    · rw [readParts, if_neg hf]
      exact ⟨by simp, by simp, by simp⟩
theorem op_len (l : List UInt8) (f : Int) : (readOp l f).1.length ≤ l.length + 1 ∧ (readOp l f).2.1.length ≤ l.length ∧ ∀ p ∈ (readOp l f).1, p.text.size ≤ l.length := by
  have h := readNum_any l f
  have k := parts_len (readNum l f).1.toNat (readNum l f).2.1 (readNum l f).2.2
  have := h.len
  unfold readOp
  exact ⟨by omega, by omega, fun p hp => by have := k.2.2 p hp; omega⟩
end Go.Proofs.YtieofljkgmkaiaaDoor
