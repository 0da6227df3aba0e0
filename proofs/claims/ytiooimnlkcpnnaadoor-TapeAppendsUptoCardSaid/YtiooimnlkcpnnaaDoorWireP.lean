/-
  Numbers, texts and operations as bytes: plain functions (no program in sight).
-/
import Derived.Test.YtiooimnlkcpnnaaDoorOps
namespace Go.Proofs.YtiooimnlkcpnnaaDoor
open Go.RowKit
/-- A number: seven bits a byte, the lowest first. -/
def sevensL (n : Nat) : List UInt8 := if n < 128 then [UInt8.ofNat n] else UInt8.ofNat (128 + n % 128) :: sevensL (n / 128)
termination_by n
decreasing_by omega
theorem sevens_small {n : Nat} (h : n < 128) : sevensL n = [UInt8.ofNat n] := by
  rw [sevensL, if_pos h]
theorem sevens_big {n : Nat} (h : ¬ n < 128) : sevensL n = UInt8.ofNat (128 + n % 128) :: sevensL (n / 128) := by
  rw [sevensL, if_neg h]
theorem sevens_le : ∀ (k n : Nat), n < 128 ^ (k + 1) → (sevensL n).length ≤ k + 1
  | 0, n, h => by
    rw [sevens_small (by simpa using h)]
    simp
  | k + 1, n, h => by
    by_cases h1 : n < 128
    · rw [sevens_small h1]
      simp
    · rw [sevens_big h1, List.length_cons]
      have := sevens_le k (n / 128) (by rw [Nat.div_lt_iff_lt_mul (by omega)]; rwa [Nat.pow_succ] at h)
      omega
theorem sevens_ten {n : Nat} (h : n ≤ 9223372036854775807) : (sevensL n).length ≤ 10 := by
  refine sevens_le 9 n ?_
  have e : 128 ^ (9 + 1) = 1180591620717411303424 := by decide
  rw [e]
  omega
theorem sevens_pos (n : Nat) : 1 ≤ (sevensL n).length := by
  by_cases h1 : n < 128
  · rw [sevens_small h1]; simp
  · rw [sevens_big h1]; simp
def textL (s : ByteArray) : List UInt8 := sevensL s.size ++ s.data.toList
def partL (p : PartD) : List UInt8 := sevensL p.kind.toNat ++ (if p.kind = 2 then textL p.text else sevensL p.n.toNat)
def opL (ps : List PartD) : List UInt8 := sevensL ps.length ++ ps.flatMap partL
def opUpto (ps : List PartD) (k : Nat) : List UInt8 := sevensL ps.length ++ (ps.take k).flatMap partL
theorem opUpto_succ (ps : List PartD) (k : Nat) (h : k < ps.length) : opUpto ps (k + 1) = opUpto ps k ++ partL ps[k] := by
  unfold opUpto
  rw [List.take_succ_eq_append_getElem h, List.flatMap_append]
  simp
theorem opUpto_all (ps : List PartD) : opUpto ps ps.length = opL ps := by
  unfold opUpto opL
  rw [List.take_length]
theorem opUpto_le (ps : List PartD) (k : Nat) : (opUpto ps k).length ≤ (opL ps).length := by
  have h : opL ps = opUpto ps k ++ (ps.drop k).flatMap partL := by
    unfold opUpto opL
    rw [List.append_assoc, ← List.flatMap_append, List.take_append_drop]
  rw [h]
  simp
theorem byte_small {n : Nat} (h : n < 256) : ((UInt8.ofNat n).toNat : Int) = (n : Int) := by
  rw [UInt8.toNat_ofNat']
  omega
theorem ba_len' (s : ByteArray) : s.data.toList.length = s.size := rfl
theorem textL_length {s : ByteArray} (h : s.size ≤ 1048576) : (textL s).length ≤ 1048600 := by
  unfold textL
  have := sevens_ten (n := s.size) (by omega)
  rw [List.length_append, ba_len']
  omega
/-- What an operation's parts must be to be written. -/
structure PartD.Writ (p : PartD) : Prop where
  kind : 0 ≤ p.kind ∧ p.kind ≤ 9223372036854775807
  num : p.kind ≠ 2 → 0 ≤ p.n ∧ p.n ≤ 9223372036854775807
  text : p.text.size ≤ 1048576
theorem partL_writ {p : PartD} (h : p.Writ) : (partL p).length ≤ 1048610 := by
  unfold partL
  have a := sevens_ten (n := p.kind.toNat) (by have := h.kind; omega)
  have c := textL_length h.text
  rw [List.length_append]
  split
  · omega
  · rename_i q
    have b := sevens_ten (n := p.n.toNat) (by have := h.num q; omega)
    omega
theorem flat_bound : ∀ {ps : List PartD}, (∀ p ∈ ps, p.Writ) → (ps.flatMap partL).length ≤ ps.length * 1048610
  | [], _ => by simp
  | p :: ps, h => by
    have a := partL_writ (h p (List.mem_cons.2 (.inl rfl)))
    have b := flat_bound (ps := ps) (fun q hq => h q (List.mem_cons.2 (.inr hq)))
    rw [List.flatMap_cons, List.length_append, List.length_cons]
    omega
theorem opL_bound {ps : List PartD} (hm : ps.length ≤ 8001) (h : ∀ p ∈ ps, p.Writ) : (opL ps).length ≤ 9000000000 := by
  unfold opL
  have a := sevens_ten (n := ps.length) (by omega)
  have b := flat_bound h
  rw [List.length_append]
  omega
theorem opUpto_bound {ps : List PartD} (k : Nat) (hm : ps.length ≤ 8001) (h : ∀ p ∈ ps, p.Writ) : (opUpto ps k).length ≤ 9000000000 := Nat.le_trans (opUpto_le ps k) (opL_bound hm h)
end Go.Proofs.YtiooimnlkcpnnaaDoor
