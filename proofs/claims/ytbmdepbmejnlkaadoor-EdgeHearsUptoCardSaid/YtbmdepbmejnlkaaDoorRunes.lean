/-
  Texts as lists of runes (no program in sight): what []rune gives, what string of runes gives, and that a valid text comes back.
-/
import Derived.Test.YtbmdepbmejnlkaaDoorOps
import Derived.Laws.Cover4
import Derived.Lib.MapLaws
import Derived.Lib.ValidLaws
import Derived.Lib.TrimUEq
namespace Go.Proofs.YtbmdepbmejnlkaaDoor
open Go.RowKit Go.Lib
def runesAt (s : ByteArray) : Nat → Nat → List Int
  | 0, _ => []
  | f + 1, i => if i < s.size then ((Utf8.decode s i).1 : Int) :: runesAt s f (i + (Utf8.decode s i).2) else []
/-- The runes of a text. -/
def runesOf (s : ByteArray) : List Int := runesAt s s.size 0
theorem conv_runesAt (s : ByteArray) : ∀ (f i : Nat) (acc : Array Value), Conv.runesFrom s f i acc = acc ++ ((runesAt s f i).map (Value.int .i32)).toArray
  | 0, _, acc => by simp [Conv.runesFrom, runesAt]
  | f + 1, i, acc => by
    unfold Conv.runesFrom runesAt
    by_cases h : i < s.size
    · simp only [h, if_true]
      rw [conv_runesAt s f]
      simp
    · simp [h]
theorem conv_runes (s : ByteArray) : Conv.runesFrom s s.size 0 #[] = ((runesOf s).map (Value.int .i32)).toArray := by
  rw [conv_runesAt]; simp [runesOf]
theorem runesOf_length (s : ByteArray) : (runesOf s).length = Lib.runeCount s := by
  have h := runes_count s
  rw [conv_runes] at h
  simpa using h
theorem encode_bad (r : Int) (h : Utf8.valid r = false) : (Utf8.encode r).data.toList = [239, 191, 189] := by
  simp [Utf8.encode, h, Utf8.runeError]
theorem encode_good (n : Nat) (v : Utf8.valid (n : Int) = true) (hv : ((n : Int) < 55296) ∨ (57344 ≤ (n : Int) ∧ (n : Int) ≤ 1114111)) : (Utf8.encode (n : Int)).data.toList = encodeRune n := by
  unfold encodeRune
  by_cases c1 : n < 128
  · rw [encodeRuneZ_one (by omega) (by omega)]
    simp [Utf8.encode, v, c1]
  by_cases c2 : n < 2048
  · rw [encodeRuneZ_two (by omega) (by omega)]
    simp only [Utf8.encode, v, c1, c2, if_true, if_false, Int.toNat_natCast, List.map_cons, List.map_nil]
    rw [show (192 + (n : Int) / 64).toNat = 192 + n / 64 by omega, show (128 + (n : Int) % 64).toNat = 128 + n % 64 by omega]
  by_cases c3 : n < 65536
  · rw [encodeRuneZ_three (by omega)]
    simp only [Utf8.encode, v, c1, c2, c3, if_true, if_false, Int.toNat_natCast, List.map_cons, List.map_nil]
    rw [show (224 + (n : Int) / 4096).toNat = 224 + n / 4096 by omega, show (128 + (n : Int) / 64 % 64).toNat = 128 + n / 64 % 64 by omega, show (128 + (n : Int) % 64).toNat = 128 + n % 64 by omega]
  · rw [encodeRuneZ_four (by omega) (by omega)]
    simp only [Utf8.encode, v, c1, c2, c3, if_true, if_false, Int.toNat_natCast, List.map_cons, List.map_nil]
    rw [show (240 + (n : Int) / 262144).toNat = 240 + n / 262144 by omega, show (128 + (n : Int) / 4096 % 64).toNat = 128 + n / 4096 % 64 by omega, show (128 + (n : Int) / 64 % 64).toNat = 128 + n / 64 % 64 by omega, show (128 + (n : Int) % 64).toNat = 128 + n % 64 by omega]
theorem encode_eq (r : Int) : (Utf8.encode r).data.toList = encodeRune r := by
  by_cases h : Utf8.valid r = true
  · have h0 : 0 ≤ r := by
      simp [Utf8.valid] at h
      omega
    obtain ⟨n, rfl⟩ : ∃ n : Nat, r = n := ⟨r.toNat, by omega⟩
    exact encode_good n h (by simp [Utf8.valid] at h; omega)
  · rw [encode_bad r (by simpa using h)]
    have h' : ¬ ((0 ≤ r ∧ r < 55296) ∨ (57344 ≤ r ∧ r ≤ 1114111)) := by
      intro q
      apply h
      simp [Utf8.valid]
      omega
    unfold encodeRune encodeRuneZ
    rw [if_neg (by omega), if_neg (by omega), if_neg (by omega), if_neg (by omega)]
    rfl
theorem foldl_data : ∀ (rs : List Int) (s : ByteArray), (rs.foldl (fun r n => r ++ Utf8.encode n) s).data.toList = s.data.toList ++ rs.flatMap encodeRune
  | [], s => by simp
  | r :: rs, s => by
    rw [List.foldl_cons, foldl_data rs, ByteArray.data_append, Array.toList_append, encode_eq]
    simp
theorem runesBytes_data (rs : List Int) : (runesBytes rs).data.toList = rs.flatMap encodeRune := by
  unfold runesBytes
  rw [foldl_data]
  rfl
theorem ba_ext {a b : ByteArray} (h : a.data.toList = b.data.toList) : a = b := by
  obtain ⟨⟨a⟩⟩ := a
  obtain ⟨⟨b⟩⟩ := b
  simp at h
  subst h
  rfl
theorem runesBytes_append (a b : List Int) : runesBytes (a ++ b) = runesBytes a ++ runesBytes b := by
  apply ba_ext
  rw [ByteArray.data_append, Array.toList_append, runesBytes_data, runesBytes_data, runesBytes_data]
  simp
theorem runesAt_back (s : ByteArray) : ∀ (f i : Nat), s.size ≤ i + f → validD (s.data.toList.drop i) = true → (runesAt s f i).flatMap encodeRune = s.data.toList.drop i
  | 0, i, h, _ => by
    have : s.data.toList.drop i = [] := List.drop_eq_nil_of_le (by rw [← size_eq]; omega)
    simp [runesAt, this]
  | f + 1, i, h, hv => by
    unfold runesAt
    by_cases hi : i < s.size
    · have hne : s.data.toList.drop i ≠ [] := by
        intro h0
        have := congrArg List.length h0
        rw [List.length_drop, ← size_eq] at this
        simp at this
        omega
      rw [validD_step _ hne] at hv
      by_cases hb : (decodeL (s.data.toList.drop i)).1 = 65533 ∧ (decodeL (s.data.toList.drop i)).2 = 1
      · rw [if_pos hb] at hv
        cases hv
      · rw [if_neg hb, List.drop_drop] at hv
        have he := encode_decode _ hne hb
        have hw := decodeL_width (s.data.toList.drop i)
        rw [decodeL_drop] at he hv hw
        rw [if_pos hi, List.flatMap_cons, he, runesAt_back s f _ (by omega) hv, ← List.drop_drop, List.take_append_drop]
    · rw [if_neg hi]
      have : s.data.toList.drop i = [] := List.drop_eq_nil_of_le (by rw [← size_eq]; omega)
      simp [this]
/-- A valid text comes back. -/
theorem text_back (s : ByteArray) (h : validD s.data.toList = true) : runesBytes (runesOf s) = s := by
  apply ba_ext
  rw [runesBytes_data]
  exact runesAt_back s s.size 0 (by omega) (by simpa using h)
theorem runesAt_rune (s : ByteArray) : ∀ (f i : Nat), ∀ r ∈ runesAt s f i, 0 ≤ r ∧ r ≤ 1114111
  | 0, _ => by simp [runesAt]
  | f + 1, i => by
    unfold runesAt
    intro r hr
    by_cases hi : i < s.size
    · rw [if_pos hi] at hr
      rcases List.mem_cons.1 hr with rfl | h
      · have := decodeL_rune (s.data.toList.drop i)
        rw [decodeL_drop] at this
        omega
      · exact runesAt_rune s f _ r h
    · rw [if_neg hi] at hr
      cases hr
theorem runesOf_rune (s : ByteArray) : ∀ r ∈ runesOf s, 0 ≤ r ∧ r ≤ 1114111 := runesAt_rune s _ _
end Go.Proofs.YtbmdepbmejnlkaaDoor
