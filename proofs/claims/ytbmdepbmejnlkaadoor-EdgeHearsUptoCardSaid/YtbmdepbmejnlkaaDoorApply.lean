/-
  Contracts of text.Apply and its reference Applied.
-/
import Derived.Test.YtbmdepbmejnlkaaDoorRows
import Derived.Test.YtbmdepbmejnlkaaDoorCheck
import Derived.Test.YtbmdepbmejnlkaaDoorSteps
import Derived.Test.YtbmdepbmejnlkaaDoorOpCopy
import Derived.Test.YtbmdepbmejnlkaaDoorApplyP
import Derived.Test.YtbmdepbmejnlkaaDoorSBuild
import Derived.Laws.Cover4
namespace Go.Proofs.YtbmdepbmejnlkaaDoor
open Go.ChangeShapes Go.WideShapes Go.ChangeAt Go.RowKit
set_option maxRecDepth 100000
theorem convPiece {W : World} {g : Nat} {rs : List Int} (h : RunesAt W g rs) (a n c : Nat) (hn : a + n ≤ rs.length) : (convert 112 9 (.slice (some ⟨g, a, none⟩) n c)).run Tryd.prog W = .ok (.string (runesBytes ((rs.drop a).take n))) W := by
  have hl : n = ((rs.drop a).take n).length := by simp; omega
  have key := run_convert_runes (P := Tryd.prog) W 112 9 21 ⟨g, a, none⟩ n c ((rs.drop a).take n) (Nat.le_of_eq hl) Tryd.underlying112 Tryd.underlying21 Tryd.underlying9 (fun j hj => by
    have hj2 : a + j < rs.length := by rw [← hl] at hj; omega
    have hj3 : j < n := by rw [← hl] at hj; exact hj
    have := h.cells (a + j) _ (runes_getD rs (a + j) hj2)
    rw [Nat.zero_add] at this
    rw [Go.WideShapes.add_plain, this]
    congr 2
    rw [List.getD_eq_getElem?_getD, List.getD_eq_getElem?_getD, List.getElem?_take, if_pos hj3, List.getElem?_drop])
  rw [key, List.take_of_length_le (Nat.le_of_eq hl.symm)]
/-- What Apply's loop has still to write. -/
def appBytes (r : List Int) (ps : List PartD) (a : Nat) : List UInt8 := (runesBytes (appRunes r ps a)).data.toList
theorem appBytes_keep {r : List Int} {n : Nat} {s : ByteArray} {ps : List PartD} {a : Nat} : appBytes r (⟨1, (n : Int), s⟩ :: ps) a = (runesBytes ((r.drop a).take n)).data.toList ++ appBytes r ps (a + n) := by
  unfold appBytes
  rw [show appRunes r (⟨1, (n : Int), s⟩ :: ps) a = (r.drop a).take n ++ appRunes r ps (a + n) from rfl, runesBytes_append, ByteArray.data_append, Array.toList_append]
theorem appBytes_ins {r : List Int} {n : Int} {s : ByteArray} {ps : List PartD} {a : Nat} (hv : Lib.validD s.data.toList = true) : appBytes r (⟨2, n, s⟩ :: ps) a = s.data.toList ++ appBytes r ps a := by
  unfold appBytes
  rw [show appRunes r (⟨2, n, s⟩ :: ps) a = runesOf s ++ appRunes r ps a from rfl, runesBytes_append, ByteArray.data_append, Array.toList_append, text_back s hv]
theorem appBytes_del {r : List Int} {n : Nat} {s : ByteArray} {ps : List PartD} {a : Nat} : appBytes r (⟨3, (n : Int), s⟩ :: ps) a = appBytes r ps (a + n) := rfl
theorem appRunes_length (r : List Int) : ∀ (ps : List PartD) (a : Nat), (appRunes r ps a).length ≤ toN ps
  | [], _ => by simp [appRunes]
  | p :: ps, a => by
    unfold appRunes toN
    by_cases h2 : p.kind = 2
    · rw [if_pos h2, if_pos h2, List.length_append, runesOf_length]
      have := appRunes_length r ps a
      omega
    · rw [if_neg h2, if_neg h2]
      by_cases h1 : p.kind = 1
      · rw [if_pos h1, if_pos h1, List.length_append, List.length_take]
        have := appRunes_length r ps (a + p.n.toNat)
        omega
      · rw [if_neg h1, if_neg h1]
        have := appRunes_length r ps (a + p.n.toNat)
        omega
theorem RunesAt.below {w w' : World} {g B : Nat} {rs : List Int} (h : RunesAt w g rs) (hb : Below B w w') (hg : g < B) : RunesAt w' g rs :=
  ⟨Nat.lt_of_lt_of_le h.lt hb.size, fun j u hu => (hb.cell (p := ⟨g, 0 + j, none⟩) hg).trans (h.cells j u hu)⟩
theorem fromN_oth {k n : Int} {s : ByteArray} {ps : List PartD} (h : k ≠ 2) : fromN (⟨k, n, s⟩ :: ps) = n.toNat + fromN ps := by
  rw [show fromN (⟨k, n, s⟩ :: ps) = (if k = 2 then 0 else n.toNat) + fromN ps from rfl, if_neg h]
end Go.Proofs.YtbmdepbmejnlkaaDoor
