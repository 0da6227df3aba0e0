/-
  Contracts of text.size, text.Move and the reference's Moved.
-/
import Derived.Test.YtbmdepbmejnlkaaDoorRows
import Derived.Test.YtbmdepbmejnlkaaDoorCheck
import Derived.Test.YtbmdepbmejnlkaaDoorSteps
import Derived.Test.YtbmdepbmejnlkaaDoorApplyP
import Derived.Test.YtbmdepbmejnlkaaDoorIn
namespace Go.Proofs.YtbmdepbmejnlkaaDoor
open Go.ChangeShapes Go.WideShapes Go.ChangeAt Go.RowKit
set_option maxRecDepth 100000
theorem size_ins (n : Int) (s : ByteArray) (w : World) (hs : s.size ≤ 1048576) :
    Calls Tryd.prog 79 #[partV 2 n s] w fun e w' => e = .returned (.int .i64 (Lib.runeCount s)) ∧ Below w.heap.size w w' := by
  go_enter Tryd.func79, Tryd.ntmps79
  go_wp2_with fail
  refine (runeCount_c s _ hs).mono ?_
  rintro e w1 ⟨rfl, hb1⟩
  obtain ⟨⟨d1, os1⟩, rfl⟩ := beyond_of hb1
  go_wp2_with fail
  go_ret
  exact ⟨rfl, (by repeat (first | exact Below.refl _ _ | apply bGrow | apply bAlloc | apply Below.drew | apply bDrewN | apply bIter))⟩
theorem size_oth (k n : Int) (s : ByteArray) (w : World) (hk : (k == 2) = false) :
    Calls Tryd.prog 79 #[partV k n s] w fun e w' => e = .returned (.int .i64 n) ∧ Below w.heap.size w w' := by
  go_enter Tryd.func79, Tryd.ntmps79
  go_wp2_with fail
  go_ret
  exact ⟨rfl, (by repeat (first | exact Below.refl _ _ | apply bGrow | apply bAlloc | apply Below.drew | apply bDrewN | apply bIter))⟩
theorem ok_mem : ∀ {ps : List PartD}, okParts ps → ∀ p ∈ ps, partFault p = 0
  | [], _, p, hp => by cases hp
  | q :: ps, ⟨h1, _, h2⟩, p, hp => by
    rcases List.mem_cons.1 hp with rfl | h
    · exact h1
    · exact ok_mem h2 p h
theorem move_ins_stop {push : Bool} {n : Int} {s : ByteArray} {ps : List PartD} {old new R : Int} (h : moveGo push (⟨2, n, s⟩ :: ps) old old new = R) (hp : push = false) : new + old - old = R := by
  unfold moveGo at h
  rwa [if_pos rfl, if_pos (.inr ⟨rfl, hp⟩)] at h
theorem move_ins_go {push : Bool} {n : Int} {s : ByteArray} {ps : List PartD} {at_ old new R : Int} (h : moveGo push (⟨2, n, s⟩ :: ps) at_ old new = R) (hp : ¬ (at_ < old ∨ (old = at_ ∧ push = false))) : moveGo push ps at_ old (new + Lib.runeCount s) = R := by
  unfold moveGo at h
  rwa [if_pos rfl, if_neg hp] at h
theorem move_keep_stop {push : Bool} {n : Int} {s : ByteArray} {ps : List PartD} {at_ old new R : Int} (h : moveGo push (⟨1, n, s⟩ :: ps) at_ old new = R) (hp : at_ < old + n) : new + at_ - old = R := by
  unfold moveGo at h
  rwa [if_neg (by simp), if_pos rfl, if_pos hp] at h
theorem move_keep_go {push : Bool} {n : Int} {s : ByteArray} {ps : List PartD} {at_ old new R : Int} (h : moveGo push (⟨1, n, s⟩ :: ps) at_ old new = R) (hp : ¬ at_ < old + n) : moveGo push ps at_ (old + n) (new + n) = R := by
  unfold moveGo at h
  rwa [if_neg (by simp), if_pos rfl, if_neg hp] at h
theorem move_del_over {push : Bool} {n : Int} {s : ByteArray} {ps : List PartD} {at_ old new R : Int} (h : moveGo push (⟨3, n, s⟩ :: ps) at_ old new = R) (hp : at_ < old + n) : moveGo push ps (old + n) (old + n) new = R := by
  unfold moveGo at h
  rwa [if_neg (by simp), if_neg (by simp), if_pos hp] at h
theorem move_del_go {push : Bool} {n : Int} {s : ByteArray} {ps : List PartD} {at_ old new R : Int} (h : moveGo push (⟨3, n, s⟩ :: ps) at_ old new = R) (hp : ¬ at_ < old + n) : moveGo push ps at_ (old + n) new = R := by
  unfold moveGo at h
  rwa [if_neg (by simp), if_neg (by simp), if_neg hp] at h
/-- What Move refuses. -/
def moveErr (at_ : Int) (ps : List PartD) : Int := if opFault ps ≠ 0 then opFault ps else if at_ < 0 ∨ (lens ps).1 < at_ then 2 else 0
end Go.Proofs.YtbmdepbmejnlkaaDoor
