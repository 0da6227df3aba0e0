/-
  Contracts of the tape calls that only copy bytes.
-/
import Derived.Test.YtieofljkgmkaiaaDoorRows
import Derived.Test.YtieofljkgmkaiaaDoorBase
import Derived.Test.YtieofljkgmkaiaaDoorIn
namespace Go.Proofs.YtieofljkgmkaiaaDoor
open Go.ChangeShapes Go.WideShapes Go.ChangeAt Go.RowKit
set_option maxRecDepth 100000
theorem infoByte : (Tryd.prog.info? 5).map (fun i => (i.zero, i.size, i.bytes)) = some (some (.int .u8 0), 1, 1) := by kernel_rfl
/-- A call that hands back these bytes in memory of its own. -/
def RetBytes (w : World) (bs : List UInt8) (e : Ending) (w' : World) : Prop :=
  ∃ A c, e = .returned (.slice A bs.length c) ∧ w'.ownsRow w.heap.size 5 1 (.slice A bs.length c) bs.length (bs.map byteV) ∧ Below w.heap.size w w'
theorem byteV_one : ∀ (bs : List UInt8), ∀ u ∈ bs.map byteV, u.oneCell' = true := by
  intro bs u hu
  obtain ⟨b, _, rfl⟩ := List.mem_map.1 hu
  rfl
theorem octets_c (w : World) (A : Option Addr) (c : Nat) (bs : List UInt8) (hs : Sl (· < w.heap.size) w 1 A bs.length (bs.map byteV)) (hm : bs.length ≤ 140737488351232) :
    Calls Tryd.prog 39 #[.slice A bs.length c] w (RetBytes w bs) := by
  obtain ⟨i0, hi, hz0, hz1, hz2⟩ := info_parts infoByte
  go_enter Tryd.func39, Tryd.ntmps39
  go_wp2_with (at_builtin; refine wpList_append_sl _ rfl _ _ 47 rfl w.heap.size 5 i0 (.int .u8 0) 1 1 Tryd.underlying47 hi hz0 hz1 hz2 rfl (by decide) _ _ _ rfl (World.ownsRow_nil _ _ _ _) _ _ _ _ _ rfl hs (byteV_one bs) ?c1 ?c2 (Nat.le_refl _) ?_)
  case c1 => unfold maxLen; omega
  case c2 => omega
  intro A' c' w1 hown hgrow hat
  go_wp2
  go_ret
  exact ⟨A', c', by simp, hown, (Below.refl _ _).grown hgrow (Nat.le_refl _) (fun k hk => by cases hk)⟩
theorem CloneBytes_c (w : World) (A : Option Addr) (c : Nat) (bs : List UInt8) (hs : Sl (· < w.heap.size) w 1 A bs.length (bs.map byteV)) (hm : bs.length ≤ 140737488351232) :
    Calls Tryd.prog 89 #[.slice A bs.length c] w (RetBytes w bs) := by
  obtain ⟨i0, hi, hz0, hz1, hz2⟩ := info_parts infoByte
  rcases A with _ | ad
  · have hb : bs = [] := by
      rcases Nat.eq_zero_or_pos bs.length with h | h
      · exact List.eq_nil_of_length_eq_zero h
      · obtain ⟨_, _, h, _⟩ := hs.2 h
        cases h
    subst hb
    have hnil := fun wx => Lib.run_eql_slice_nil (P := Tryd.prog) wx 47 5 none 0 c 0 0 Tryd.underlying47
    go_enter Tryd.func89, Tryd.ntmps89
    go_wp2
    go_ret
    exact ⟨none, 0, by simp, World.ownsRow_nil _ _ _ _, Below.refl _ _⟩
  · have hnil := fun wx => Lib.run_eql_slice_nil (P := Tryd.prog) wx 47 5 (some ad) bs.length c 0 0 Tryd.underlying47
    go_enter Tryd.func89, Tryd.ntmps89
    go_wp2_with (at_builtin; refine wpList_append_sl _ rfl _ _ 47 rfl w.heap.size 5 i0 (.int .u8 0) 1 1 Tryd.underlying47 hi hz0 hz1 hz2 rfl (by decide) _ _ _ rfl (World.ownsRow_lit w #[] 0 (Nat.le_refl _) (by unfold maxLen; omega) rfl) _ _ _ _ _ rfl (hs.later (bAlloc (Below.refl _ _) _)) (byteV_one bs) ?c1 ?c2 ?c3 ?_)
    case c1 => unfold maxLen; omega
    case c2 => omega
    case c3 => simp
    intro A' c' w1 hown hgrow hat
    go_wp2
    go_ret
    exact ⟨A', c', by simp, hown, (bAlloc (Below.refl _ _) _).grown hgrow (by simp) (fun k hk => by simp [Value.ownBlock] at hk; omega)⟩

abbrev tapeV (A : Option Addr) (n c : Nat) (sy : Int) : Value := .agg #[.slice A n c, .int .i64 sy]
/-- A call that hands back these bytes, so many synced. -/
def RetTape (w : World) (bs : List UInt8) (sy : Int) (e : Ending) (w' : World) : Prop :=
  ∃ A c, e = .returned (tapeV A bs.length c sy) ∧ w'.ownsRow w.heap.size 5 1 (.slice A bs.length c) bs.length (bs.map byteV) ∧ Below w.heap.size w w'

theorem tapes_c (w : World) (A : Option Addr) (c : Nat) (bs : List UInt8) (sy : Int) (hs : Sl (· < w.heap.size) w 1 A bs.length (bs.map byteV)) (hm : bs.length ≤ 140737488351232) :
    Calls Tryd.prog 28 #[tapeV A bs.length c sy] w (RetTape w bs sy) := by
  go_enter Tryd.func28, Tryd.ntmps28
  go_wp2_with fail
  go_region_held3 (fun w' => w'.cell? ⟨w.heap.size, 0, none⟩ = some (.slice A bs.length c) ∧ w'.cell? ⟨w.heap.size, 1, none⟩ = some (.int .i64 sy))
    (go_keep)
    ((go_at_call 39; refine (octets_c _ A c bs ?_ hm).mono ?_; (exact (hs.later (by repeat (first | exact Below.refl _ _ | apply bGrow | apply bAlloc | apply Below.drew | apply bDrewN | apply bIter)))); rintro e w1 ⟨A', c', rfl, hown, hb⟩; obtain ⟨⟨d1, os1⟩, rfl⟩ := beyond_of hb))
  go_wp2
  refine bodyPost_ret (v := tapeV A' bs.length c' sy) (by simp [results, Tryd.results28, go_sem]) rfl ?_
  exact ⟨A', c', rfl, own_swap (by simp) (by simp) (by simp) hown, (by repeat (first | exact Below.refl _ _ | apply bGrow | apply bAlloc | apply Below.drew | apply bDrewN | apply bIter))⟩

/-- May this tape be? -/
def tapeOk (bs : List UInt8) (sy : Int) : Prop := 0 ≤ sy ∧ sy ≤ bs.length ∧ bs.length ≤ 8388608
def RetOpen (w : World) (bs : List UInt8) (sy : Int) (e : Ending) (w' : World) : Prop :=
  ∃ A c, e = .returned (.tuple #[tapeV A bs.length c sy, .bool true]) ∧ w'.ownsRow w.heap.size 5 1 (.slice A bs.length c) bs.length (bs.map byteV) ∧ Below w.heap.size w w'

theorem open_ok (w : World) (A : Option Addr) (c : Nat) (bs : List UInt8) (sy : Int) (hs : Sl (· < w.heap.size) w 1 A bs.length (bs.map byteV)) (h : tapeOk bs sy) :
    Calls Tryd.prog 79 #[tapeV A bs.length c sy] w (RetOpen w bs sy) := by
  obtain ⟨h1, h2, h3⟩ := h
  have e1 : decide (sy < 0) = false := by simpa using h1
  have e2 : decide ((bs.length : Int) < sy) = false := by simpa using h2
  have e3 : decide ((8388608 : Int) < (bs.length : Int)) = false := by simp; omega
  go_enter Tryd.func79, Tryd.ntmps79
  go_wp2_with fail
  go_region_held3 (fun w' => w'.cell? ⟨w.heap.size, 0, none⟩ = some (.slice A bs.length c) ∧ w'.cell? ⟨w.heap.size, 1, none⟩ = some (.int .i64 sy))
    (go_keep)
    ((go_at_call 89; refine (CloneBytes_c _ A c bs ?_ (by omega)).mono ?_; (exact (hs.later (by repeat (first | exact Below.refl _ _ | apply bGrow | apply bAlloc | apply Below.drew | apply bDrewN | apply bIter)))); rintro e w1 ⟨A', c', rfl, hown, hb⟩; obtain ⟨⟨d1, os1⟩, rfl⟩ := beyond_of hb))
  go_wp2
  refine bodyPost_ret (v := .tuple #[tapeV A' bs.length c' sy, .bool true]) (by simp [results, Tryd.results79, go_sem]) rfl ?_
  exact ⟨A', c', rfl, own_swap (by simp) (by simp) (by simp) hown, (by repeat (first | exact Below.refl _ _ | apply bGrow | apply bAlloc | apply Below.drew | apply bDrewN | apply bIter))⟩

theorem open_no (w : World) (A : Option Addr) (c : Nat) (bs : List UInt8) (sy : Int) (h : ¬ tapeOk bs sy) (hm : bs.length ≤ 140737488351232) :
    Calls Tryd.prog 79 #[tapeV A bs.length c sy] w fun e w' => e = .returned (.tuple #[tapeV none 0 0 0, .bool false]) ∧ Below w.heap.size w w' := by
  have h' : sy < 0 ∨ (0 ≤ sy ∧ (bs.length : Int) < sy) ∨ (0 ≤ sy ∧ sy ≤ bs.length ∧ 8388608 < bs.length) := by unfold tapeOk at h; omega
  rcases h' with h1 | ⟨h1, h2⟩ | ⟨h1, h2, h3⟩
  · have e1 : decide (sy < 0) = true := by simpa using h1
    go_enter Tryd.func79, Tryd.ntmps79
    go_wp2
    exact bodyPost_ret (v := .tuple #[tapeV none 0 0 0, .bool false]) (by simp [results, Tryd.results79, go_sem]) rfl ⟨rfl, (by repeat (first | exact Below.refl _ _ | apply bGrow | apply bAlloc | apply Below.drew | apply bDrewN | apply bIter))⟩
  · have e1 : decide (sy < 0) = false := by simpa using h1
    have e2 : decide ((bs.length : Int) < sy) = true := by simpa using h2
    go_enter Tryd.func79, Tryd.ntmps79
    go_wp2
    exact bodyPost_ret (v := .tuple #[tapeV none 0 0 0, .bool false]) (by simp [results, Tryd.results79, go_sem]) rfl ⟨rfl, (by repeat (first | exact Below.refl _ _ | apply bGrow | apply bAlloc | apply Below.drew | apply bDrewN | apply bIter))⟩
  · have e1 : decide (sy < 0) = false := by simpa using h1
    have e2 : decide ((bs.length : Int) < sy) = false := by simpa using h2
    have e3 : decide ((8388608 : Int) < (bs.length : Int)) = true := by simp; omega
    go_enter Tryd.func79, Tryd.ntmps79
    go_wp2
    exact bodyPost_ret (v := .tuple #[tapeV none 0 0 0, .bool false]) (by simp [results, Tryd.results79, go_sem]) rfl ⟨rfl, (by repeat (first | exact Below.refl _ _ | apply bGrow | apply bAlloc | apply Below.drew | apply bDrewN | apply bIter))⟩
end Go.Proofs.YtieofljkgmkaiaaDoor
