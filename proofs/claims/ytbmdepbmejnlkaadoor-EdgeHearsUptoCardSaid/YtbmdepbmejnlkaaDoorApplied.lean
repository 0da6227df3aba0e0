/-
  Contracts of text.Apply at every argument, and of its reference Applied.
-/
import Derived.Test.YtbmdepbmejnlkaaDoorRows
import Derived.Test.YtbmdepbmejnlkaaDoorApply
namespace Go.Proofs.YtbmdepbmejnlkaaDoor
open Go.ChangeShapes Go.WideShapes Go.ChangeAt Go.RowKit
set_option maxRecDepth 100000
/-- What Apply and its reference hand back. -/
def RetApply (w : World) (s : ByteArray) (ps : List PartD) (e : Ending) (w' : World) : Prop :=
  e = .returned (.tuple #[.string (applyText s ps), .int .i64 (applyErr s ps)]) ∧ Below w.heap.size w w'
theorem applyErr_text {s : ByteArray} {ps : List PartD} (h : textFault s ≠ 0) : applyErr s ps = textFault s ∧ applyText s ps = ⟨#[]⟩ := by
  have e : applyErr s ps = textFault s := if_pos h
  exact ⟨e, by unfold applyText; rw [e, if_neg h]⟩
theorem applyErr_op {s : ByteArray} {ps : List PartD} (h : textFault s = 0) (h2 : opFault ps ≠ 0) : applyErr s ps = opFault ps ∧ applyText s ps = ⟨#[]⟩ := by
  have e : applyErr s ps = opFault ps := by unfold applyErr; rw [if_neg (by simpa using h), if_pos h2]
  exact ⟨e, by unfold applyText; rw [e, if_neg h2]⟩
theorem applyErr_len {s : ByteArray} {ps : List PartD} (h : textFault s = 0) (h2 : opFault ps = 0) (h3 : (lens ps).1 ≠ (Lib.runeCount s : Int)) : applyErr s ps = 10 ∧ applyText s ps = ⟨#[]⟩ := by
  have e : applyErr s ps = 10 := by unfold applyErr; rw [if_neg (by simpa using h), if_neg (by simpa using h2), if_pos h3]
  exact ⟨e, by unfold applyText; rw [e, if_neg (by decide)]⟩
theorem applyErr_ok {s : ByteArray} {ps : List PartD} (h : textFault s = 0) (h2 : opFault ps = 0) (h3 : (lens ps).1 = (Lib.runeCount s : Int)) : applyErr s ps = 0 ∧ applyText s ps = runesBytes (appRunes (runesOf s) ps 0) := by
  have e : applyErr s ps = 0 := by unfold applyErr; rw [if_neg (by simpa using h), if_neg (by simpa using h2), if_neg (by simpa using h3)]
  exact ⟨e, by unfold applyText; rw [if_pos e]⟩
theorem infoRune : (Tryd.prog.info? 21).map (fun i => (i.zero, i.size, i.bytes)) = some (some (.int .i32 0), 1, 4) := by kernel_rfl
theorem convSl {W : World} {S : Nat → Prop} {A : Option Addr} {n c : Nat} {rs : List Int} (h : Sl S W 1 A n (rs.map (Value.int .i32))) : (convert 112 9 (.slice A n c)).run Tryd.prog W = .ok (.string (runesBytes rs)) W := by
  have hl : rs.length = n := by have := h.1; simpa using this
  rcases A with _ | ad
  · have hn : n = 0 := by
      rcases Nat.eq_zero_or_pos n with q | q
      · exact q
      · obtain ⟨_, _, e, _⟩ := h.2 q
        cases e
    have : rs = [] := List.eq_nil_of_length_eq_zero (by omega)
    subst this
    exact run_convert_runes_nil W 112 9 21 n c Tryd.underlying112 Tryd.underlying21 Tryd.underlying9
  · have key := run_convert_runes (P := Tryd.prog) W 112 9 21 ad n c rs (by omega) Tryd.underlying112 Tryd.underlying21 Tryd.underlying9 (fun j hj => by
      obtain ⟨b, o, e, _, hc⟩ := h.2 (by omega)
      injection e with e
      subst e
      rw [Go.WideShapes.add_plain]
      exact hc j _ (runes_getD rs j hj))
    rw [key, List.take_of_length_le (by omega)]
/-- []rune of a text: the runes lie in a new block. -/
theorem runes_at (s : ByteArray) (hs : s.size ≤ 1048576) (W : World) : ∃ W' c, (convert 9 112 (.string s)).run Tryd.prog W = .ok (.slice (some ⟨W.heap.size, 0, none⟩) (runesOf s).length c) W' ∧ Below W.heap.size W W' ∧ RunesAt W' W.heap.size (runesOf s) ∧ (runesOf s).length ≤ c := by
  have h := convRunes (w := W) hs
  rw [← runesOf_length] at h
  exact ⟨_, _, h, bAlloc (Below.refl _ _).drew _, RunesAt.new W.drew s _ _, grownCap_ge _ _ _ _⟩
theorem own_sl' {w : World} {base : Nat} {e : TypeId} {size n c : Nat} {A : Option Addr} {xs : List Value} (h : w.ownsRow base e size (.slice A n c) n xs) : Sl (· < w.heap.size) w size A n xs :=
  (Sl.of_own w h).keep (fun _ hb => hb.2) (fun _ _ => rfl)
/-- How many runes steps begin with. -/
def fromS : List (Int × Int) → Nat
  | [] => 0
  | x :: l => (if x.1 = 2 then 0 else 1) + fromS l
theorem fromS_append (a b : List (Int × Int)) : fromS (a ++ b) = fromS a + fromS b := by
  induction a with
  | nil => simp [fromS]
  | cons x a ih =>
    rw [List.cons_append, show fromS (x :: (a ++ b)) = (if x.1 = 2 then 0 else 1) + fromS (a ++ b) from rfl, show fromS (x :: a) = (if x.1 = 2 then 0 else 1) + fromS a from rfl, ih]
    omega
theorem fromS_ins (rs : List Int) : fromS (rs.map (fun r => ((2 : Int), r))) = 0 := by
  induction rs with
  | nil => rfl
  | cons r rs ih =>
    rw [List.map_cons, show fromS ((2, r) :: rs.map (fun r => ((2 : Int), r))) = 0 + fromS (rs.map (fun r => ((2 : Int), r))) from rfl, ih]
theorem fromS_oth (k : Int) (h : k ≠ 2) (n : Nat) : fromS (List.replicate n (k, 0)) = n := by
  induction n with
  | zero => rfl
  | succ n ih =>
    rw [List.replicate_succ, show fromS ((k, 0) :: List.replicate n (k, 0)) = (if k = 2 then 0 else 1) + fromS (List.replicate n (k, 0)) from rfl, ih, if_neg h]
    omega
theorem fromS_steps : ∀ (ps : List PartD), fromS (stepsOf ps) = fromN ps
  | [] => rfl
  | p :: ps => by
    rw [stepsOf_cons, fromS_append, fromS_steps ps, show fromN (p :: ps) = (if p.kind = 2 then 0 else p.n.toNat) + fromN ps from rfl]
    congr 1
    unfold partSteps
    by_cases h2 : p.kind = 2
    · rw [if_pos h2, if_pos h2, fromS_ins]
    · rw [if_neg h2, if_neg h2, fromS_oth _ h2]
theorem fromS_cons2 {r : Int} {l : List (Int × Int)} : fromS ((2, r) :: l) = 0 + fromS l := rfl
theorem fromS_consO {k r : Int} {l : List (Int × Int)} (h : k ≠ 2) : fromS ((k, r) :: l) = 1 + fromS l := by
  rw [show fromS ((k, r) :: l) = (if k = 2 then 0 else 1) + fromS l from rfl, if_neg h]
theorem appS_ins {r : List Int} {x : Int} {l : List (Int × Int)} {a : Nat} : appSteps r ((2, x) :: l) a = x :: appSteps r l a := rfl
theorem appS_keep {r : List Int} {x : Int} {l : List (Int × Int)} {a : Nat} : appSteps r ((1, x) :: l) a = r.getD a 0 :: appSteps r l (a + 1) := rfl
theorem appS_del {r : List Int} {k x : Int} {l : List (Int × Int)} {a : Nat} (h1 : k ≠ 1) (h2 : k ≠ 2) : appSteps r ((k, x) :: l) a = appSteps r l (a + 1) := by
  rw [appSteps_cons, if_neg h2, if_neg h1]
end Go.Proofs.YtbmdepbmejnlkaaDoor
