/-
  The plain laws of Invert, Transform and Compose: step by step, and by runs of steps (no program in sight).
-/
import Derived.Test.YtbmdepbmejnlkaaDoorGroupP
namespace Go.Proofs.YtbmdepbmejnlkaaDoor
open Go.RowKit Go.Lib
abbrev insS (rs : List Int) : List (Int × Int) := rs.map (fun x => ((2 : Int), x))
abbrev othS (k : Int) (n : Nat) : List (Int × Int) := List.replicate n (k, (0 : Int))
/-! ### Invert -/
def invSteps (r : List Int) : List (Int × Int) → Nat → List (Int × Int)
  | [], _ => []
  | x :: l, a => if x.1 = 2 then (3, 0) :: invSteps r l a else if x.1 = 3 then (2, r.getD a 0) :: invSteps r l (a + 1) else x :: invSteps r l (a + 1)
theorem invSteps_cons (r : List Int) (x : Int × Int) (l : List (Int × Int)) (a : Nat) : invSteps r (x :: l) a = if x.1 = 2 then (3, 0) :: invSteps r l a else if x.1 = 3 then (2, r.getD a 0) :: invSteps r l (a + 1) else x :: invSteps r l (a + 1) := rfl
theorem inv_ins (r : List Int) (l : List (Int × Int)) (a : Nat) : ∀ rs : List Int, invSteps r (insS rs ++ l) a = othS 3 rs.length ++ invSteps r l a
  | [] => rfl
  | x :: rs => by
    have ih := inv_ins r l a rs
    show invSteps r ((2, x) :: (insS rs ++ l)) a = _
    rw [invSteps_cons, if_pos rfl, ih]
    rfl
theorem inv_keep (r : List Int) (l : List (Int × Int)) : ∀ (n a : Nat), invSteps r (othS 1 n ++ l) a = othS 1 n ++ invSteps r l (a + n)
  | 0, a => by simp [othS]
  | n + 1, a => by
    have ih := inv_keep r l n (a + 1)
    rw [show othS 1 (n + 1) = (1, 0) :: othS 1 n from rfl, List.cons_append, invSteps_cons, if_neg (by decide), if_neg (by decide), ih, show a + 1 + n = a + (n + 1) by omega]
    rfl
theorem inv_del (r : List Int) (l : List (Int × Int)) : ∀ (n a : Nat), a + n ≤ r.length → invSteps r (othS 3 n ++ l) a = insS ((r.drop a).take n) ++ invSteps r l (a + n)
  | 0, a, _ => by simp [othS, insS]
  | n + 1, a, h => by
    have ih := inv_del r l n (a + 1) (by omega)
    rw [show othS 3 (n + 1) = (3, 0) :: othS 3 n from rfl, List.cons_append, invSteps_cons, if_neg (by decide), if_pos rfl, ih, List.drop_eq_getElem_cons (show a < r.length by omega), List.take_succ_cons, show a + 1 + n = a + (n + 1) by omega]
    rw [List.getD_eq_getElem?_getD, List.getElem?_eq_getElem (show a < r.length by omega)]
    rfl
theorem inv_length (r : List Int) : ∀ (l : List (Int × Int)) (a : Nat), (invSteps r l a).length = l.length
  | [], _ => rfl
  | x :: l, a => by
    rw [invSteps_cons]
    split
    · rw [List.length_cons, inv_length r l a, List.length_cons]
    · split
      · rw [List.length_cons, inv_length r l, List.length_cons]
      · rw [List.length_cons, inv_length r l, List.length_cons]
/-! ### Transform -/
def trGo (f : List (Int × Int) → List (Int × Int) × List (Int × Int)) (x : Int × Int) : List (Int × Int) → List (Int × Int) × List (Int × Int)
  | [] => ([], [])
  | y :: ys => if y.1 = 2 then ((1, 0) :: (trGo f x ys).1, y :: (trGo f x ys).2) else ((if y.1 = 1 then [x] else []) ++ (f ys).1, (if x.1 = 1 then [y] else []) ++ (f ys).2)
def trS : List (Int × Int) → List (Int × Int) → List (Int × Int) × List (Int × Int)
  | [], ys => (ys.map (fun _ => ((1 : Int), (0 : Int))), ys)
  | x :: xs, ys => if x.1 = 2 then (x :: (trS xs ys).1, (1, 0) :: (trS xs ys).2) else trGo (trS xs) x ys
/-- It does not begin with this kind. -/
def Not1 (k : Int) (xs : List (Int × Int)) : Prop := ∀ x r, xs = x :: r → x.1 ≠ k
theorem tr_insL1 (x : Int) (xs ys : List (Int × Int)) : trS ((2, x) :: xs) ys = ((2, x) :: (trS xs ys).1, (1, 0) :: (trS xs ys).2) := if_pos rfl
theorem tr_insR1 {xs : List (Int × Int)} (h : Not1 2 xs) (y : Int) (ys : List (Int × Int)) : trS xs ((2, y) :: ys) = ((1, 0) :: (trS xs ys).1, (2, y) :: (trS xs ys).2) := by
  cases xs with
  | nil => rfl
  | cons x xs =>
    have hx := h x xs rfl
    show (if x.1 = 2 then _ else trGo (trS xs) x ((2, y) :: ys)) = _
    rw [if_neg hx]
    have e : trS (x :: xs) ys = trGo (trS xs) x ys := if_neg hx
    rw [e]
    exact if_pos rfl
theorem tr_both1 {x y : Int × Int} (hx : x.1 ≠ 2) (hy : y.1 ≠ 2) (xs ys : List (Int × Int)) : trS (x :: xs) (y :: ys) = ((if y.1 = 1 then [x] else []) ++ (trS xs ys).1, (if x.1 = 1 then [y] else []) ++ (trS xs ys).2) := by
  have e : trS (x :: xs) (y :: ys) = trGo (trS xs) x (y :: ys) := if_neg hx
  rw [e]
  exact if_neg hy
theorem tr_insL (xs ys : List (Int × Int)) : ∀ rs : List Int, trS (insS rs ++ xs) ys = (insS rs ++ (trS xs ys).1, othS 1 rs.length ++ (trS xs ys).2)
  | [] => rfl
  | r :: rs => by
    have ih := tr_insL xs ys rs
    show trS ((2, r) :: (insS rs ++ xs)) ys = _
    rw [tr_insL1, ih]
    rfl
theorem tr_insR {xs : List (Int × Int)} (h : Not1 2 xs) (ys : List (Int × Int)) : ∀ rs : List Int, trS xs (insS rs ++ ys) = (othS 1 rs.length ++ (trS xs ys).1, insS rs ++ (trS xs ys).2)
  | [] => rfl
  | r :: rs => by
    have ih := tr_insR h ys rs
    show trS xs ((2, r) :: (insS rs ++ ys)) = _
    rw [tr_insR1 h, ih]
    rfl
theorem tr_both {k q : Int} (hk : k ≠ 2) (hq : q ≠ 2) (xs ys : List (Int × Int)) : ∀ n : Nat, trS (othS k n ++ xs) (othS q n ++ ys) = ((if q = 1 then othS k n else []) ++ (trS xs ys).1, (if k = 1 then othS q n else []) ++ (trS xs ys).2)
  | 0 => by simp [othS]
  | n + 1 => by
    have ih := tr_both hk hq xs ys n
    rw [show othS k (n + 1) = (k, 0) :: othS k n from rfl, show othS q (n + 1) = (q, 0) :: othS q n from rfl, List.cons_append, List.cons_append, tr_both1 hk hq, ih]
    by_cases h1 : q = 1 <;> by_cases h2 : k = 1 <;> simp [h1, h2]
theorem trGo_length (f : List (Int × Int) → List (Int × Int) × List (Int × Int)) (x : Int × Int) (m : Nat) (hf : ∀ ys, (f ys).1.length ≤ m + ys.length ∧ (f ys).2.length ≤ m + ys.length) : ∀ ys, (trGo f x ys).1.length ≤ m + 1 + ys.length ∧ (trGo f x ys).2.length ≤ m + 1 + ys.length
  | [] => by simp [trGo]
  | y :: ys => by
    have ih := trGo_length f x m hf ys
    have h := hf ys
    unfold trGo
    split
    · simp only [List.length_cons]
      omega
    · have h1 : ∀ (c : Prop) [Decidable c] (z : Int × Int), (if c then [z] else []).length ≤ 1 := by
        intro c _ z
        split <;> simp
      have a := h1 (y.1 = 1) x
      have b := h1 (x.1 = 1) y
      simp only [List.length_append, List.length_cons]
      omega
theorem tr_length : ∀ xs ys, (trS xs ys).1.length ≤ xs.length + ys.length ∧ (trS xs ys).2.length ≤ xs.length + ys.length
  | [], ys => by simp [trS]
  | x :: xs, ys => by
    have ih := tr_length xs
    unfold trS
    split
    · have := ih ys
      simp only [List.length_cons]
      omega
    · have := trGo_length (trS xs) x xs.length ih ys
      simp only [List.length_cons]
      omega
/-! ### Compose -/
def coGo (f : List (Int × Int) → List (Int × Int)) (x : Int × Int) : List (Int × Int) → List (Int × Int)
  | [] => []
  | y :: ys => if y.1 = 2 then y :: coGo f x ys else (if y.1 = 1 then [x] else if x.1 = 1 then [y] else []) ++ f ys
def coS : List (Int × Int) → List (Int × Int) → List (Int × Int)
  | [], ys => ys
  | x :: xs, ys => if x.1 = 3 then x :: coS xs ys else coGo (coS xs) x ys
theorem co_del1 (x : Int) (xs ys : List (Int × Int)) : coS ((3, x) :: xs) ys = (3, x) :: coS xs ys := if_pos rfl
theorem co_ins1 {xs : List (Int × Int)} (h : Not1 3 xs) (y : Int) (ys : List (Int × Int)) : coS xs ((2, y) :: ys) = (2, y) :: coS xs ys := by
  cases xs with
  | nil => rfl
  | cons x xs =>
    have hx := h x xs rfl
    show (if x.1 = 3 then _ else coGo (coS xs) x ((2, y) :: ys)) = _
    rw [if_neg hx]
    have e : coS (x :: xs) ys = coGo (coS xs) x ys := if_neg hx
    rw [e]
    exact if_pos rfl
theorem co_both1 {x y : Int × Int} (hx : x.1 ≠ 3) (hy : y.1 ≠ 2) (xs ys : List (Int × Int)) : coS (x :: xs) (y :: ys) = (if y.1 = 1 then [x] else if x.1 = 1 then [y] else []) ++ coS xs ys := by
  have e : coS (x :: xs) (y :: ys) = coGo (coS xs) x (y :: ys) := if_neg hx
  rw [e]
  exact if_neg hy
theorem co_del (xs ys : List (Int × Int)) : ∀ n : Nat, coS (othS 3 n ++ xs) ys = othS 3 n ++ coS xs ys
  | 0 => by simp [othS]
  | n + 1 => by
    have ih := co_del xs ys n
    rw [show othS 3 (n + 1) = (3, 0) :: othS 3 n from rfl, List.cons_append, co_del1, ih]
    rfl
theorem co_ins {xs : List (Int × Int)} (h : Not1 3 xs) (ys : List (Int × Int)) : ∀ rs : List Int, coS xs (insS rs ++ ys) = insS rs ++ coS xs ys
  | [] => rfl
  | r :: rs => by
    have ih := co_ins h ys rs
    show coS xs ((2, r) :: (insS rs ++ ys)) = _
    rw [co_ins1 h, ih]
    rfl
theorem co_keepL (q : Int) (hq : q ≠ 2) (xs ys : List (Int × Int)) : ∀ n : Nat, coS (othS 1 n ++ xs) (othS q n ++ ys) = othS q n ++ coS xs ys
  | 0 => by simp [othS]
  | n + 1 => by
    have ih := co_keepL q hq xs ys n
    rw [show othS 1 (n + 1) = (1, 0) :: othS 1 n from rfl, show othS q (n + 1) = (q, 0) :: othS q n from rfl, List.cons_append, List.cons_append, co_both1 (by decide) hq, ih]
    by_cases h1 : q = 1
    · subst h1
      simp
    · rw [if_neg h1, if_pos rfl]
      rfl
theorem co_insK (xs ys : List (Int × Int)) : ∀ rs : List Int, coS (insS rs ++ xs) (othS 1 rs.length ++ ys) = insS rs ++ coS xs ys
  | [] => rfl
  | r :: rs => by
    have ih := co_insK xs ys rs
    show coS ((2, r) :: (insS rs ++ xs)) ((1, 0) :: (othS 1 rs.length ++ ys)) = _
    rw [co_both1 (by simp) (by simp), ih, if_pos rfl]
    rfl
theorem co_insD (q : Int) (hq : q ≠ 2) (h1 : q ≠ 1) (xs ys : List (Int × Int)) : ∀ rs : List Int, coS (insS rs ++ xs) (othS q rs.length ++ ys) = coS xs ys
  | [] => rfl
  | r :: rs => by
    have ih := co_insD q hq h1 xs ys rs
    show coS ((2, r) :: (insS rs ++ xs)) ((q, 0) :: (othS q rs.length ++ ys)) = _
    rw [co_both1 (by simp) hq, ih, if_neg h1, if_neg (by simp)]
    rfl
theorem coGo_length (f : List (Int × Int) → List (Int × Int)) (x : Int × Int) (m : Nat) (hf : ∀ ys, (f ys).length ≤ m + ys.length) : ∀ ys, (coGo f x ys).length ≤ m + 1 + ys.length
  | [] => by simp [coGo]
  | y :: ys => by
    have ih := coGo_length f x m hf ys
    have h := hf ys
    unfold coGo
    split
    · simp only [List.length_cons]
      omega
    · have h1 : (if y.1 = 1 then [x] else if x.1 = 1 then [y] else []).length ≤ 1 := by
        split
        · simp
        · split <;> simp
      simp only [List.length_append, List.length_cons]
      omega
theorem co_length : ∀ xs ys, (coS xs ys).length ≤ xs.length + ys.length
  | [], ys => by simp [coS]
  | x :: xs, ys => by
    have ih := co_length xs
    unfold coS
    split
    · have := ih ys
      simp only [List.length_cons]
      omega
    · have := coGo_length (coS xs) x xs.length ih ys
      simp only [List.length_cons]
      omega
end Go.Proofs.YtbmdepbmejnlkaaDoor
