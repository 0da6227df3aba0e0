/-
  A walker as what is left of its operation: what its methods show and do.
-/
import Derived.Test.YtbmdepbmejnlkaaDoorRows
import Derived.Test.YtbmdepbmejnlkaaDoorWalk
namespace Go.Proofs.YtbmdepbmejnlkaaDoor
open Go.ChangeShapes Go.WideShapes Go.ChangeAt Go.RowKit
set_option maxRecDepth 100000
/-- The walker in block X has these steps left. -/
def Wk (w : World) (X : Nat) (A : Option Addr) (c : Nat) (ps : List PartD) (l : List (Int × Int)) : Prop := ∃ k m, WalkAt w X A ps.length c k m ∧ WOk ps k m ∧ l = remS ps k m
theorem Wk.kept {w w' : World} {X : Nat} {A : Option Addr} {c : Nat} {ps : List PartD} {l : List (Int × Int)} (h : Wk w X A c ps l) (hb : w'.heap[X]? = w.heap[X]?) : Wk w' X A c ps l := by
  obtain ⟨k, m, h1, h2⟩ := h
  exact ⟨k, m, hb.trans h1, h2⟩
theorem Wk.lt {w : World} {X : Nat} {A : Option Addr} {c : Nat} {ps : List PartD} {l : List (Int × Int)} (h : Wk w X A c ps l) : X < w.heap.size := by
  obtain ⟨k, m, h1, _⟩ := h
  exact (Array.getElem?_eq_some_iff.1 h1).1
/-- What part hands back at this walker, wherever it stands so. -/
def Parts (w : World) (X : Nat) (A : Option Addr) (ps : List PartD) (k n : Int) (s : ByteArray) (b : Bool) : Prop :=
  ∀ W, W.heap[X]? = w.heap[X]? → OpIn (· < W.heap.size) W A ps → Calls Tryd.prog 75 #[.pointer (some ⟨X, 0, none⟩)] W fun e w' => e = .returned (.tuple #[partV k n s, .bool b]) ∧ Below W.heap.size W w'
/-- What pass leaves of this walker, wherever it stands so. -/
def Passes (w : World) (X : Nat) (A : Option Addr) (c : Nat) (ps : List PartD) (j : Nat) (l : List (Int × Int)) : Prop :=
  ∀ W, W.heap[X]? = w.heap[X]? → OpIn (· < W.heap.size) W A ps → Calls Tryd.prog 80 #[.pointer (some ⟨X, 0, none⟩), .int .i64 j] W fun e w' => e = .returned (.tuple #[]) ∧ Wk w' X A c ps l ∧ Only X W w'
section
variable {w : World} {X : Nat} {A : Option Addr} {c : Nat} {ps : List PartD} {l : List (Int × Int)}
theorem pass_of {k m j sz : Nat} (hok : okParts ps) (hlen : ps.length ≤ 1048576) (hX : WalkAt w X A ps.length c k m) (hw : WOk ps k m) (hk : k < ps.length) (hj : j ≤ 4000) {pk pn : Int} {pt : ByteArray} (hsz : m + sz = (partSteps ps[k]).length) (hjs : j ≤ sz)
    (HP : Parts w X A ps pk pn pt true) (HS : ∀ W, Calls Tryd.prog 79 #[partV pk pn pt] W fun e w' => e = .returned (.int .i64 sz) ∧ Below W.heap.size W w') : Passes w X A c ps j ((remS ps k m).drop j) := by
  intro W hW hop
  have hm := hw.lt hk
  have hb := (partSteps_some (okParts_mem hok _ (List.getElem_mem hk))).2
  have hX' : WalkAt W X A ps.length c k m := hW.trans hX
  by_cases he : j = sz
  · obtain ⟨h1, h2⟩ := WOk.next (j := j) (k' := k + 1) (m' := 0) hok hw hk (by omega) (.inl ⟨by omega, rfl, rfl⟩)
    refine (pass_end W X A c k m ps.length j sz (by omega) (by omega) (by omega) hX' pk pn pt true (by rw [he]; simp) (Lib.hid (HP W hW hop)) (Lib.hid HS)).mono ?_
    rintro e w' ⟨rfl, h3, h4⟩
    exact ⟨rfl, ⟨_, _, h3, h1, h2.symm⟩, h4⟩
  · obtain ⟨h1, h2⟩ := WOk.next (j := j) (k' := k) (m' := m + j) hok hw hk (by omega) (.inr ⟨by omega, rfl, rfl⟩)
    refine (pass_go W X A c k m ps.length j sz (by omega) (by omega) (by omega) hX' pk pn pt true (by simp; omega) (Lib.hid (HP W hW hop)) (Lib.hid HS)).mono ?_
    rintro e w' ⟨rfl, h3, h4⟩
    exact ⟨rfl, ⟨_, _, h3, h1, h2.symm⟩, h4⟩
/-- What a walker is. -/
theorem Wk.view (hok : okParts ps) (hlen : ps.length ≤ 1048576) (ht : ∀ p ∈ ps, p.text.size ≤ 1048576) (h : Wk w X A c ps l) :
    (l = [] ∧ Parts w X A ps 0 0 ⟨#[]⟩ false) ∨
    (∃ Y l', Y ≠ [] ∧ (∀ r ∈ Y, Scal r) ∧ Y.length ≤ 4000 ∧ l = insS Y ++ l' ∧ Parts w X A ps 2 0 (runesBytes Y) true ∧ ∀ j, j ≤ Y.length → Passes w X A c ps j (insS (Y.drop j) ++ l')) ∨
    (∃ (q : Int) (n : Nat) (l' : List (Int × Int)), (q = 1 ∨ q = 3) ∧ 0 < n ∧ n ≤ 4000 ∧ l = othS q n ++ l' ∧ Parts w X A ps q n ⟨#[]⟩ true ∧ ∀ j, j ≤ n → Passes w X A c ps j (othS q (n - j) ++ l')) := by
  obtain ⟨k, m, hX, hw, rfl⟩ := h
  rcases hw.cases hok with ⟨hk, hr⟩ | ⟨hk, Y, h2, hY, hsc, hY4, hr, hh⟩ | ⟨hk, q, n, h2, hq, hn0, hn4, hr, hh⟩
  · refine .inl ⟨hr, fun W hW hop => ?_⟩
    have hX' : WalkAt W X A ps.length c k m := hW.trans hX
    subst hk
    exact part_end W X A c m ps.length hX'
  · have hm := hw.lt hk
    have hYl : m + Y.length = (partSteps ps[k]).length := by
      have h1 := hr
      rw [remS_some hk (Nat.le_of_lt hm)] at h1
      have h2 := congrArg List.length h1
      simp only [List.length_append, insS, List.length_map, List.length_drop] at h2
      omega
    have hP : Parts w X A ps 2 0 (runesBytes Y) true := fun W hW hop => by
      have hX' : WalkAt W X A ps.length c k m := hW.trans hX
      have h3 := part_ins W X A c k m ps hX' hop hk h2 (ht _ (List.getElem_mem hk)) (by rw [partSteps_ins h2] at hm; simpa [insS] using hm)
      rw [headV_ins h2, PartD.mk.injEq] at hh
      rw [hh.1, hh.2.1, hh.2.2] at h3
      exact h3
    refine .inr (.inl ⟨Y, _, hY, hsc, hY4, hr, hP, fun j hj => ?_⟩)
    have h4 := pass_of (j := j) (sz := Y.length) hok hlen hX hw hk (by omega) hYl hj hP (fun W => by
      have h5 := size_ins 0 (runesBytes Y) W (by have := (runesBytes_le Y).2; omega)
      rwa [← runesOf_length, runes_bytes Y hsc] at h5)
    rwa [hr, List.drop_append_of_le_length (by simpa [insS] using hj), show (insS Y).drop j = insS (Y.drop j) by simp [insS]] at h4
  · have hm := hw.lt hk
    have hYl : m + n = (partSteps ps[k]).length := by
      have h1 := hr
      rw [remS_some hk (Nat.le_of_lt hm)] at h1
      have h2 := congrArg List.length h1
      simp only [List.length_append, othS, List.length_replicate, List.length_drop] at h2
      omega
    have hP : Parts w X A ps q n ⟨#[]⟩ true := fun W hW hop => by
      have hX' : WalkAt W X A ps.length c k m := hW.trans hX
      have hf := okParts_mem hok _ (List.getElem_mem hk)
      obtain ⟨_, h5, h6, _⟩ := kind_other hf h2
      have hb := (partSteps_some hf).2
      have h3 := part_oth W X A c k m ps hX' hop hk h2 (by omega) (by omega) (by omega)
      rw [headV_oth h2, PartD.mk.injEq] at hh
      rw [hh.1, hh.2.1, hh.2.2] at h3
      exact h3
    refine .inr (.inr ⟨q, n, _, hq, hn0, hn4, hr, hP, fun j hj => ?_⟩)
    have h4 := pass_of (j := j) (sz := n) hok hlen hX hw hk (by omega) hYl hj hP (fun W => size_oth q n ⟨#[]⟩ W (by rcases hq with rfl | rfl <;> rfl))
    rwa [hr, List.drop_append_of_le_length (by simpa [othS] using hj), show (othS q n).drop j = othS q (n - j) by simp [othS]] at h4
end
end Go.Proofs.YtbmdepbmejnlkaaDoor
