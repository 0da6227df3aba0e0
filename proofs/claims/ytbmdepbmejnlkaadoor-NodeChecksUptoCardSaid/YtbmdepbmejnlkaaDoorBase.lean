/-
  Small lemmas of this claim's own on worlds and readings (no program in sight): frames below a block, slices that read as lists, the row's last step.
-/
import Derived.WalkKit
import Derived.WalkSpells
import Derived.WalkLawsBesides
import Derived.ProofKit
import Derived.OpenShut
import Derived.BigQuiet
import Derived.Lib.QuietBelow
import Derived.Lib.Hide
import Derived.Deep.Draws
import Derived.Deep.AppendLies
import Derived.Laws.OwnMore
import Derived.ChangeSame
import Derived.Maps.AppendAt
import Derived.Laws.IdiomStrings
import Derived.Laws.BytesArg
import Derived.OwnWalk
import Derived.Deep.RegionHeld3
import Derived.Lib.SmallJoins
namespace Go.Proofs.YtbmdepbmejnlkaaDoor
open Go.ChangeShapes Go.WideShapes Go.ChangeAt Go.RowKit Go.Sort

theorem bDrewN {B : Nat} {a w : World} (h : Below B a w) (n : Nat) : Below B a (w.drewN n) := ⟨h.os, h.tape, h.output, h.size, h.block⟩
theorem bAlloc {a w : World} (h : Below a.heap.size a w) (o : Obj) : Below a.heap.size a (w.alloc o) := h.alloc h.size o
theorem bIter {a w : World} (h : Below a.heap.size a w) (s : ByteArray) (pos : Nat) : Below a.heap.size a (w.iter s pos) := h.alloc h.size _
theorem bSet {a w : World} (h : Below a.heap.size a w) {p : Addr} (hp : a.heap.size ≤ p.block) (u : Value) : Below a.heap.size a (w.setCell p u) := h.setCell hp u
theorem bThen {a w w' : World} (h : Below a.heap.size a w) (k : Below w.heap.size w w') : Below a.heap.size a w' := h.trans (k.mono h.size)
theorem bcell {W w1 : World} (hb : Below W.heap.size W w1) : (∀ b o, b < W.heap.size → w1.cell? ⟨b, o, none⟩ = W.cell? ⟨b, o, none⟩) ∧ (∀ b o, b < W.heap.size → w1.frozen? ⟨b, o, none⟩ = W.frozen? ⟨b, o, none⟩) :=
  ⟨fun b o h => hb.cell (p := ⟨b, o, none⟩) h, fun b o h => hb.frozen (p := ⟨b, o, none⟩) h⟩

section
variable {H : Type} {enc : TypeId × Value → H} {P : Program}
/-- The row's last step, where the world behind the call is known below its old size alone. -/
theorem post_of_below {f : Func} {s : ChangeSpec} {apart fresh handsOn again : Bool} {W W' : World} {args : Array Value} {v : Value} {ds gs : List (DataW H)} {before pa pv : List MemPlace}
    (hW : DataW.Whole enc P f.params.toList s.vars apart W args.toList ds gs before)
    (hres : ∀ (b : Nat) (sp : Nat → Bool) (hd : Bool), DataW.TrodAll enc P W' b sp hd f.resultTypes.toList (v.resultList f.resultTypes.size) (s.fn H (ds ++ gs)).results [])
    (hargs : ∀ sp : Nat → Bool, (∀ p ∈ before, sp p.block = true) → DataW.TrodAll enc P W' 0 sp true f.params.toList args.toList (s.fn H (ds ++ gs)).args pa)
    (hvars : ∀ sp : Nat → Bool, (∀ p ∈ before, sp p.block = true) → DataW.TrodVars enc P W' sp s.vars (s.fn H (ds ++ gs)).vars pv)
    (hps : before = pa ++ pv) (hb : Below W.heap.size W W')
    (hok : ∀ (j : Nat) (t : TypeId) (r : Value), f.resultTypes[j]? = some t → (v.resultList f.resultTypes.size)[j]? = some r → Value.okWide P W' .any 0 t r) :
    s.post enc P f apart fresh handsOn again W args v W' := by
  have hlt : ∀ p ∈ before, p.block < W.heap.size := fun p hp => hW.lt p hp
  have hold : ∀ p ∈ before, (fun b => decide (b < W.heap.size)) p.block = true := fun p hp => by simpa using hlt p hp
  refine ⟨ds, gs, before, [], pa, pv, hW, hres _ _ _, hargs _ hold, hvars _ hold, World.keptBut_mono (fun p hp => ⟨hp, ?_⟩) (hb.frame (· ∈ before)), fun _ => ?_⟩
  · rw [hps, List.mem_append] at hp
    exact Or.inr hp
  · obtain ⟨_, _, _, _, _, hz, hn⟩ := hW
    refine ⟨hok, _, _, ([] ++ pa) ++ pv, ⟨[] ++ pa, pv, trodAll_append (hargs _ (fun _ _ => rfl)) (hres _ _ _), hvars _ (fun _ _ => rfl), rfl, ?_, ?_⟩, ?_⟩
    · intro b off hp
      have hin : MemPlace.cell b off ∈ before := by rw [hps]; simpa using hp
      rw [hb.frozen (hlt _ hin)]
      exact hz b off hin
    · intro ha
      have := hn ha
      rw [hps] at this
      simpa using this
    · intro p hp _
      rw [hps]
      simpa using hp
end

/-! ### The world behind a call: what was there, and new blocks behind it -/
abbrev beyond (W : World) (d : Nat) (os : Array Obj) : World := grow (redrawn W d) os
theorem beyond_of {W w1 : World} (h : Below W.heap.size W w1) : ∃ p : Regrown, w1 = grow (redrawn W p.d) p.os := regrown_of_below h
@[simp, go_sem] theorem redrawn_heap (W : World) (d : Nat) : (redrawn W d).heap = W.heap := rfl
@[simp, go_sem] theorem leSum1 (P x : Nat) : (P ≤ P + x) = True := eq_true (by omega)
@[simp, go_sem] theorem ltSum1_0 (P : Nat) : (P < P + 1) = True := eq_true (by omega)
@[simp, go_sem] theorem eqSum1_0 (P : Nat) : (P = P + 1) = False := eq_false (by omega)
@[simp, go_sem] theorem eqSumR1_0 (P : Nat) : (P + 1 = P) = False := eq_false (by omega)
@[simp, go_sem] theorem leSum2 (P x y : Nat) : (P ≤ P + x + y) = True := eq_true (by omega)
@[simp, go_sem] theorem ltSum2_0 (P y : Nat) : (P < P + 1 + y) = True := eq_true (by omega)
@[simp, go_sem] theorem eqSum2_0 (P y : Nat) : (P = P + 1 + y) = False := eq_false (by omega)
@[simp, go_sem] theorem eqSumR2_0 (P y : Nat) : (P + 1 + y = P) = False := eq_false (by omega)
@[simp, go_sem] theorem ltSum2_1 (P x : Nat) : (P < P + x + 1) = True := eq_true (by omega)
@[simp, go_sem] theorem eqSum2_1 (P x : Nat) : (P = P + x + 1) = False := eq_false (by omega)
@[simp, go_sem] theorem eqSumR2_1 (P x : Nat) : (P + x + 1 = P) = False := eq_false (by omega)
@[simp, go_sem] theorem leSum3 (P x y z : Nat) : (P ≤ P + x + y + z) = True := eq_true (by omega)
@[simp, go_sem] theorem ltSum3_0 (P y z : Nat) : (P < P + 1 + y + z) = True := eq_true (by omega)
@[simp, go_sem] theorem eqSum3_0 (P y z : Nat) : (P = P + 1 + y + z) = False := eq_false (by omega)
@[simp, go_sem] theorem eqSumR3_0 (P y z : Nat) : (P + 1 + y + z = P) = False := eq_false (by omega)
@[simp, go_sem] theorem ltSum3_1 (P x z : Nat) : (P < P + x + 1 + z) = True := eq_true (by omega)
@[simp, go_sem] theorem eqSum3_1 (P x z : Nat) : (P = P + x + 1 + z) = False := eq_false (by omega)
@[simp, go_sem] theorem eqSumR3_1 (P x z : Nat) : (P + x + 1 + z = P) = False := eq_false (by omega)
@[simp, go_sem] theorem ltSum3_2 (P x y : Nat) : (P < P + x + y + 1) = True := eq_true (by omega)
@[simp, go_sem] theorem eqSum3_2 (P x y : Nat) : (P = P + x + y + 1) = False := eq_false (by omega)
@[simp, go_sem] theorem eqSumR3_2 (P x y : Nat) : (P + x + y + 1 = P) = False := eq_false (by omega)
@[simp, go_sem] theorem leSum4 (P x y z u : Nat) : (P ≤ P + x + y + z + u) = True := eq_true (by omega)
@[simp, go_sem] theorem ltSum4_0 (P y z u : Nat) : (P < P + 1 + y + z + u) = True := eq_true (by omega)
@[simp, go_sem] theorem eqSum4_0 (P y z u : Nat) : (P = P + 1 + y + z + u) = False := eq_false (by omega)
@[simp, go_sem] theorem eqSumR4_0 (P y z u : Nat) : (P + 1 + y + z + u = P) = False := eq_false (by omega)
@[simp, go_sem] theorem ltSum4_1 (P x z u : Nat) : (P < P + x + 1 + z + u) = True := eq_true (by omega)
@[simp, go_sem] theorem eqSum4_1 (P x z u : Nat) : (P = P + x + 1 + z + u) = False := eq_false (by omega)
@[simp, go_sem] theorem eqSumR4_1 (P x z u : Nat) : (P + x + 1 + z + u = P) = False := eq_false (by omega)
@[simp, go_sem] theorem ltSum4_2 (P x y u : Nat) : (P < P + x + y + 1 + u) = True := eq_true (by omega)
@[simp, go_sem] theorem eqSum4_2 (P x y u : Nat) : (P = P + x + y + 1 + u) = False := eq_false (by omega)
@[simp, go_sem] theorem eqSumR4_2 (P x y u : Nat) : (P + x + y + 1 + u = P) = False := eq_false (by omega)
@[simp, go_sem] theorem ltSum4_3 (P x y z : Nat) : (P < P + x + y + z + 1) = True := eq_true (by omega)
@[simp, go_sem] theorem eqSum4_3 (P x y z : Nat) : (P = P + x + y + z + 1) = False := eq_false (by omega)
@[simp, go_sem] theorem eqSumR4_3 (P x y z : Nat) : (P + x + y + z + 1 = P) = False := eq_false (by omega)
@[simp, go_sem] theorem leSum5 (P x y z u v : Nat) : (P ≤ P + x + y + z + u + v) = True := eq_true (by omega)
@[simp, go_sem] theorem ltSum5_0 (P y z u v : Nat) : (P < P + 1 + y + z + u + v) = True := eq_true (by omega)
@[simp, go_sem] theorem eqSum5_0 (P y z u v : Nat) : (P = P + 1 + y + z + u + v) = False := eq_false (by omega)
@[simp, go_sem] theorem eqSumR5_0 (P y z u v : Nat) : (P + 1 + y + z + u + v = P) = False := eq_false (by omega)
@[simp, go_sem] theorem ltSum5_1 (P x z u v : Nat) : (P < P + x + 1 + z + u + v) = True := eq_true (by omega)
@[simp, go_sem] theorem eqSum5_1 (P x z u v : Nat) : (P = P + x + 1 + z + u + v) = False := eq_false (by omega)
@[simp, go_sem] theorem eqSumR5_1 (P x z u v : Nat) : (P + x + 1 + z + u + v = P) = False := eq_false (by omega)
@[simp, go_sem] theorem ltSum5_2 (P x y u v : Nat) : (P < P + x + y + 1 + u + v) = True := eq_true (by omega)
@[simp, go_sem] theorem eqSum5_2 (P x y u v : Nat) : (P = P + x + y + 1 + u + v) = False := eq_false (by omega)
@[simp, go_sem] theorem eqSumR5_2 (P x y u v : Nat) : (P + x + y + 1 + u + v = P) = False := eq_false (by omega)
@[simp, go_sem] theorem ltSum5_3 (P x y z v : Nat) : (P < P + x + y + z + 1 + v) = True := eq_true (by omega)
@[simp, go_sem] theorem eqSum5_3 (P x y z v : Nat) : (P = P + x + y + z + 1 + v) = False := eq_false (by omega)
@[simp, go_sem] theorem eqSumR5_3 (P x y z v : Nat) : (P + x + y + z + 1 + v = P) = False := eq_false (by omega)
@[simp, go_sem] theorem ltSum5_4 (P x y z u : Nat) : (P < P + x + y + z + u + 1) = True := eq_true (by omega)
@[simp, go_sem] theorem eqSum5_4 (P x y z u : Nat) : (P = P + x + y + z + u + 1) = False := eq_false (by omega)
@[simp, go_sem] theorem eqSumR5_4 (P x y z u : Nat) : (P + x + y + z + u + 1 = P) = False := eq_false (by omega)
@[simp, go_sem] theorem leSum6 (P x y z u v t : Nat) : (P ≤ P + x + y + z + u + v + t) = True := eq_true (by omega)
@[simp, go_sem] theorem ltSum6_0 (P y z u v t : Nat) : (P < P + 1 + y + z + u + v + t) = True := eq_true (by omega)
@[simp, go_sem] theorem eqSum6_0 (P y z u v t : Nat) : (P = P + 1 + y + z + u + v + t) = False := eq_false (by omega)
@[simp, go_sem] theorem eqSumR6_0 (P y z u v t : Nat) : (P + 1 + y + z + u + v + t = P) = False := eq_false (by omega)
@[simp, go_sem] theorem ltSum6_1 (P x z u v t : Nat) : (P < P + x + 1 + z + u + v + t) = True := eq_true (by omega)
@[simp, go_sem] theorem eqSum6_1 (P x z u v t : Nat) : (P = P + x + 1 + z + u + v + t) = False := eq_false (by omega)
@[simp, go_sem] theorem eqSumR6_1 (P x z u v t : Nat) : (P + x + 1 + z + u + v + t = P) = False := eq_false (by omega)
@[simp, go_sem] theorem ltSum6_2 (P x y u v t : Nat) : (P < P + x + y + 1 + u + v + t) = True := eq_true (by omega)
@[simp, go_sem] theorem eqSum6_2 (P x y u v t : Nat) : (P = P + x + y + 1 + u + v + t) = False := eq_false (by omega)
@[simp, go_sem] theorem eqSumR6_2 (P x y u v t : Nat) : (P + x + y + 1 + u + v + t = P) = False := eq_false (by omega)
@[simp, go_sem] theorem ltSum6_3 (P x y z v t : Nat) : (P < P + x + y + z + 1 + v + t) = True := eq_true (by omega)
@[simp, go_sem] theorem eqSum6_3 (P x y z v t : Nat) : (P = P + x + y + z + 1 + v + t) = False := eq_false (by omega)
@[simp, go_sem] theorem eqSumR6_3 (P x y z v t : Nat) : (P + x + y + z + 1 + v + t = P) = False := eq_false (by omega)
@[simp, go_sem] theorem ltSum6_4 (P x y z u t : Nat) : (P < P + x + y + z + u + 1 + t) = True := eq_true (by omega)
@[simp, go_sem] theorem eqSum6_4 (P x y z u t : Nat) : (P = P + x + y + z + u + 1 + t) = False := eq_false (by omega)
@[simp, go_sem] theorem eqSumR6_4 (P x y z u t : Nat) : (P + x + y + z + u + 1 + t = P) = False := eq_false (by omega)
@[simp, go_sem] theorem ltSum6_5 (P x y z u v : Nat) : (P < P + x + y + z + u + v + 1) = True := eq_true (by omega)
@[simp, go_sem] theorem eqSum6_5 (P x y z u v : Nat) : (P = P + x + y + z + u + v + 1) = False := eq_false (by omega)
@[simp, go_sem] theorem eqSumR6_5 (P x y z u v : Nat) : (P + x + y + z + u + v + 1 = P) = False := eq_false (by omega)
@[simp, go_sem] theorem ltPast1 (b P x : Nat) (h : b < P) : (b < P + x) = True := eq_true (by omega)
@[simp, go_sem] theorem eqPast1 (b P x : Nat) (h : b < P) : (b = P + x) = False := eq_false (by omega)
@[simp, go_sem] theorem ltPast2 (b P x y : Nat) (h : b < P) : (b < P + x + y) = True := eq_true (by omega)
@[simp, go_sem] theorem eqPast2 (b P x y : Nat) (h : b < P) : (b = P + x + y) = False := eq_false (by omega)
@[simp, go_sem] theorem ltPast3 (b P x y z : Nat) (h : b < P) : (b < P + x + y + z) = True := eq_true (by omega)
@[simp, go_sem] theorem eqPast3 (b P x y z : Nat) (h : b < P) : (b = P + x + y + z) = False := eq_false (by omega)
@[simp, go_sem] theorem ltPast4 (b P x y z u : Nat) (h : b < P) : (b < P + x + y + z + u) = True := eq_true (by omega)
@[simp, go_sem] theorem eqPast4 (b P x y z u : Nat) (h : b < P) : (b = P + x + y + z + u) = False := eq_false (by omega)
@[simp, go_sem] theorem ltPast5 (b P x y z u v : Nat) (h : b < P) : (b < P + x + y + z + u + v) = True := eq_true (by omega)
@[simp, go_sem] theorem eqPast5 (b P x y z u v : Nat) (h : b < P) : (b = P + x + y + z + u + v) = False := eq_false (by omega)
@[simp, go_sem] theorem ltPast6 (b P x y z u v t : Nat) (h : b < P) : (b < P + x + y + z + u + v + t) = True := eq_true (by omega)
@[simp, go_sem] theorem eqPast6 (b P x y z u v t : Nat) (h : b < P) : (b = P + x + y + z + u + v + t) = False := eq_false (by omega)
@[simp, go_sem] theorem grow_size (W : World) (d : Nat) (os : Array Obj) : (grow (redrawn W d) os).heap.size = W.heap.size + os.size := by simp [grow, redrawn]
@[simp, go_sem] theorem grow_cell (W : World) (d : Nat) (os : Array Obj) (b o : Nat) (h : b < W.heap.size) : (grow (redrawn W d) os).cell? ⟨b, o, none⟩ = W.cell? ⟨b, o, none⟩ := (below_regrown W d os).cell (p := ⟨b, o, none⟩) h
@[simp, go_sem] theorem grow_frozen (W : World) (d : Nat) (os : Array Obj) (b o : Nat) (h : b < W.heap.size) : (grow (redrawn W d) os).frozen? ⟨b, o, none⟩ = W.frozen? ⟨b, o, none⟩ := (below_regrown W d os).frozen (p := ⟨b, o, none⟩) h
@[simp, go_sem] theorem grow_setCell (W : World) (d : Nat) (os : Array Obj) (b o : Nat) (u : Value) (h : b < W.heap.size) : (grow (redrawn W d) os).setCell ⟨b, o, none⟩ u = grow (redrawn (W.setCell ⟨b, o, none⟩ u) d) os := by
  simp only [World.setCell, grow, redrawn]
  congr 1
  exact modify_append_left _ _ _ _ h
@[simp, go_sem] theorem grow_drew (W : World) (d : Nat) (os : Array Obj) : (grow (redrawn W d) os).drew = grow (redrawn W (d + 1)) os := rfl
@[simp, go_sem] theorem grow_drewN (W : World) (d n : Nat) (os : Array Obj) : (grow (redrawn W d) os).drewN n = grow (redrawn W (d + n)) os := rfl
@[simp, go_sem] theorem grow_redrawn_drew (W : World) (d : Nat) (os : Array Obj) : grow (redrawn W.drew d) os = grow (redrawn W d) os := rfl
@[simp, go_sem] theorem grow_redrawn_drewN (W : World) (d n : Nat) (os : Array Obj) : grow (redrawn (W.drewN n) d) os = grow (redrawn W d) os := rfl
theorem bGrow {a W : World} (h : Below a.heap.size a W) (d : Nat) (os : Array Obj) : Below a.heap.size a (grow (redrawn W d) os) := bThen h (below_regrown W d os)

theorem own_swap {X Y : World} {d d' : Nat} {os : Array Obj} {base base' : Nat} {e : TypeId} {size : Nat} {v : Value} {n : Nat} {xs : List Value} (hXY : X.heap.size = Y.heap.size) (hb : X.heap.size ≤ base) (hb' : base' ≤ base)
    (h : (grow (redrawn X d) os).ownsRow base e size v n xs) : (grow (redrawn Y d') os).ownsRow base' e size v n xs := by
  refine ⟨h.1, ?_⟩
  rcases h.2 with h0 | ⟨g, cap, cur, hv, hg, hh, hrest⟩
  · exact .inl h0
  · refine .inr ⟨g, cap, cur, hv, by omega, ?_, hrest⟩
    simp only [grow, redrawn] at hh ⊢
    rw [Array.getElem?_append_right (by omega)] at hh ⊢
    rw [← hXY]
    exact hh
/-! ### A slice that reads as a list of cells -/
/-- The slice with address A and n elements of 'size' cells each reads as the cells cs, in a block of S. -/
def Sl (S : Nat → Prop) (w : World) (size : Nat) (A : Option Addr) (n : Nat) (cs : List Value) : Prop :=
  cs.length = n * size ∧ (0 < n → ∃ b o, A = some ⟨b, o, none⟩ ∧ S b ∧ ∀ j u, cs[j]? = some u → w.cell? ⟨b, o + j, none⟩ = some u)

section
variable {S S' : Nat → Prop} {w w' : World} {size n : Nat} {A : Option Addr} {cs : List Value}
theorem Sl.nil : Sl S w size A 0 [] := ⟨by simp, fun h => absurd h (by omega)⟩
theorem Sl.keep (h : Sl S w size A n cs) (hS : ∀ b, S b → S' b) (hk : ∀ b, S b → w'.heap[b]? = w.heap[b]?) : Sl S' w' size A n cs :=
  ⟨h.1, fun hn => by
    obtain ⟨b, o, e, hb, hc⟩ := h.2 hn
    exact ⟨b, o, e, hS b hb, fun j u hu => (World.cell?_of_block (w := w) (a := ⟨b, o + j, none⟩) (hk b hb)).trans (hc j u hu)⟩⟩
theorem Sl.below {B B' : Nat} (h : Sl (· < B) w size A n cs) (hb : Below B w w') (hB : B ≤ B') : Sl (· < B') w' size A n cs :=
  h.keep (fun _ hx => Nat.lt_of_lt_of_le hx hB) (fun b hx => hb.block b hx)
theorem Sl.later (h : Sl (· < w.heap.size) w size A n cs) (hb : Below w.heap.size w w') : Sl (· < w'.heap.size) w' size A n cs := h.below hb hb.size
theorem Sl.open_ (h : Sl S w size A n cs) (hn : 0 < n) : ∃ b o, A = some ⟨b, o, none⟩ ∧ S b ∧ ∀ j u, cs[j]? = some u → w.cell? ⟨b, o + j, none⟩ = some u := h.2 hn
end

theorem ints_getD (zs : List Int) (k : Nat) (hk : k < zs.length) : (zs.map (Value.int .i64))[k]? = some (.int .i64 (zs.getD k 0)) := by
  simp [List.getElem?_eq_getElem hk, List.getD_eq_getElem?_getD]

theorem Sl.new {S : Nat → Prop} (w : World) (cs : List Value) (t : TypeId) (size n : Nat) (h : cs.length = n * size) (hS : S w.heap.size) : Sl S (w.alloc (.cells cs.toArray t)) size (some ⟨w.heap.size, 0, none⟩) n cs :=
  ⟨h, fun _ => ⟨w.heap.size, 0, rfl, hS, fun j u hu => by rw [World.cell?_alloc_new]; simpa using hu⟩⟩

/-! ### Appending what reads as a list onto a row of the call's own -/
section
variable {P : Program} (w : World)

theorem own_form {base : Nat} {e : TypeId} {size : Nat} {v : Value} {n : Nat} {xs : List Value} (h : w.ownsRow base e size v n xs) : ∃ A c, v = .slice A n c ∧ n ≤ c ∧ c ≤ maxLen := by
  rcases h.2 with ⟨rfl, rfl⟩ | ⟨g, cap, cur, rfl, _, _, h1, h2, _⟩
  · exact ⟨none, 0, rfl, by omega, by unfold maxLen; omega⟩
  · exact ⟨_, cap, rfl, h1, h2⟩

theorem run_append_of_nil (base : Nat) (t ty e : TypeId) (i : TypeInfo) (size : Nat) (ht : P.underlying t = some (.slice e)) (hi : P.info? e = some i)
    (v : Value) (n : Nat) (xs : List Value) (hown : w.ownsRow base e size v n xs) (c : Nat) : (Builtin.append_ #[t, t] ty #[v, .slice none 0 c]).run P w = .ok v w := by
  rcases hown.2 with ⟨rfl, rfl⟩ | ⟨g, cap, cur, rfl, _, _, hnc, _⟩
  · simp [Builtin.append_, run_underlying ht, sizeOf, typeInfo, hi, Builtin.lenOf, Builtin.firstCells]
  · simp [Builtin.append_, run_underlying ht, sizeOf, typeInfo, hi, Builtin.lenOf, Builtin.firstCells, hnc, storeCells]

theorem run_append_sl (base : Nat) (t ty e : TypeId) (i : TypeInfo) (z : Value) (size bytes : Nat) (ht : P.underlying t = some (.slice e)) (hi : P.info? e = some i) (hz : i.zero = some z)
    (hsize : i.size = size) (hby : i.bytes = bytes) (hzs : z.cells.size = size) (hsz : 0 < size)
    (v : Value) (n : Nat) (xs : List Value) (hown : w.ownsRow base e size v n xs)
    (S : Nat → Prop) (A : Option Addr) (m c : Nat) (news : List Value) (hr : Sl S w size A m news) (h1 : ∀ u ∈ news, u.oneCell' = true)
    (h63 : n + m ≤ maxLen) (hbytes : (n + m) * bytes ≤ 140737488355328) (hbase : base ≤ w.heap.size) (hnil : m = 0 → A = none ∨ ∃ ad, A = some ad) :
    ∃ A' c' w', (Builtin.append_ #[t, t] ty #[v, .slice A m c]).run P w = .ok (.slice A' (n + m) c') w' ∧ w'.ownsRow base e size (.slice A' (n + m) c') (n + m) (xs ++ news) ∧ w.grownBy w' v.ownBlock ∧
      ((Value.slice A' (n + m) c').ownBlock = v.ownBlock ∨ (Value.slice A' (n + m) c').ownBlock = some w.heap.size) := by
  rcases A with _ | ad
  · have hm : m = 0 := by
      rcases Nat.eq_zero_or_pos m with h0 | h0
      · exact h0
      · obtain ⟨b, o, h, _⟩ := hr.2 h0
        cases h
    subst hm
    have hn : news = [] := List.eq_nil_of_length_eq_zero (by simpa using hr.1)
    subst hn
    obtain ⟨A', c', rfl, _, _⟩ := own_form w hown
    exact ⟨A', c', w, run_append_of_nil w base t ty e i size ht hi _ n xs hown c, by simpa using hown, World.grownBy.refl w _, .inl rfl⟩
  · have hcells : ∀ j u, news[j]? = some u → w.cell? (ad.add j) = some u := by
      intro j u hu
      rcases Nat.eq_zero_or_pos m with h0 | h0
      · subst h0
        have hn : news = [] := List.eq_nil_of_length_eq_zero (by simpa using hr.1)
        subst hn
        simp at hu
      · obtain ⟨b, o, h, _, hc⟩ := hr.2 h0
        injection h with h
        subst h
        rw [Go.WideShapes.add_plain]
        exact hc j u hu
    obtain ⟨v', w', hrun, h2, h3, _, h5⟩ := run_append_own_at (P := P) w base t ty e i z size bytes ht hi hz hsize hby hzs hsz v n xs hown ad m c news hr.1 hcells h1 h63 hbytes hbase
    obtain ⟨A', c', rfl, _, _⟩ := own_form w' h2
    exact ⟨A', c', w', hrun, h2, h3, h5⟩

theorem wp_append_sl {o : Oper} {a : Act} {K : Act → World → Prop} {Q : Exit → Act → World → Prop} (s x : Operand) (t : TypeId)
    (ho : o.op = .call { callee := .builtin .append, args := #[s, x], argTypes := #[t, t] })
    (base : Nat) (e : TypeId) (i : TypeInfo) (z : Value) (size bytes : Nat) (ht : P.underlying t = some (.slice e)) (hi : P.info? e = some i) (hz : i.zero = some z)
    (hsize : i.size = size) (hby : i.bytes = bytes) (hzs : z.cells.size = size) (hsz : 0 < size)
    (v : Value) (n : Nat) (xs : List Value) (hs : a.eval s = v) (hown : w.ownsRow base e size v n xs)
    (S : Nat → Prop) (A : Option Addr) (m c : Nat) (news : List Value) (hx : a.eval x = .slice A m c) (hr : Sl S w size A m news) (h1 : ∀ u ∈ news, u.oneCell' = true)
    (h63 : n + m ≤ maxLen) (hbytes : (n + m) * bytes ≤ 140737488355328) (hbase : base ≤ w.heap.size)
    (h : ∀ A' c' w', w'.ownsRow base e size (.slice A' (n + m) c') (n + m) (xs ++ news) → w.grownBy w' v.ownBlock → ((Value.slice A' (n + m) c').ownBlock = v.ownBlock ∨ (Value.slice A' (n + m) c').ownBlock = some w.heap.size) → K (a.put o.dst (.slice A' (n + m) c')) w') : o.wp P a w K Q := by
  obtain ⟨A', c', w', hrun, h2, h3, h4⟩ := run_append_sl (P := P) w base t o.type e i z size bytes ht hi hz hsize hby hzs hsz v n xs hown S A m c news hr h1 h63 hbytes hbase (fun _ => by cases A; exact .inl rfl; exact .inr ⟨_, rfl⟩)
  unfold Oper.wp execOp
  simp only [ho, resolve, invoke, builtin, Sem.run_bind, Sem.run_pure, Result.andThen_ok, List.map_toArray, List.map_cons, List.map_nil, hs, hx, hrun]
  exact h A' c' w' h2 h3 h4

theorem wpList_append_sl {ops : Array Oper} {rest : List Oper} {o : Oper} {a : Act} {Q : Exit → Act → World → Prop} (hgd : o.guard = none) (s x : Operand) (t : TypeId)
    (ho : o.op = .call { callee := .builtin .append, args := #[s, x], argTypes := #[t, t] })
    (base : Nat) (e : TypeId) (i : TypeInfo) (z : Value) (size bytes : Nat) (ht : P.underlying t = some (.slice e)) (hi : P.info? e = some i) (hz : i.zero = some z)
    (hsize : i.size = size) (hby : i.bytes = bytes) (hzs : z.cells.size = size) (hsz : 0 < size)
    (v : Value) (n : Nat) (xs : List Value) (hs : a.eval s = v) (hown : w.ownsRow base e size v n xs)
    (S : Nat → Prop) (A : Option Addr) (m c : Nat) (news : List Value) (hx : a.eval x = .slice A m c) (hr : Sl S w size A m news) (h1 : ∀ u ∈ news, u.oneCell' = true)
    (h63 : n + m ≤ maxLen) (hbytes : (n + m) * bytes ≤ 140737488355328) (hbase : base ≤ w.heap.size)
    (h : ∀ A' c' w', w'.ownsRow base e size (.slice A' (n + m) c') (n + m) (xs ++ news) → w.grownBy w' v.ownBlock → ((Value.slice A' (n + m) c').ownBlock = v.ownBlock ∨ (Value.slice A' (n + m) c').ownBlock = some w.heap.size) → wpList P ops Q rest (a.put o.dst (.slice A' (n + m) c')) w') : wpList P ops Q (o :: rest) a w :=
  wpList_plain hgd fun _ hK => wp_append_sl w s x t ho base e i z size bytes ht hi hz hsize hby hzs hsz v n xs hs hown S A m c news hx hr h1 h63 hbytes hbase fun A' c' w' h2 h3 h4 => hK _ _ (h A' c' w' h2 h3 h4)

theorem step_append_sl {ops : Array Oper} {o : Oper} {a : Act} {K : Act → World → Prop} {Q : Exit → Act → World → Prop} {E : Prop} (hgd : o.guard = none) (s x : Operand) (t : TypeId)
    (ho : o.op = .call { callee := .builtin .append, args := #[s, x], argTypes := #[t, t] })
    (base : Nat) (e : TypeId) (i : TypeInfo) (z : Value) (size bytes : Nat) (ht : P.underlying t = some (.slice e)) (hi : P.info? e = some i) (hz : i.zero = some z)
    (hsize : i.size = size) (hby : i.bytes = bytes) (hzs : z.cells.size = size) (hsz : 0 < size)
    (v : Value) (n : Nat) (xs : List Value) (hs : a.eval s = v) (hown : w.ownsRow base e size v n xs)
    (S : Nat → Prop) (A : Option Addr) (m c : Nat) (news : List Value) (hx : a.eval x = .slice A m c) (hr : Sl S w size A m news) (h1 : ∀ u ∈ news, u.oneCell' = true)
    (h63 : n + m ≤ maxLen) (hbytes : (n + m) * bytes ≤ 140737488355328) (hbase : base ≤ w.heap.size)
    (h : ∀ A' c' w', w'.ownsRow base e size (.slice A' (n + m) c') (n + m) (xs ++ news) → w.grownBy w' v.ownBlock → ((Value.slice A' (n + m) c').ownBlock = v.ownBlock ∨ (Value.slice A' (n + m) c').ownBlock = some w.heap.size) → K (a.put o.dst (.slice A' (n + m) c')) w') :
    if Region.wanted o (yielded ops a.tmps) = true then Oper.wp P o a w K Q else E := by
  have hw : Region.wanted o (yielded ops a.tmps) = true := by simp [Region.wanted, hgd]
  rw [if_pos hw]
  exact wp_append_sl w s x t ho base e i z size bytes ht hi hz hsize hby hzs hsz v n xs hs hown S A m c news hx hr h1 h63 hbytes hbase h

theorem Sl.of_own {base : Nat} {e : TypeId} {size n c : Nat} {A : Option Addr} {xs : List Value} (h : w.ownsRow base e size (.slice A n c) n xs) : Sl (fun b => base ≤ b ∧ b < w.heap.size) w size A n xs := by
  refine ⟨h.1, fun hn => ?_⟩
  obtain ⟨g, cap, hv, hb, hlt⟩ := h.form hn
  have hA : A = some ⟨g, 0, none⟩ := by injection hv
  subst hA
  refine ⟨g, 0, rfl, ⟨hb, hlt⟩, fun j u hu => ?_⟩
  have := h.cells (g := g) rfl j u hu
  rwa [Go.WideShapes.add_plain] at this

/-! ### bytes -/
end
abbrev byteV (b : UInt8) : Value := .int .u8 (b.toNat : Int)
theorem byteV_getD (bs : List UInt8) (k : Nat) (hk : k < bs.length) : (bs.map byteV)[k]? = some (.int .u8 ((bs.getD k 0).toNat : Int)) := by
  simp [List.getElem?_eq_getElem hk, List.getD_eq_getElem?_getD]
theorem run_str_of_sl {P : Program} (w : World) {src dst e : TypeId} (hs : P.underlying src = some (.slice e)) (he : P.underlying e = some (.int .u8)) (hd : P.underlying dst = some .string) {S : Nat → Prop} {A : Option Addr} {n c : Nat} {bs : List UInt8}
    (h : Sl S w 1 A n (bs.map byteV)) : (convert src dst (.slice A n c)).run P w = .ok (.string ⟨bs.toArray⟩) w := by
  have hl : bs.length = n := by have := h.1; simpa using this
  rcases A with _ | ad
  · have hn : n = 0 := by
      rcases Nat.eq_zero_or_pos n with h0 | h0
      · exact h0
      · obtain ⟨b, o, h, _⟩ := h.2 h0
        cases h
    have : bs = [] := List.eq_nil_of_length_eq_zero (by omega)
    subst this
    exact run_convert_bytes_nil w src e hs he n c dst hd
  · rw [← hl]
    refine run_convert_bytes_back w src dst e ad c bs hs he hd (fun j hj => ?_)
    obtain ⟨b, o, hb, _, hc⟩ := h.2 (by omega)
    injection hb with hb
    subst hb
    rw [Go.WideShapes.add_plain]
    exact hc j _ (by simp [List.getElem?_eq_getElem hj])
end Go.Proofs.YtbmdepbmejnlkaaDoor
