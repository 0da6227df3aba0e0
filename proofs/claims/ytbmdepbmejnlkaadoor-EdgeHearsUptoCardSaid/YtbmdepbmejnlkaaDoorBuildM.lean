/-
  Contracts of the builder's methods remove and insert.
-/
import Derived.Test.YtbmdepbmejnlkaaDoorRows
import Derived.Test.YtbmdepbmejnlkaaDoorBuild
import Derived.Test.YtbmdepbmejnlkaaDoorSame
import Derived.StillTailTactics
import Derived.IntWalk
namespace Go.Proofs.YtbmdepbmejnlkaaDoor
open Go.ChangeShapes Go.WideShapes Go.ChangeAt Go.RowKit
set_option maxRecDepth 100000
theorem mk_drew (W : World) : ({ heap := W.heap, tape := W.tape, drawn := W.drawn + 1, os := W.os, output := W.output } : World) = W.drew := rfl
/-- A method has made the builder hold the parts qs. -/
def BldTo (w : World) (base B : Nat) (A : Option Addr) (n c : Nat) (qs : List PartD) (w' : World) : Prop :=
  ∃ A' c', Bld w' base B A' c' qs ∧ Turned w w' B (Value.slice A n c).ownBlock ∧ ((Value.slice A' qs.length c').ownBlock = (Value.slice A n c).ownBlock ∨ ∀ x, (Value.slice A' qs.length c').ownBlock = some x → w.heap.size ≤ x)
theorem Bld.later {w w' : World} {base B : Nat} {A : Option Addr} {c : Nat} {rs : List PartD} (h : Bld w base B A c rs) (hb : Below w.heap.size w w') : Bld w' base B A c rs :=
  ⟨h.lo, (hb.block B h.lt).trans h.obj, h.row.kept (row := none) ⟨hb.os, hb.tape, hb.output, hb.size, fun k hk _ => hb.block k hk⟩ (by cases (Value.slice A rs.length c).ownBlock <;> simp), h.apart⟩
theorem Bld.grown {w w' : World} {base B : Nat} {A : Option Addr} {c : Nat} {rs : List PartD} (h : Bld w base B A c rs) (hg : w.grownBy w' (Value.slice A rs.length c).ownBlock) : w'.heap[B]? = some (.cells #[.slice A rs.length c] 129 (0, 0)) :=
  (hg.block B h.lt (fun e => h.apart e.symm)).trans h.obj
theorem obj_cell {w : World} {B : Nat} {v : Value} {t : TypeId} (h : w.heap[B]? = some (.cells #[v] t (0, 0))) : w.cell? ⟨B, 0, none⟩ = some v ∧ w.frozen? ⟨B, 0, none⟩ = false ∧ B < w.heap.size :=
  ⟨by simp [World.cell?, h], by simp [World.frozen?, h], (Array.getElem?_eq_some_iff.1 h).1⟩
theorem bldTo_append {w W2 w1 : World} {base B x : Nat} {A A' : Option Addr} {c c' : Nat} {rs : List PartD} {q : PartD} (hb : Bld w base B A c rs) (hW : Below w.heap.size w W2)
    (hown : w1.ownsRow base 90 3 (.slice A' (rs.length + 1) c') (rs.length + 1) (opCells rs.reverse ++ q.cells)) (hgrow : W2.grownBy w1 (Value.slice A rs.length c).ownBlock)
    (hat : (Value.slice A' (rs.length + 1) c').ownBlock = (Value.slice A rs.length c).ownBlock ∨ (Value.slice A' (rs.length + 1) c').ownBlock = some x) (hx : w.heap.size ≤ x) :
    BldTo w base B A rs.length c (q :: rs) (w1.setCell ⟨B, 0, none⟩ (.slice A' (rs.length + 1) c')) := by
  have hat' : (Value.slice A' (rs.length + 1) c').ownBlock = (Value.slice A rs.length c).ownBlock ∨ ∀ y, (Value.slice A' (rs.length + 1) c').ownBlock = some y → w.heap.size ≤ y := by
    rcases hat with h | h
    · exact .inl h
    · refine .inr fun y hy => ?_
      rw [h] at hy
      injection hy with hy
      omega
  refine ⟨A', c', Bld.put (rs := rs) (A := A) (c := c) (qs := q :: rs) (A' := A') (c' := c') hb.lo ((hb.later hW).grown hgrow) ?_ ?_, ?_, hat'⟩
  · rw [List.reverse_cons, opCells_snoc]
    exact hown
  · rcases hat with h | h
    · intro e
      exact hb.apart (h.symm.trans e)
    · intro e
      have := hb.lt
      have e2 : some x = some B := h.symm.trans e
      injection e2 with e2
      omega
  · exact ((Turned.of_below hW).trans (Turned.of_grown hgrow) (.inl rfl)).trans (Turned.of_set w1 B 0 _ _) (.inl rfl)
theorem BldTo.self {w w' : World} {base B : Nat} {A : Option Addr} {c : Nat} {rs : List PartD} (hb : Bld w base B A c rs) (h : Below w.heap.size w w') : BldTo w base B A rs.length c rs w' :=
  ⟨A, c, hb.later h, Turned.of_below h, .inl rfl⟩
theorem BldTo.then_ {w w1 w2 : World} {base B : Nat} {A A1 : Option Addr} {n c c1 : Nat} {rs qs : List PartD} (ht : Turned w w1 B (Value.slice A n c).ownBlock) (hr : (Value.slice A1 rs.length c1).ownBlock = (Value.slice A n c).ownBlock ∨ ∀ x, (Value.slice A1 rs.length c1).ownBlock = some x → w.heap.size ≤ x)
    (h : BldTo w1 base B A1 rs.length c1 qs w2) : BldTo w base B A n c qs w2 := by
  obtain ⟨A2, c2, hb2, ht2, hr2⟩ := h
  refine ⟨A2, c2, hb2, ht.trans ht2 hr, ?_⟩
  rcases hr2 with e | e
  · rw [e]
    exact hr
  · exact .inr fun x hx => Nat.le_trans ht.size (e x hx)
section
variable (w : World) (base B : Nat) (A : Option Addr) (c : Nat)
theorem remove_grow (n : Int) (p : PartD) (rs : List PartD) (hb : Bld w base B A c (p :: rs)) (hk : p.kind = 3) :
    Calls Tryd.prog 81 #[.pointer (some ⟨B, 0, none⟩), .int .i64 n] w fun e w' => e = .returned (.tuple #[]) ∧ BldTo w base B A (rs.length + 1) c (⟨p.kind, wrap64 (p.n + n), p.text⟩ :: rs) w' := by
  have HL := Lib.hid (last_yes w base B A c p rs hb)
  have HB := Lib.hid hb
  obtain ⟨g, rfl, _, hg, hne, hcap, hmax, h0, h1, h2, hfz⟩ := hb.last
  have hl := hb.lt
  rw [hk] at HL
  obtain ⟨kd, pn, tx⟩ := p
  dsimp only at *
  subst hk
  have hz := hfz (rs.length * 3 + 1)
  clear hb hfz
  go_enter Tryd.func81, Tryd.ntmps81
  go_wp2_with fail
  refine HL.out.mono ?_
  rintro e w1 ⟨rfl, hb1⟩
  obtain ⟨⟨d1, os1⟩, rfl⟩ := beyond_of hb1
  dsimp only [Option.map]
  go_wp2_with fail
  obtain ⟨hA, hB⟩ := HB.out.stored 1 (.int .i64 (wrap64 (pn + n))) (q := ⟨3, wrap64 (pn + n), tx⟩) rfl
  exact bodyPost_end (results_none rfl _ _ _) rfl ⟨rfl, _, _, hA.later (bGrow (Below.refl _ _) _ _), hB.trans (Turned.of_below (bGrow (Below.refl _ _) _ _)) (.inl rfl), .inl rfl⟩
theorem remove_none (n : Int) (rs : List PartD) (hb : Bld w base B A c rs) (hn : decide (0 < n) = false)
    (HL : Hid (Calls Tryd.prog 96 #[.pointer (some ⟨B, 0, none⟩), .int .i64 3] w fun e w' => e = .returned (.pointer none) ∧ Below w.heap.size w w')) :
    Calls Tryd.prog 81 #[.pointer (some ⟨B, 0, none⟩), .int .i64 n] w fun e w' => e = .returned (.tuple #[]) ∧ BldTo w base B A rs.length c rs w' := by
  go_enter Tryd.func81, Tryd.ntmps81
  go_wp2_with fail
  refine HL.out.mono ?_
  rintro e w1 ⟨rfl, hb1⟩
  go_wp2_with fail
  exact bodyPost_end (results_none rfl _ _ _) rfl ⟨rfl, BldTo.self hb hb1⟩
theorem remove_new (n : Int) (rs : List PartD) (hb : Bld w base B A c rs) (hn : decide (0 < n) = true) (hlen : rs.length ≤ 1000000)
    (HL : Hid (Calls Tryd.prog 96 #[.pointer (some ⟨B, 0, none⟩), .int .i64 3] w fun e w' => e = .returned (.pointer none) ∧ Below w.heap.size w w')) :
    Calls Tryd.prog 81 #[.pointer (some ⟨B, 0, none⟩), .int .i64 n] w fun e w' => e = .returned (.tuple #[]) ∧ BldTo w base B A rs.length c (⟨3, n, ⟨#[]⟩⟩ :: rs) w' := by
  have hl := hb.lt
  have hc := hb.cell
  obtain ⟨i0, hi, hz0, hz1, hz2⟩ := info_parts infoPart
  go_enter Tryd.func81, Tryd.ntmps81
  go_wp2_with fail
  refine HL.out.mono ?_
  rintro e w1 ⟨rfl, hb1⟩
  obtain ⟨⟨d1, os1⟩, rfl⟩ := beyond_of hb1
  have HB2 := Lib.hid (hb.later (bAlloc (bGrow (Below.refl _ _) d1 os1) (.cells #[.int .i64 3, .int .i64 n, .string ⟨#[]⟩] 90)))
  have hS : Sl (fun _ => True) ((Sort.grow (redrawn w d1) os1).alloc (.cells #[.int .i64 3, .int .i64 n, .string ⟨#[]⟩] 90)) 3 (some ⟨w.heap.size + os1.size, 0, none⟩) 1 [.int .i64 3, .int .i64 n, .string ⟨#[]⟩] := by
    have h := Sl.new (S := fun _ => True) (Sort.grow (redrawn w d1) os1) [.int .i64 3, .int .i64 n, .string ⟨#[]⟩] 90 3 1 rfl trivial
    rw [grow_size] at h
    exact h
  go_wp2_with (at_builtin; refine wpList_append_sl _ rfl _ _ 43 rfl base 90 i0 (.agg #[.int .i64 0, .int .i64 0, .string ⟨#[]⟩]) 3 32 Tryd.underlying43 hi hz0 hz1 hz2 rfl (by decide) _ _ _ rfl HB2.out.row _ _ _ _ _ rfl hS ?c1 ?c2 ?c3 ?c4 ?_)
  case c1 => simp [Value.oneCell']
  case c2 => unfold maxLen; omega
  case c3 => omega
  case c4 => have := HB2.out.lo; simp; omega
  intro A' c' w1 hown hgrow hat
  obtain ⟨x1, x2, x3⟩ := obj_cell (HB2.out.grown hgrow)
  go_wp2_with fail
  refine bodyPost_end (results_none rfl _ _ _) rfl ⟨rfl, ?_⟩
  exact bldTo_append hb (bAlloc (bGrow (Below.refl _ _) d1 os1) _) (q := ⟨3, n, ⟨#[]⟩⟩) (by simpa [PartD.cells] using hown) hgrow hat (by simp <;> omega)
theorem remove_c (n : Int) (rs : List PartD) (hb : Bld w base B A c rs) (hlen : rs.length ≤ 1000000) :
    Calls Tryd.prog 81 #[.pointer (some ⟨B, 0, none⟩), .int .i64 n] w fun e w' => e = .returned (.tuple #[]) ∧ BldTo w base B A rs.length c (remR rs n) w' := by
  rcases rs with _ | ⟨p, r⟩
  · rw [remR_nil]
    by_cases hn : 0 < n
    · rw [if_pos hn]
      exact remove_new w base B A c n [] hb (by simpa using hn) hlen (Lib.hid (last_nil w base B A c 3 hb))
    · rw [if_neg hn]
      exact remove_none w base B A c n [] hb (by simpa using hn) (Lib.hid (last_nil w base B A c 3 hb))
  · rw [remR_cons]
    by_cases hk : p.kind = 3
    · rw [if_pos hk]
      exact remove_grow w base B A c n p r hb hk
    · have HL := Lib.hid (last_no w base B A c 3 p r hb (by simpa using hk))
      by_cases hn : 0 < n
      · rw [if_neg hk, if_pos hn]
        exact remove_new w base B A c n (p :: r) hb (by simpa using hn) hlen HL
      · rw [if_neg hk, if_neg hn]
        exact remove_none w base B A c n (p :: r) hb (by simpa using hn) HL
theorem insert_none (s : ByteArray) (rs : List PartD) (hb : Bld w base B A c rs) (hs : s.toList.isEmpty = true) :
    Calls Tryd.prog 77 #[.pointer (some ⟨B, 0, none⟩), .string s] w fun e w' => e = .returned (.tuple #[]) ∧ BldTo w base B A rs.length c rs w' := by
  go_enter Tryd.func77, Tryd.ntmps77
  go_wp2_with fail
  exact bodyPost_ret (results_none rfl _ _ _) rfl ⟨rfl, BldTo.self hb (Below.refl _ _)⟩
theorem insert_grow (s : ByteArray) (p : PartD) (rs : List PartD) (hb : Bld w base B A c (p :: rs)) (hs : s.toList.isEmpty = false) (hk : p.kind = 2) (hcat : ¬ 9223372036854775807 < p.text.size + s.size) :
    Calls Tryd.prog 77 #[.pointer (some ⟨B, 0, none⟩), .string s] w fun e w' => e = .returned (.tuple #[]) ∧ BldTo w base B A (rs.length + 1) c (⟨p.kind, p.n, p.text ++ s⟩ :: rs) w' := by
  have HL := Lib.hid (last_yes w base B A c p rs hb)
  have HB := Lib.hid hb
  obtain ⟨g, rfl, _, hg, hne, hcap, hmax, h0, h1, h2, hfz⟩ := hb.last
  have hl := hb.lt
  rw [hk] at HL
  obtain ⟨kd, pn, tx⟩ := p
  dsimp only at *
  subst hk
  have hz := hfz (rs.length * 3 + 2)
  clear hb hfz
  go_enter Tryd.func77, Tryd.ntmps77
  go_wp2_with fail
  refine HL.out.mono ?_
  rintro e w1 ⟨rfl, hb1⟩
  obtain ⟨⟨d1, os1⟩, rfl⟩ := beyond_of hb1
  dsimp only [Option.map]
  go_wp2_with fail
  obtain ⟨hA, hB⟩ := HB.out.stored 2 (.string (tx ++ s)) (q := ⟨2, pn, tx ++ s⟩) rfl
  exact bodyPost_ret (results_none rfl _ _ _) rfl ⟨rfl, _, _, hA.later (bGrow (Below.refl _ _) _ _), hB.trans (Turned.of_below (bGrow (Below.refl _ _) _ _)) (.inl rfl), .inl rfl⟩
theorem insert_new (s : ByteArray) (rs : List PartD) (hb : Bld w base B A c rs) (hs : s.toList.isEmpty = false) (hlen : rs.length ≤ 1000000)
    (HL : Hid (∀ k, k = 2 ∨ k = 3 → ∀ w', Below w.heap.size w w' → Calls Tryd.prog 96 #[.pointer (some ⟨B, 0, none⟩), .int .i64 k] w' fun e w2 => e = .returned (.pointer none) ∧ Below w'.heap.size w' w2)) :
    Calls Tryd.prog 77 #[.pointer (some ⟨B, 0, none⟩), .string s] w fun e w' => e = .returned (.tuple #[]) ∧ BldTo w base B A rs.length c (⟨2, 0, s⟩ :: rs) w' := by
  have hl := hb.lt
  have hc := hb.cell
  obtain ⟨i0, hi, hz0, hz1, hz2⟩ := info_parts infoPart
  go_enter Tryd.func77, Tryd.ntmps77
  go_wp2_with fail
  refine (HL.out 2 (.inl rfl) _ (Below.refl _ _)).mono ?_
  rintro e w1 ⟨rfl, hb1⟩
  obtain ⟨⟨d1, os1⟩, rfl⟩ := beyond_of hb1
  go_wp2_with fail
  refine (HL.out 3 (.inr rfl) _ (bGrow (Below.refl _ _) _ _)).mono ?_
  rintro e w2 ⟨rfl, hb2⟩
  have hb3 := bThen (bGrow (Below.refl _ _) d1 os1) hb2
  clear hb1 hb2
  obtain ⟨⟨d3, os3⟩, rfl⟩ := beyond_of hb3
  have HB2 := Lib.hid (hb.later (bAlloc (bGrow (Below.refl _ _) d3 os3) (.cells #[.int .i64 2, .int .i64 0, .string s] 90)))
  have hS : Sl (fun _ => True) ((Sort.grow (redrawn w d3) os3).alloc (.cells #[.int .i64 2, .int .i64 0, .string s] 90)) 3 (some ⟨w.heap.size + os3.size, 0, none⟩) 1 [.int .i64 2, .int .i64 0, .string s] := by
    have h := Sl.new (S := fun _ => True) (Sort.grow (redrawn w d3) os3) [.int .i64 2, .int .i64 0, .string s] 90 3 1 rfl trivial
    rw [grow_size] at h
    exact h
  go_wp2_with (at_builtin; refine wpList_append_sl _ rfl _ _ 43 rfl base 90 i0 (.agg #[.int .i64 0, .int .i64 0, .string ⟨#[]⟩]) 3 32 Tryd.underlying43 hi hz0 hz1 hz2 rfl (by decide) _ _ _ rfl HB2.out.row _ _ _ _ _ rfl hS ?c1 ?c2 ?c3 ?c4 ?_)
  case c1 => simp [Value.oneCell']
  case c2 => unfold maxLen; omega
  case c3 => omega
  case c4 => have := HB2.out.lo; simp; omega
  intro A' c' w1 hown hgrow hat
  obtain ⟨x1, x2, x3⟩ := obj_cell (HB2.out.grown hgrow)
  go_wp2_with fail
  refine bodyPost_end (results_none rfl _ _ _) rfl ⟨rfl, ?_⟩
  exact bldTo_append hb (bAlloc (bGrow (Below.refl _ _) d3 os3) _) (q := ⟨2, 0, s⟩) (by simpa [PartD.cells] using hown) hgrow hat (by simp <;> omega)
theorem insert_del (s : ByteArray) (p : PartD) (rs qs : List PartD) (hb : Bld w base B A c (p :: rs)) (hs : s.toList.isEmpty = false) (hk : p.kind = 3)
    (HI : Hid (∀ W A1 c1, Bld W base B A1 c1 rs → Calls Tryd.prog 77 #[.pointer (some ⟨B, 0, none⟩), .string s] W fun e w' => e = .returned (.tuple #[]) ∧ BldTo W base B A1 rs.length c1 qs w'))
    (hlen : qs.length ≤ 1000000) :
    Calls Tryd.prog 77 #[.pointer (some ⟨B, 0, none⟩), .string s] w fun e w' => e = .returned (.tuple #[]) ∧ BldTo w base B A (rs.length + 1) c (remR qs p.n) w' := by
  have HL := Lib.hid (last_yes w base B A c p rs hb)
  have HN := Lib.hid (last_no w base B A c 2 p rs hb (by rw [hk]; decide))
  have HB := Lib.hid hb
  obtain ⟨g, rfl, _, hg, hne, hcap, hmax, h0, h1, h2, hfz⟩ := hb.last
  have hl := hb.lt
  have hc := hb.cell
  have hz := hb.frozen
  simp only [List.length_cons] at hc
  rw [hk] at HL
  obtain ⟨kd, pn, tx⟩ := p
  dsimp only at *
  subst hk
  clear hb hfz
  go_enter Tryd.func77, Tryd.ntmps77
  go_wp2_with fail
  refine HN.out.mono ?_
  rintro e w1 ⟨rfl, hb1⟩
  obtain ⟨⟨d1, os1⟩, rfl⟩ := beyond_of hb1
  go_wp2_with fail
  have HL2 := Lib.hid (last_yes _ base B _ c _ rs (HB.out.later hb1))
  refine HL2.out.mono ?_
  rintro e w2 ⟨rfl, hb2⟩
  have hb3 := bThen (bGrow (Below.refl _ _) d1 os1) hb2
  clear hb1 hb2 HL2
  obtain ⟨⟨d3, os3⟩, rfl⟩ := beyond_of hb3
  dsimp only [Option.map]
  unfold maxLen at hmax
  go_wp2_with fail
  have hwr : IntKind.i64.wrap (↑rs.length : Int) = (↑rs.length : Int) := IntWalk.i64_in _ (by omega)
  have hcap2 : rs.length ≤ c := by omega
  refine wp_region_still_tail 12 (by kernel_rfl) (by kernel_rfl) ?_
  simp only [List.take_succ_cons, List.take_zero, List.drop_succ_cons, List.drop_zero, mk_drew, grow_drew]
  repeat still_step
  refine wpStill_nil ?_
  go_wp2_with fail
  have HB0 := Bld.put (rs := ⟨3, pn, tx⟩ :: rs) (A := some ⟨g, 0, none⟩) (c := c) (qs := rs) (A' := some ⟨g, 0, none⟩) (c' := c) HB.out.lo HB.out.obj HB.out.shorter HB.out.apart
  refine (HI.out _ _ _ (HB0.later (bGrow (Below.refl _ _) (d3 + 1) os3))).mono ?_
  rintro e w4 ⟨rfl, A2, c2, hb2, ht2, hr2⟩
  have HB2 := Lib.hid hb2
  have HT := Lib.hid (((Turned.of_set w B 0 (.slice (some ⟨g, 0, none⟩) rs.length c) (some g)).trans (Turned.of_below (bGrow (Below.refl _ _) (d3 + 1) os3)) (.inl rfl)).trans ht2 (.inl rfl))
  have HR := Lib.hid (hr2.imp id (fun h x hx => Nat.le_trans (by simp) (h x hx) : _ → ∀ x, (Value.slice A2 qs.length c2).ownBlock = some x → w.heap.size ≤ x))
  clear hb2 ht2 hr2
  go_wp2_with fail
  refine (remove_c w4 base B A2 c2 pn qs HB2.out hlen).mono ?_
  rintro e w5 ⟨rfl, hto⟩
  go_wp2_with fail
  exact bodyPost_ret (results_none rfl _ _ _) rfl ⟨rfl, BldTo.then_ HT.out HR.out hto⟩
end
theorem remR_length (rs : List PartD) (n : Int) : (remR rs n).length ≤ rs.length + 1 := by
  cases rs with
  | nil => rw [remR_nil]; split <;> simp
  | cons p r => rw [remR_cons]; split <;> (try split) <;> simp
theorem insR_length (s : ByteArray) : ∀ rs : List PartD, (insR rs s).length ≤ rs.length + 1
  | [] => by rw [insR_nil]; simp
  | p :: r => by
    rw [insR_cons]
    split
    · simp
    · split
      · have h1 := remR_length (insR r s) p.n
        have h2 := insR_length s r
        simp only [List.length_cons]
        omega
      · simp
/-- What insert makes. -/
def insB (rs : List PartD) (s : ByteArray) : List PartD := if s.toList.isEmpty = true then rs else insR rs s
theorem insert_some (base B : Nat) (s : ByteArray) (hs : s.toList.isEmpty = false) (hz : s.size ≤ 4611686018427387903) : ∀ (rs : List PartD) (w : World) (A : Option Addr) (c : Nat), Bld w base B A c rs → rs.length ≤ 900000 → (∀ p ∈ rs, p.text.size ≤ 4611686018427387903) →
    Calls Tryd.prog 77 #[.pointer (some ⟨B, 0, none⟩), .string s] w fun e w' => e = .returned (.tuple #[]) ∧ BldTo w base B A rs.length c (insR rs s) w'
  | [], w, A, c, hb, hl, ht => by
    rw [insR_nil]
    exact insert_new w base B A c s [] hb hs (by omega) (Lib.hid fun k _ w' h => last_nil w' base B A c k (hb.later h))
  | p :: r, w, A, c, hb, hl, ht => by
    rw [insR_cons]
    have hp := ht p (List.mem_cons.2 (.inl rfl))
    by_cases h2 : p.kind = 2
    · rw [if_pos h2]
      exact insert_grow w base B A c s p r hb hs h2 (by omega)
    · rw [if_neg h2]
      by_cases h3 : p.kind = 3
      · rw [if_pos h3]
        have hlr : r.length ≤ 900000 := by simp only [List.length_cons] at hl; omega
        exact insert_del w base B A c s p r (insR r s) hb hs h3 (Lib.hid fun W A1 c1 h => insert_some base B s hs hz r W A1 c1 h hlr (fun q hq => ht q (List.mem_cons.2 (.inr hq)))) (by have := insR_length s r; omega)
      · rw [if_neg h3]
        refine insert_new w base B A c s (p :: r) hb hs (by omega) (Lib.hid fun k hk w' h => last_no w' base B A c k p r (hb.later h) ?_)
        rcases hk with rfl | rfl
        · simpa using h2
        · simpa using h3
theorem insert_c (w : World) (base B : Nat) (A : Option Addr) (c : Nat) (s : ByteArray) (rs : List PartD) (hb : Bld w base B A c rs) (hz : s.size ≤ 4611686018427387903) (hl : rs.length ≤ 900000) (ht : ∀ p ∈ rs, p.text.size ≤ 4611686018427387903) :
    Calls Tryd.prog 77 #[.pointer (some ⟨B, 0, none⟩), .string s] w fun e w' => e = .returned (.tuple #[]) ∧ BldTo w base B A rs.length c (insB rs s) w' := by
  unfold insB
  by_cases hs : s.toList.isEmpty = true
  · rw [if_pos hs]
    exact insert_none w base B A c s rs hb hs
  · rw [if_neg hs]
    exact insert_some base B s (by simpa using hs) hz rs w A c hb hl ht
end Go.Proofs.YtbmdepbmejnlkaaDoor
