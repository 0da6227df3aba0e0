/-
  Contracts of strings.Builder's copyCheck and WriteString, of a builder that the call itself has made.
-/
import Derived.Test.YtgcapkkgminidaaDoorRows
import Derived.Test.YtgcapkkgminidaaDoorTapeA
import Derived.Test.YtgcapkkgminidaaDoorBuf
import Derived.Test.YtgcapkkgminidaaDoorShelf
import Derived.Lib.Builder
import Derived.Laws.Externs
namespace Go.Proofs.YtgcapkkgminidaaDoor
open Go.ChangeShapes Go.WideShapes Go.ChangeAt Go.RowKit
set_option maxRecDepth 100000
theorem sizeBuilder : (Tryd.prog.info? 149).map (·.size) = some 2 := by kernel_rfl
theorem liesBuilder : liesAt Tryd.prog Tryd.prog.depth 149 (2 / Tryd.prog.cellsOf 149) 0 149 1 = true := by kernel_rfl
theorem copyCheck_used (w : World) (b : Nat) (h0 : w.cell? ⟨b, 0, none⟩ = some (.pointer (some ⟨b, 0, none⟩))) :
    Calls Tryd.prog 119 #[.pointer (some ⟨b, 0, none⟩)] w fun e w' => e = .returned (.tuple #[]) ∧ w = w' := by
  obtain ⟨j, hj, _⟩ := Option.map_eq_some_iff.1 sizeBuilder
  go_enter Tryd.func119, Tryd.ntmps119
  go_wp2_with fail
  rw [Lib.run_neq_ptr_same w _ Tryd.underlying146 hj]
  go_wp2_with fail
  exact bodyPost_end (results_none rfl _ _ _) rfl ⟨rfl, rfl⟩
theorem copyCheck_new (w : World) (b : Nat) (h0 : w.cell? ⟨b, 0, none⟩ = some (.pointer none)) (hsh : w.shape? b = some (149, 2)) (hfz : w.frozen? ⟨b, 0, none⟩ = false) :
    Calls Tryd.prog 119 #[.pointer (some ⟨b, 0, none⟩)] w fun e w' => e = .returned (.tuple #[]) ∧ w' = w.setCell ⟨b, 0, none⟩ (.pointer (some ⟨b, 0, none⟩)) := by
  obtain ⟨j, hj, hjs⟩ := Option.map_eq_some_iff.1 sizeBuilder
  go_enter Tryd.func119, Tryd.ntmps119
  go_wp2_with fail
  rw [Lib.run_to_unsafe w ⟨b, 0, none⟩ Tryd.underlying146 Tryd.underlying188 hj (by rw [hjs]; decide) hsh (Nat.zero_lt_succ 1)]
  simp only [Result.andThen]
  rw [Oper.upon_value]
  go_wp2_with fail
  rw [run_callFunc_extern Tryd.func129 (by kernel_rfl) (by kernel_rfl) (by kernel_rfl) (e := Extern.AbiNoEscape.same) (by kernel_rfl)]
  rw [Lib.run_noEscape]
  simp only [Result.andThen]
  rw [Oper.upon_value]
  go_wp2_with fail
  rw [Lib.run_from_unsafe w ⟨b, 0, none⟩ Tryd.underlying188 Tryd.underlying146 hj hsh liesBuilder]
  simp only [Result.andThen]
  rw [Oper.upon_value]
  go_wp2_with fail
  exact bodyPost_end (results_none rfl _ _ _) rfl ⟨rfl, rfl⟩
/-- The builder in block b, of the call's own, holds these bytes. -/
abbrev Sb (w : World) (base b : Nat) (bs : List UInt8) : Prop := Lib.IsBuilder 149 5 base b (bs.map byteV) w
theorem Sb.lt {w : World} {base b : Nat} {bs : List UInt8} (h : Sb w base b bs) : base ≤ b ∧ b < w.heap.size := by
  rcases h with h | h <;> exact ⟨h.1, h.lt⟩
theorem Sb.row {w : World} {base b : Nat} {bs : List UInt8} (h : Sb w base b bs) : ∀ x, rowOf w b = some x → base ≤ x ∧ x < w.heap.size := by
  have key : ∀ {p : Option Addr}, Lib.BuilderAt 149 5 base b (.pointer p) (bs.map byteV) w → ∀ x, rowOf w b = some x → base ≤ x ∧ x < w.heap.size := by
    rintro p ⟨_, v, hb, hown, _⟩ x hx
    rw [rowOf_eq2 hb] at hx
    exact hown.lt x hx
  rcases h with h | h
  · exact key h
  · exact key h
theorem BuilderAt.kept {w w' : World} {base b : Nat} {p : Value} {xs : List Value} (h : Lib.BuilderAt 149 5 base b p xs w) (hb : Below w.heap.size w w') : Lib.BuilderAt 149 5 base b p xs w' := by
  have hlt := h.lt
  obtain ⟨h1, v, h2, h3, h4⟩ := h
  exact ⟨h1, v, (hb.block b hlt).trans h2, h3.kept (row := none) ⟨hb.os, hb.tape, hb.output, hb.size, fun k hk _ => hb.block k hk⟩ (by cases v.ownBlock <;> simp), h4⟩
theorem Sb.later {w w' : World} {base b : Nat} {bs : List UInt8} (h : Sb w base b bs) (hb : Below w.heap.size w w') : Sb w' base b bs := by
  rcases h with h | h
  · exact .inl (BuilderAt.kept h hb)
  · exact .inr (BuilderAt.kept h hb)
theorem Sb.fresh (w : World) (base : Nat) (h : base ≤ w.heap.size) : Sb (w.alloc (.cells #[.pointer none, .slice none 0 0] 149)) base w.heap.size [] :=
  .inl ⟨h, .slice none 0 0, by show (w.heap.push _)[w.heap.size]? = _; simp, World.ownsRow_nil _ _ _ _, by simp [Value.ownBlock]⟩
/-- copyCheck, whatever the builder was. -/
theorem copyCheck_c (w : World) (base b : Nat) (bs : List UInt8) (h : Sb w base b bs) :
    Calls Tryd.prog 119 #[.pointer (some ⟨b, 0, none⟩)] w fun e w' => e = .returned (.tuple #[]) ∧ Lib.BuilderAt 149 5 base b (.pointer (some ⟨b, 0, none⟩)) (bs.map byteV) w' ∧ Kept b w w' := by
  rcases h with h | h
  · refine (copyCheck_new w b h.cell0 h.shape h.frozen0).mono ?_
    rintro e w' ⟨rfl, rfl⟩
    obtain ⟨_, v, hb, _⟩ := id h
    exact ⟨rfl, h.used _, kept_set2 hb⟩
  · refine (copyCheck_used w b h.cell0).mono ?_
    rintro e w' ⟨rfl, rfl⟩
    exact ⟨rfl, h, Kept.refl _ _⟩
theorem WriteString_c (w : World) (base b : Nat) (bs : List UInt8) (s : ByteArray) (h : Sb w base b bs) (hl : bs.length + s.size ≤ 140737488355328) (hbs : base ≤ w.heap.size) :
    Calls Tryd.prog 98 #[.pointer (some ⟨b, 0, none⟩), .string s] w fun e w' => e = .returned (.tuple #[.int .i64 s.size, .nilIface]) ∧ Sb w' base b (bs ++ s.data.toList) ∧ Kept b w w' := by
  obtain ⟨i0, hi, hz0, hz1, hz2⟩ := info_parts infoByte
  have HC := Lib.hid (copyCheck_c w base b bs h)
  have HE := Lib.hid (show (bs ++ s.data.toList).map byteV = bs.map byteV ++ Lib.strCells s by simp [Lib.strCells])
  clear h
  go_enter Tryd.func98, Tryd.ntmps98
  go_wp2_with fail
  refine HC.out.mono ?_
  rintro e w1 ⟨rfl, hB, hk1⟩
  obtain ⟨hlo, v, hobj, hown, hap⟩ := id hB
  rw [List.length_map] at hown
  obtain ⟨A, c, rfl, _, _⟩ := own_form w1 hown
  have c1 : w1.cell? ⟨b, 1, none⟩ = some (.slice A bs.length c) := by rw [Lib.cell_of_heap hobj]; rfl
  have HO := Lib.hid hobj
  have hz := hk1.size
  clear hobj
  go_wp2_with (at_builtin; refine wpList_append_str _ rfl _ _ 147 9 rfl base 5 i0 Tryd.underlying147 Tryd.underlying9 hi hz0 hz1 hz2 _ _ _ rfl hown s rfl ?c1 ?c2 ?c3 ?_)
  case c1 => unfold maxLen; omega
  case c2 => omega
  case c3 => omega
  intro A' c' w2 hown' hgrow hat
  have HO2 := Lib.hid ((hgrow.block b (Array.getElem?_eq_some_iff.1 HO.out).1 (fun e => hap e.symm)).trans HO.out)
  have x1 : w2.frozen? ⟨b, 1, none⟩ = false := Lib.frozen_of_heap HO2.out 1
  have x2 : w2.cell? ⟨b, 1, none⟩ = some (.slice A bs.length c) := by rw [Lib.cell_of_heap HO2.out]; rfl
  go_wp2_with fail
  go_ret2
  refine ⟨rfl, .inr ?_, hk1.trans (kept_put2 HO.out (Below.refl _ _) hgrow hap hat (Nat.le_refl _))⟩
  have hl2 : (bs.map byteV ++ Lib.strCells s).length = bs.length + s.size := by rw [List.length_append, List.length_map, Lib.strCells_length]
  have := Lib.BuilderAt.put (bs' := bs.map byteV ++ Lib.strCells s) hlo HO2.out (by rw [hl2]; exact hown') (by decide)
  rw [HE.out]
  exact this
end Go.Proofs.YtgcapkkgminidaaDoor
