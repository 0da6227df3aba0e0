/-
  Contract of the builder's method keep.
-/
import Derived.Test.YtbmdepbmejnlkaaDoorRows
import Derived.Test.YtbmdepbmejnlkaaDoorBuild
import Derived.Test.YtbmdepbmejnlkaaDoorBuildM
import Derived.Test.YtbmdepbmejnlkaaDoorGroupP
namespace Go.Proofs.YtbmdepbmejnlkaaDoor
open Go.ChangeShapes Go.WideShapes Go.ChangeAt Go.RowKit
set_option maxRecDepth 100000
section
variable (w : World) (base B : Nat) (A : Option Addr) (c : Nat)
theorem keep_grow (n : Int) (p : PartD) (rs : List PartD) (hb : Bld w base B A c (p :: rs)) (hk : p.kind = 1) :
    Calls Tryd.prog 78 #[.pointer (some ⟨B, 0, none⟩), .int .i64 n] w fun e w' => e = .returned (.tuple #[]) ∧ BldTo w base B A (rs.length + 1) c (⟨p.kind, wrap64 (p.n + n), p.text⟩ :: rs) w' := by
  have HL := Lib.hid (last_yes w base B A c p rs hb)
  have HB := Lib.hid hb
  obtain ⟨g, rfl, _, hg, hne, hcap, hmax, h0, h1, h2, hfz⟩ := hb.last
  have hl := hb.lt
  rw [hk] at HL
  obtain ⟨kd, pn, tx⟩ := p
  dsimp only at *
  subst hk
  have hz := hfz (rs.length * 3 + 1)
  clear hb hfz
  go_enter Tryd.func78, Tryd.ntmps78
  go_wp2_with fail
  refine HL.out.mono ?_
  rintro e w1 ⟨rfl, hb1⟩
  obtain ⟨⟨d1, os1⟩, rfl⟩ := beyond_of hb1
  dsimp only [Option.map]
  go_wp2_with fail
  obtain ⟨hA, hB⟩ := HB.out.stored 1 (.int .i64 (wrap64 (pn + n))) (q := ⟨1, wrap64 (pn + n), tx⟩) rfl
  exact bodyPost_end (results_none rfl _ _ _) rfl ⟨rfl, _, _, hA.later (bGrow (Below.refl _ _) _ _), hB.trans (Turned.of_below (bGrow (Below.refl _ _) _ _)) (.inl rfl), .inl rfl⟩
theorem keep_none (n : Int) (rs : List PartD) (hb : Bld w base B A c rs) (hn : decide (0 < n) = false)
    (HL : Hid (Calls Tryd.prog 96 #[.pointer (some ⟨B, 0, none⟩), .int .i64 1] w fun e w' => e = .returned (.pointer none) ∧ Below w.heap.size w w')) :
    Calls Tryd.prog 78 #[.pointer (some ⟨B, 0, none⟩), .int .i64 n] w fun e w' => e = .returned (.tuple #[]) ∧ BldTo w base B A rs.length c rs w' := by
  go_enter Tryd.func78, Tryd.ntmps78
  go_wp2_with fail
  refine HL.out.mono ?_
  rintro e w1 ⟨rfl, hb1⟩
  go_wp2_with fail
  exact bodyPost_end (results_none rfl _ _ _) rfl ⟨rfl, BldTo.self hb hb1⟩
theorem keep_new (n : Int) (rs : List PartD) (hb : Bld w base B A c rs) (hn : decide (0 < n) = true) (hlen : rs.length ≤ 1000000)
    (HL : Hid (Calls Tryd.prog 96 #[.pointer (some ⟨B, 0, none⟩), .int .i64 1] w fun e w' => e = .returned (.pointer none) ∧ Below w.heap.size w w')) :
    Calls Tryd.prog 78 #[.pointer (some ⟨B, 0, none⟩), .int .i64 n] w fun e w' => e = .returned (.tuple #[]) ∧ BldTo w base B A rs.length c (⟨1, n, ⟨#[]⟩⟩ :: rs) w' := by
  have hl := hb.lt
  have hc := hb.cell
  obtain ⟨i0, hi, hz0, hz1, hz2⟩ := info_parts infoPart
  go_enter Tryd.func78, Tryd.ntmps78
  go_wp2_with fail
  refine HL.out.mono ?_
  rintro e w1 ⟨rfl, hb1⟩
  obtain ⟨⟨d1, os1⟩, rfl⟩ := beyond_of hb1
  have HB2 := Lib.hid (hb.later (bAlloc (bGrow (Below.refl _ _) d1 os1) (.cells #[.int .i64 1, .int .i64 n, .string ⟨#[]⟩] 90)))
  have hS : Sl (fun _ => True) ((Sort.grow (redrawn w d1) os1).alloc (.cells #[.int .i64 1, .int .i64 n, .string ⟨#[]⟩] 90)) 3 (some ⟨w.heap.size + os1.size, 0, none⟩) 1 [.int .i64 1, .int .i64 n, .string ⟨#[]⟩] := by
    have h := Sl.new (S := fun _ => True) (Sort.grow (redrawn w d1) os1) [.int .i64 1, .int .i64 n, .string ⟨#[]⟩] 90 3 1 rfl trivial
    rw [grow_size] at h
    exact h
  go_wp2_with (at_builtin; refine wpList_append_sl _ rfl _ _ 43 rfl base 90 i0 (.agg #[.int .i64 0, .int .i64 0, .string ⟨#[]⟩]) 3 32 Tryd.underlying43 hi hz0 hz1 hz2 rfl (by decide) _ _ _ rfl HB2.out.row _ _ _ _ _ rfl hS ?c1 ?c2 ?c3 ?c4 ?_)
  case c1 => simp [Value.oneCell']
  case c2 => unfold maxLen; omega
  case c3 => omega
  case c4 => have := HB2.out.lo; simp; omega
  intro A' c' w1 hown hgrow hat
  obtain ⟨x1, x2, x3⟩ := obj_cell (HB2.out.grown hgrow)
  go_wp2_with fail
  refine bodyPost_end (results_none rfl _ _ _) rfl ⟨rfl, ?_⟩
  exact bldTo_append hb (bAlloc (bGrow (Below.refl _ _) d1 os1) _) (q := ⟨1, n, ⟨#[]⟩⟩) (by simpa [PartD.cells] using hown) hgrow hat (by simp <;> omega)
theorem keep_c (n : Int) (rs : List PartD) (hb : Bld w base B A c rs) (hlen : rs.length ≤ 1000000) :
    Calls Tryd.prog 78 #[.pointer (some ⟨B, 0, none⟩), .int .i64 n] w fun e w' => e = .returned (.tuple #[]) ∧ BldTo w base B A rs.length c (keepR rs n) w' := by
  rcases rs with _ | ⟨p, r⟩
  · rw [keepR_nil]
    by_cases hn : 0 < n
    · rw [if_pos hn]
      exact keep_new w base B A c n [] hb (by simpa using hn) hlen (Lib.hid (last_nil w base B A c 1 hb))
    · rw [if_neg hn]
      exact keep_none w base B A c n [] hb (by simpa using hn) (Lib.hid (last_nil w base B A c 1 hb))
  · rw [keepR_cons]
    by_cases hk : p.kind = 1
    · rw [if_pos hk]
      exact keep_grow w base B A c n p r hb hk
    · have HL := Lib.hid (last_no w base B A c 1 p r hb (by simpa using hk))
      by_cases hn : 0 < n
      · rw [if_neg hk, if_pos hn]
        exact keep_new w base B A c n (p :: r) hb (by simpa using hn) hlen HL
      · rw [if_neg hk, if_neg hn]
        exact keep_none w base B A c n (p :: r) hb (by simpa using hn) HL
end
end Go.Proofs.YtbmdepbmejnlkaaDoor
