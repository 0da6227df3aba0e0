/-
  Contract of the reference's grouped: steps as an operation.
-/
import Derived.Test.YtbmdepbmejnlkaaDoorRows
import Derived.Test.YtbmdepbmejnlkaaDoorSteps
import Derived.Test.YtbmdepbmejnlkaaDoorApplied
import Derived.Test.YtbmdepbmejnlkaaDoorBld
import Derived.Test.YtbmdepbmejnlkaaDoorGroupP
namespace Go.Proofs.YtbmdepbmejnlkaaDoor
open Go.ChangeShapes Go.WideShapes Go.ChangeAt Go.RowKit
set_option maxRecDepth 100000
/-- Two rows have no block in common. -/
def Apart2 (a b : Option Nat) : Prop := a = none ∨ b = none ∨ a ≠ b
theorem Apart2.left {a b : Option Nat} (h : Apart2 a b) : a = none ∨ a ≠ b := by
  rcases h with h | h | h
  · exact .inl h
  · cases a with
    | none => exact .inl rfl
    | some x => exact .inr (by rw [h]; simp)
  · exact .inr h
theorem Apart2.symm {a b : Option Nat} (h : Apart2 a b) : Apart2 b a := by
  rcases h with h | h | h
  · exact .inr (.inl h)
  · exact .inl h
  · exact .inr (.inr (fun e => h e.symm))
theorem Apart2.fresh {a a' b : Option Nat} {x : Nat} (h : Apart2 a b) (ha : a' = a ∨ a' = some x) (hb : ∀ y, b = some y → y < x) : Apart2 a' b := by
  rcases ha with rfl | rfl
  · exact h
  · cases b with
    | none => exact .inr (.inl rfl)
    | some y => exact .inr (.inr (fun e => by injection e with e; have := hb y rfl; omega))
/-- What grouped holds. -/
structure GrAt (w0 w : World) (Ao : Option Addr) (co : Nat) (At : Option Addr) (ct : Nat) (out : List PartD) (text : List Int) : Prop where
  o : w.ownsRow w0.heap.size 90 3 (.slice Ao out.length co) out.length (opCells out.reverse)
  t : w.ownsRow w0.heap.size 21 1 (.slice At text.length ct) text.length (text.map (Value.int .i32))
  a : Apart2 (Value.slice Ao out.length co).ownBlock (Value.slice At text.length ct).ownBlock
  b : Below w0.heap.size w0 w
theorem GrAt.later {w0 w w' : World} {Ao At : Option Addr} {co ct : Nat} {out : List PartD} {text : List Int} (h : GrAt w0 w Ao co At ct out text) (hb : Below w.heap.size w w') : GrAt w0 w' Ao co At ct out text :=
  ⟨h.o.kept (row := none) ⟨hb.os, hb.tape, hb.output, hb.size, fun k hk _ => hb.block k hk⟩ (by cases (Value.slice Ao out.length co).ownBlock <;> simp), h.t.kept (row := none) ⟨hb.os, hb.tape, hb.output, hb.size, fun k hk _ => hb.block k hk⟩ (by cases (Value.slice At text.length ct).ownBlock <;> simp), h.a, bThen h.b hb⟩
theorem GrAt.push {w0 W2 w1 : World} {Ao At A' : Option Addr} {co ct c' n' : Nat} {out : List PartD} {text : List Int} {p : PartD} (h : GrAt w0 W2 Ao co At ct out text) (hn : n' = out.length + 1)
    (hown : w1.ownsRow w0.heap.size 90 3 (.slice A' n' c') n' (opCells out.reverse ++ p.cells)) (hgrow : W2.grownBy w1 (Value.slice Ao out.length co).ownBlock)
    (hat : (Value.slice A' n' c').ownBlock = (Value.slice Ao out.length co).ownBlock ∨ (Value.slice A' n' c').ownBlock = some W2.heap.size) : GrAt w0 w1 A' c' At ct (p :: out) text := by
  subst hn
  refine ⟨?_, h.t.kept hgrow h.a.symm.left, h.a.fresh hat (fun y hy => (h.t.lt y hy).2), h.b.grown hgrow h.b.size (fun g hg => (h.o.lt g hg).1)⟩
  rw [List.reverse_cons, opCells_snoc]
  exact hown
theorem GrAt.rune {w0 W2 w1 : World} {Ao At A' : Option Addr} {co ct c' n' : Nat} {out : List PartD} {text : List Int} {x : Int} (h : GrAt w0 W2 Ao co At ct out text) (hn : n' = text.length + 1)
    (hown : w1.ownsRow w0.heap.size 21 1 (.slice A' n' c') n' (text.map (Value.int .i32) ++ [.int .i32 x])) (hgrow : W2.grownBy w1 (Value.slice At text.length ct).ownBlock)
    (hat : (Value.slice A' n' c').ownBlock = (Value.slice At text.length ct).ownBlock ∨ (Value.slice A' n' c').ownBlock = some W2.heap.size) : GrAt w0 w1 Ao co A' c' out (text ++ [x]) := by
  subst hn
  have e : (text ++ [x]).length = text.length + 1 := by simp
  refine ⟨h.o.kept hgrow h.a.left, ?_, ?_, h.b.grown hgrow h.b.size (fun g hg => (h.t.lt g hg).1)⟩
  · rw [e, List.map_append]
    exact hown
  · rw [e]
    exact (h.a.symm.fresh hat (fun y hy => (h.o.lt y hy).2)).symm
theorem GrAt.cut {w0 w : World} {Ao At : Option Addr} {co ct : Nat} {out : List PartD} {text : List Int} (h : GrAt w0 w Ao co At ct out text) : GrAt w0 w Ao co none 0 out [] :=
  ⟨h.o, World.ownsRow_nil _ _ _ _, .inr (.inl rfl), h.b⟩
/-- The grouping after k rounds. -/
def grRound (l : List (Int × Int)) (k : Nat) : Gr := if k ≤ l.length then Gr.run (l.take k) else ⟨pD (Gr.run l).gone (pI (Gr.run l).text (Gr.run l).out), [], 0, (Gr.run l).kept⟩
theorem grRound_le {l : List (Int × Int)} {k : Nat} (h : k ≤ l.length) : grRound l k = Gr.run (l.take k) := if_pos h
theorem grRound_next {l : List (Int × Int)} {k : Nat} (h : k < l.length) : grRound l (k + 1) = (grRound l k).step l[k] := by
  rw [grRound_le (Nat.le_of_lt h), grRound_le h, List.take_succ_eq_append_getElem h, run_snoc]
theorem grRound_last (l : List (Int × Int)) : grRound l (l.length + 1) = ⟨pD (Gr.run l).gone (pI (Gr.run l).text (Gr.run l).out), [], 0, (Gr.run l).kept⟩ := if_neg (by omega)
theorem grRound_all (l : List (Int × Int)) : grRound l l.length = Gr.run l := by rw [grRound_le (Nat.le_refl _), List.take_length]
theorem grRound_most (l : List (Int × Int)) (k : Nat) (h : k ≤ l.length) : (grRound l k).out.length + (grRound l k).text.length + (grRound l k).gone + (grRound l k).kept ≤ l.length := by
  rw [grRound_le h]
  have := run_most (l.take k)
  unfold Gr.most at this
  rw [List.length_take] at this
  omega
theorem grRound_end (l : List (Int × Int)) : pK (grRound l (l.length + 1)).kept (grRound l (l.length + 1)).out = (Gr.run l).fin := by rw [grRound_last]; rfl
theorem gr_ret {w0 w : World} {Ao At : Option Addr} {co ct : Nat} {out : List PartD} {text : List Int} {l : List (Int × Int)} (h : GrAt w0 w Ao co At ct out text) (he : out = (Gr.run l).fin) : RetOpO w0 (grouped l) (.returned (.slice Ao out.length co)) w := by
  have e : out.reverse = grouped l := by rw [he]; rfl
  have hl : out.length = (grouped l).length := by rw [← e, List.length_reverse]
  have h1 := h.o
  rw [e, hl] at h1
  exact ⟨Ao, co, by rw [hl], h1, h.b⟩
set_option maxHeartbeats 4000000 in
theorem grouped_c (w : World) (A : Option Addr) (c : Nat) (l : List (Int × Int)) (hs : StepsIn (· < w.heap.size) w A l) (hl : l.length ≤ 1048576) :
    Calls Tryd.prog 83 #[.slice A l.length c] w (RetOpO w (grouped l)) := by
  obtain ⟨i0, hi, hz0, hz1, hz2⟩ := info_parts infoPart
  obtain ⟨j0, hj, hy0, hy1, hy2⟩ := info_parts infoRune
  have HS := Lib.hid hs
  clear hs
  go_enter Tryd.func83, Tryd.ntmps83
  go_wp2_with fail
  go_loopw [3, 4, 5, 6, 7] (fun o_ t_ g_ k_ i wr => ∃ (k : Nat) (out : List PartD) (text : List Int) (gone kept : Nat) (Ao : Option Addr) (co : Nat) (At : Option Addr) (ct : Nat), k ≤ l.length + 1 ∧ i = .int .i64 k ∧ g_ = .int .i64 gone ∧ k_ = .int .i64 kept ∧ o_ = .slice Ao out.length co ∧ t_ = .slice At text.length ct ∧ Hid (grRound l k = ⟨out, text, gone, kept⟩) ∧ Hid (GrAt w wr Ao co At ct out text))
    (fun _ _ _ _ i _ => l.length + 1 - (intOf i).toNat)
  case atStart => exact ⟨0, [], [], 0, 0, none, 0, none, 0, Nat.zero_le _, rfl, rfl, rfl, rfl, rfl, grRound_le (Nat.zero_le _), ⟨World.ownsRow_nil _ _ _ _, World.ownsRow_nil _ _ _ _, .inl rfl, Below.refl _ _⟩⟩
  case round =>
    obtain ⟨k, out, text, gone, kept, Ao, co, At, ct, hk, rfl, rfl, rfl, rfl, rfl, hgr, hat0⟩ := hrel
    have hsz := hat0.out.b.size
    by_cases hlt : k < l.length
    · obtain ⟨b, o, rfl, hbs, g0, g1⟩ := StepsIn.at_ HS.out hlt
      have hN := grRound_next hlt
      have hM := grRound_most l k (Nat.le_of_lt hlt)
      rw [hgr.out] at hN hM
      dsimp only at hM
      have HC0 := Lib.hid (fun (W : World) (h : Below w.heap.size w W) => (h.cell (p := ⟨b, o + k * 2, none⟩) hbs).trans g0)
      have HC1 := Lib.hid (fun (W : World) (h : Below w.heap.size w W) => (h.cell (p := ⟨b, o + k * 2 + 1, none⟩) hbs).trans g1)
      generalize l[k] = x at *
      obtain ⟨kd, rr⟩ := x
      dsimp only at *
      have y0 := HC0.out wr hat0.out.b
      have y1 := HC1.out wr hat0.out.b
      clear g0 g1
      by_cases hk2 : kd = 2
      · subst hk2
        have HN := Lib.hid (show grRound l (k + 1) = ⟨pK kept out, text ++ [rr], gone, 0⟩ from hN)
        clear hN hgr
        by_cases hkp : 0 < kept
        · rw [pK_pos hkp] at HN
          have HX1 := Lib.hid (hat0.out.later (bAlloc (Below.refl _ _) (.cells #[.int .i64 1, .int .i64 kept, .string ⟨#[]⟩] 90)))
          have HS1 := Lib.hid (Sl.new (S := fun _ => True) wr [.int .i64 1, .int .i64 kept, .string ⟨#[]⟩] 90 3 1 rfl trivial)
          go_wp2_with (at_builtin; refine wpList_append_sl _ rfl _ _ 43 rfl w.heap.size 90 i0 (.agg #[.int .i64 0, .int .i64 0, .string ⟨#[]⟩]) 3 32 Tryd.underlying43 hi hz0 hz1 hz2 rfl (by decide) _ _ _ rfl HX1.out.o _ _ _ _ _ rfl HS1.out ?c1 ?c2 ?c3 ?c4 ?_)
          case c1 => simp [Value.oneCell']
          case c2 => unfold maxLen; omega
          case c3 => omega
          case c4 => simp; omega
          intro A1 c1 w1 hown1 hgrow1 hat1
          have HP1 := Lib.hid (HX1.out.push (p := ⟨1, (kept : Int), ⟨#[]⟩⟩) rfl hown1 hgrow1 (by simpa using hat1))
          have hzw1 := HP1.out.b.size
          clear hown1 hgrow1 hat1 HX1 HS1
          have x0 := HC0.out w1 HP1.out.b
          have x1 := HC1.out w1 HP1.out.b
          clear y0 y1
          have HX2 := Lib.hid (HP1.out.later (bAlloc (Below.refl _ _) (.cells #[.int .i32 rr] 21)))
          have HS2 := Lib.hid (Sl.new (S := fun _ => True) w1 [.int .i32 rr] 21 1 1 rfl trivial)
          go_wp2_with (at_builtin; refine wpList_append_sl _ rfl _ _ 112 rfl w.heap.size 21 j0 (.int .i32 0) 1 4 Tryd.underlying112 hj hy0 hy1 hy2 rfl (by decide) _ _ _ rfl HX2.out.t _ _ _ _ _ rfl HS2.out ?c1 ?c2 ?c3 ?c4 ?_)
          case c1 => simp [Value.oneCell']
          case c2 => unfold maxLen; omega
          case c3 => omega
          case c4 => simp; omega
          intro A2 c2 w2 hown2 hgrow2 hat2
          have HP2 := Lib.hid (HX2.out.rune (x := rr) rfl hown2 hgrow2 (by simpa using hat2))
          clear hown2 hgrow2 hat2 HX2 HS2
          go_wp2_with fail
          go_roundw
          case rel => exact ⟨k + 1, (⟨1, (kept : Int), ⟨#[]⟩⟩ :: out), (text ++ [rr]), gone, 0, A1, c1, A2, c2, by omega, by go_num, (by first | rfl | go_num | simp), (by first | rfl | go_num | simp), (by first | rfl | simp), (by first | rfl | simp), HN, HP2⟩
          case measure => simp [intOf] <;> omega
        · obtain rfl : kept = 0 := by omega
          rw [pK_zero] at HN
          have HX1 := Lib.hid (hat0.out.later (bAlloc (Below.refl _ _) (.cells #[.int .i32 rr] 21)))
          have HS1 := Lib.hid (Sl.new (S := fun _ => True) wr [.int .i32 rr] 21 1 1 rfl trivial)
          go_wp2_with (at_builtin; refine wpList_append_sl _ rfl _ _ 112 rfl w.heap.size 21 j0 (.int .i32 0) 1 4 Tryd.underlying112 hj hy0 hy1 hy2 rfl (by decide) _ _ _ rfl HX1.out.t _ _ _ _ _ rfl HS1.out ?c1 ?c2 ?c3 ?c4 ?_)
          case c1 => simp [Value.oneCell']
          case c2 => unfold maxLen; omega
          case c3 => omega
          case c4 => simp; omega
          intro A1 c1 w1 hown1 hgrow1 hat1
          have HP1 := Lib.hid (HX1.out.rune (x := rr) rfl hown1 hgrow1 (by simpa using hat1))
          clear hown1 hgrow1 hat1 HX1 HS1
          go_wp2_with fail
          go_roundw
          case rel => exact ⟨k + 1, out, (text ++ [rr]), gone, 0, Ao, co, A1, c1, by omega, by go_num, (by first | rfl | go_num | simp), (by first | rfl | go_num | simp), (by first | rfl | simp), (by first | rfl | simp), HN, HP1⟩
          case measure => simp [intOf] <;> omega
      have e2 : (kd == 2) = false := by simpa using hk2
      by_cases hk3 : kd = 3
      · subst hk3
        have HN := Lib.hid (show grRound l (k + 1) = ⟨pK kept out, text, gone + 1, 0⟩ from hN)
        clear hN hgr
        by_cases hkp : 0 < kept
        · rw [pK_pos hkp] at HN
          have HX1 := Lib.hid (hat0.out.later (bAlloc (Below.refl _ _) (.cells #[.int .i64 1, .int .i64 kept, .string ⟨#[]⟩] 90)))
          have HS1 := Lib.hid (Sl.new (S := fun _ => True) wr [.int .i64 1, .int .i64 kept, .string ⟨#[]⟩] 90 3 1 rfl trivial)
          go_wp2_with (at_builtin; refine wpList_append_sl _ rfl _ _ 43 rfl w.heap.size 90 i0 (.agg #[.int .i64 0, .int .i64 0, .string ⟨#[]⟩]) 3 32 Tryd.underlying43 hi hz0 hz1 hz2 rfl (by decide) _ _ _ rfl HX1.out.o _ _ _ _ _ rfl HS1.out ?c1 ?c2 ?c3 ?c4 ?_)
          case c1 => simp [Value.oneCell']
          case c2 => unfold maxLen; omega
          case c3 => omega
          case c4 => simp; omega
          intro A1 c1 w1 hown1 hgrow1 hat1
          have HP1 := Lib.hid (HX1.out.push (p := ⟨1, (kept : Int), ⟨#[]⟩⟩) rfl hown1 hgrow1 (by simpa using hat1))
          have hzw1 := HP1.out.b.size
          clear hown1 hgrow1 hat1 HX1 HS1
          go_wp2_with fail
          go_roundw
          case rel => exact ⟨k + 1, (⟨1, (kept : Int), ⟨#[]⟩⟩ :: out), text, (gone + 1), 0, A1, c1, At, ct, by omega, by go_num, (by first | rfl | go_num | simp), (by first | rfl | go_num | simp), (by first | rfl | simp), (by first | rfl | simp), HN, HP1⟩
          case measure => simp [intOf] <;> omega
        · obtain rfl : kept = 0 := by omega
          rw [pK_zero] at HN
          go_wp2_with fail
          go_roundw
          case rel => exact ⟨k + 1, out, text, (gone + 1), 0, Ao, co, At, ct, by omega, by go_num, (by first | rfl | go_num | simp), (by first | rfl | go_num | simp), (by first | rfl | simp), (by first | rfl | simp), HN, hat0⟩
          case measure => simp [intOf] <;> omega
      have e3 : (kd == 3) = false := by simpa using hk3
      have HN := Lib.hid (show grRound l (k + 1) = ⟨pD gone (pI text out), [], 0, kept + 1⟩ by
        rw [hN]
        unfold Gr.step
        rw [if_neg hk2, if_neg hk3])
      clear hN hgr hk2 hk3
      by_cases htx : 0 < text.length
      · rw [pI_pos htx] at HN
        have hcv := convSl (W := wr) (c := ct) (own_sl' hat0.out.t)
        generalize hpi : runesBytes text = piece at hcv
        have HPI := Lib.hid hpi
        clear hpi
        rw [HPI.out] at HN
        by_cases hgo : 0 < gone
        · rw [pD_pos hgo] at HN
          have HX1 := Lib.hid (hat0.out.later (bAlloc (Below.refl _ _) (.cells #[.int .i64 2, .int .i64 0, .string piece] 90)))
          have HS1 := Lib.hid (Sl.new (S := fun _ => True) wr [.int .i64 2, .int .i64 0, .string piece] 90 3 1 rfl trivial)
          go_wp2_with (at_builtin; refine wpList_append_sl _ rfl _ _ 43 rfl w.heap.size 90 i0 (.agg #[.int .i64 0, .int .i64 0, .string ⟨#[]⟩]) 3 32 Tryd.underlying43 hi hz0 hz1 hz2 rfl (by decide) _ _ _ rfl HX1.out.o _ _ _ _ _ rfl HS1.out ?c1 ?c2 ?c3 ?c4 ?_)
          case c1 => simp [Value.oneCell']
          case c2 => unfold maxLen; omega
          case c3 => omega
          case c4 => simp; omega
          intro A1 c1 w1 hown1 hgrow1 hat1
          have HP1 := Lib.hid (HX1.out.push (p := ⟨2, 0, piece⟩) rfl hown1 hgrow1 (by simpa using hat1))
          have hzw1 := HP1.out.b.size
          clear hcv hown1 hgrow1 hat1 HX1 HS1
          have HX2 := Lib.hid (HP1.out.later (bAlloc (Below.refl _ _) (.cells #[.int .i64 3, .int .i64 gone, .string ⟨#[]⟩] 90)))
          have HS2 := Lib.hid (Sl.new (S := fun _ => True) w1 [.int .i64 3, .int .i64 gone, .string ⟨#[]⟩] 90 3 1 rfl trivial)
          have HO2 := Lib.hid (show (w1.alloc (.cells #[.int .i64 3, .int .i64 gone, .string ⟨#[]⟩] 90)).ownsRow w.heap.size 90 3 (.slice A1 (out.length + 1) c1) (out.length + 1) (opCells (⟨2, 0, piece⟩ :: out).reverse) from HX2.out.o)
          go_wp2_with (at_builtin; refine wpList_append_sl _ rfl _ _ 43 rfl w.heap.size 90 i0 (.agg #[.int .i64 0, .int .i64 0, .string ⟨#[]⟩]) 3 32 Tryd.underlying43 hi hz0 hz1 hz2 rfl (by decide) _ _ _ rfl HO2.out _ _ _ _ _ rfl HS2.out ?c1 ?c2 ?c3 ?c4 ?_)
          case c1 => simp [Value.oneCell']
          case c2 => unfold maxLen; omega
          case c3 => omega
          case c4 => simp; omega
          intro A2 c2 w2 hown2 hgrow2 hat2
          have HP2 := Lib.hid (HX2.out.push (p := ⟨3, (gone : Int), ⟨#[]⟩⟩) rfl (by rw [List.reverse_cons]; exact hown2) hgrow2 (by simpa using hat2))
          have hzw2 := HP2.out.b.size
          clear hown2 hgrow2 hat2 HX2 HS2
          go_wp2_with fail
          go_roundw
          case rel => exact ⟨k + 1, (⟨3, (gone : Int), ⟨#[]⟩⟩ :: ⟨2, 0, piece⟩ :: out), [], 0, (kept + 1), A2, c2, none, 0, by omega, by go_num, (by first | rfl | go_num | simp), (by first | rfl | go_num | simp), (by first | rfl | simp), (by first | rfl | simp), HN, HP2.out.cut⟩
          case measure => simp [intOf] <;> omega
        · obtain rfl : gone = 0 := by omega
          rw [pD_zero] at HN
          have HX1 := Lib.hid (hat0.out.later (bAlloc (Below.refl _ _) (.cells #[.int .i64 2, .int .i64 0, .string piece] 90)))
          have HS1 := Lib.hid (Sl.new (S := fun _ => True) wr [.int .i64 2, .int .i64 0, .string piece] 90 3 1 rfl trivial)
          go_wp2_with (at_builtin; refine wpList_append_sl _ rfl _ _ 43 rfl w.heap.size 90 i0 (.agg #[.int .i64 0, .int .i64 0, .string ⟨#[]⟩]) 3 32 Tryd.underlying43 hi hz0 hz1 hz2 rfl (by decide) _ _ _ rfl HX1.out.o _ _ _ _ _ rfl HS1.out ?c1 ?c2 ?c3 ?c4 ?_)
          case c1 => simp [Value.oneCell']
          case c2 => unfold maxLen; omega
          case c3 => omega
          case c4 => simp; omega
          intro A1 c1 w1 hown1 hgrow1 hat1
          have HP1 := Lib.hid (HX1.out.push (p := ⟨2, 0, piece⟩) rfl hown1 hgrow1 (by simpa using hat1))
          have hzw1 := HP1.out.b.size
          clear hcv hown1 hgrow1 hat1 HX1 HS1
          go_wp2_with fail
          go_roundw
          case rel => exact ⟨k + 1, (⟨2, 0, piece⟩ :: out), [], 0, (kept + 1), A1, c1, none, 0, by omega, by go_num, (by first | rfl | go_num | simp), (by first | rfl | go_num | simp), (by first | rfl | simp), (by first | rfl | simp), HN, HP1.out.cut⟩
          case measure => simp [intOf] <;> omega
      · obtain rfl : text = [] := List.eq_nil_of_length_eq_zero (by omega)
        rw [pI_nil] at HN
        clear htx
        by_cases hgo : 0 < gone
        · rw [pD_pos hgo] at HN
          have HX1 := Lib.hid (hat0.out.later (bAlloc (Below.refl _ _) (.cells #[.int .i64 3, .int .i64 gone, .string ⟨#[]⟩] 90)))
          have HS1 := Lib.hid (Sl.new (S := fun _ => True) wr [.int .i64 3, .int .i64 gone, .string ⟨#[]⟩] 90 3 1 rfl trivial)
          go_wp2_with (at_builtin; refine wpList_append_sl _ rfl _ _ 43 rfl w.heap.size 90 i0 (.agg #[.int .i64 0, .int .i64 0, .string ⟨#[]⟩]) 3 32 Tryd.underlying43 hi hz0 hz1 hz2 rfl (by decide) _ _ _ rfl HX1.out.o _ _ _ _ _ rfl HS1.out ?c1 ?c2 ?c3 ?c4 ?_)
          case c1 => simp [Value.oneCell']
          case c2 => unfold maxLen; omega
          case c3 => omega
          case c4 => simp; omega
          intro A1 c1 w1 hown1 hgrow1 hat1
          have HP1 := Lib.hid (HX1.out.push (p := ⟨3, (gone : Int), ⟨#[]⟩⟩) rfl hown1 hgrow1 (by simpa using hat1))
          have hzw1 := HP1.out.b.size
          clear hown1 hgrow1 hat1 HX1 HS1
          go_wp2_with fail
          go_roundw
          case rel => exact ⟨k + 1, (⟨3, (gone : Int), ⟨#[]⟩⟩ :: out), [], 0, (kept + 1), A1, c1, At, ct, by omega, by go_num, (by first | rfl | go_num | simp), (by first | rfl | go_num | simp), (by first | rfl | simp), (by first | rfl | simp), HN, HP1⟩
          case measure => simp [intOf] <;> omega
        · obtain rfl : gone = 0 := by omega
          rw [pD_zero] at HN
          go_wp2_with fail
          go_roundw
          case rel => exact ⟨k + 1, out, [], 0, (kept + 1), Ao, co, At, ct, by omega, by go_num, (by first | rfl | go_num | simp), (by first | rfl | go_num | simp), (by first | rfl | simp), (by first | rfl | simp), HN, hat0⟩
          case measure => simp [intOf] <;> omega
    by_cases hle : k = l.length
    · subst hle
      have HN := Lib.hid (grRound_last l)
      have hM := grRound_most l l.length (Nat.le_refl _)
      rw [← grRound_all] at HN
      rw [hgr.out] at hM HN
      dsimp only at hM HN
      clear hgr hlt
      by_cases htx : 0 < text.length
      · rw [pI_pos htx] at HN
        have hcv := convSl (W := wr) (c := ct) (own_sl' hat0.out.t)
        generalize hpi : runesBytes text = piece at hcv
        have HPI := Lib.hid hpi
        clear hpi
        rw [HPI.out] at HN
        by_cases hgo : 0 < gone
        · rw [pD_pos hgo] at HN
          have HX1 := Lib.hid (hat0.out.later (bAlloc (Below.refl _ _) (.cells #[.int .i64 2, .int .i64 0, .string piece] 90)))
          have HS1 := Lib.hid (Sl.new (S := fun _ => True) wr [.int .i64 2, .int .i64 0, .string piece] 90 3 1 rfl trivial)
          go_wp2_with (at_builtin; refine wpList_append_sl _ rfl _ _ 43 rfl w.heap.size 90 i0 (.agg #[.int .i64 0, .int .i64 0, .string ⟨#[]⟩]) 3 32 Tryd.underlying43 hi hz0 hz1 hz2 rfl (by decide) _ _ _ rfl HX1.out.o _ _ _ _ _ rfl HS1.out ?c1 ?c2 ?c3 ?c4 ?_)
          case c1 => simp [Value.oneCell']
          case c2 => unfold maxLen; omega
          case c3 => omega
          case c4 => simp; omega
          intro A1 c1 w1 hown1 hgrow1 hat1
          have HP1 := Lib.hid (HX1.out.push (p := ⟨2, 0, piece⟩) rfl hown1 hgrow1 (by simpa using hat1))
          have hzw1 := HP1.out.b.size
          clear hcv hown1 hgrow1 hat1 HX1 HS1
          have HX2 := Lib.hid (HP1.out.later (bAlloc (Below.refl _ _) (.cells #[.int .i64 3, .int .i64 gone, .string ⟨#[]⟩] 90)))
          have HS2 := Lib.hid (Sl.new (S := fun _ => True) w1 [.int .i64 3, .int .i64 gone, .string ⟨#[]⟩] 90 3 1 rfl trivial)
          have HO2 := Lib.hid (show (w1.alloc (.cells #[.int .i64 3, .int .i64 gone, .string ⟨#[]⟩] 90)).ownsRow w.heap.size 90 3 (.slice A1 (out.length + 1) c1) (out.length + 1) (opCells (⟨2, 0, piece⟩ :: out).reverse) from HX2.out.o)
          go_wp2_with (at_builtin; refine wpList_append_sl _ rfl _ _ 43 rfl w.heap.size 90 i0 (.agg #[.int .i64 0, .int .i64 0, .string ⟨#[]⟩]) 3 32 Tryd.underlying43 hi hz0 hz1 hz2 rfl (by decide) _ _ _ rfl HO2.out _ _ _ _ _ rfl HS2.out ?c1 ?c2 ?c3 ?c4 ?_)
          case c1 => simp [Value.oneCell']
          case c2 => unfold maxLen; omega
          case c3 => omega
          case c4 => simp; omega
          intro A2 c2 w2 hown2 hgrow2 hat2
          have HP2 := Lib.hid (HX2.out.push (p := ⟨3, (gone : Int), ⟨#[]⟩⟩) rfl (by rw [List.reverse_cons]; exact hown2) hgrow2 (by simpa using hat2))
          have hzw2 := HP2.out.b.size
          clear hown2 hgrow2 hat2 HX2 HS2
          go_wp2_with fail
          go_roundw
          case rel => exact ⟨l.length + 1, (⟨3, (gone : Int), ⟨#[]⟩⟩ :: ⟨2, 0, piece⟩ :: out), [], 0, kept, A2, c2, none, 0, by omega, by go_num, (by first | rfl | go_num | simp), (by first | rfl | go_num | simp), (by first | rfl | simp), (by first | rfl | simp), HN, HP2.out.cut⟩
          case measure => simp [intOf] <;> omega
        · obtain rfl : gone = 0 := by omega
          rw [pD_zero] at HN
          have HX1 := Lib.hid (hat0.out.later (bAlloc (Below.refl _ _) (.cells #[.int .i64 2, .int .i64 0, .string piece] 90)))
          have HS1 := Lib.hid (Sl.new (S := fun _ => True) wr [.int .i64 2, .int .i64 0, .string piece] 90 3 1 rfl trivial)
          go_wp2_with (at_builtin; refine wpList_append_sl _ rfl _ _ 43 rfl w.heap.size 90 i0 (.agg #[.int .i64 0, .int .i64 0, .string ⟨#[]⟩]) 3 32 Tryd.underlying43 hi hz0 hz1 hz2 rfl (by decide) _ _ _ rfl HX1.out.o _ _ _ _ _ rfl HS1.out ?c1 ?c2 ?c3 ?c4 ?_)
          case c1 => simp [Value.oneCell']
          case c2 => unfold maxLen; omega
          case c3 => omega
          case c4 => simp; omega
          intro A1 c1 w1 hown1 hgrow1 hat1
          have HP1 := Lib.hid (HX1.out.push (p := ⟨2, 0, piece⟩) rfl hown1 hgrow1 (by simpa using hat1))
          have hzw1 := HP1.out.b.size
          clear hcv hown1 hgrow1 hat1 HX1 HS1
          go_wp2_with fail
          go_roundw
          case rel => exact ⟨l.length + 1, (⟨2, 0, piece⟩ :: out), [], 0, kept, A1, c1, none, 0, by omega, by go_num, (by first | rfl | go_num | simp), (by first | rfl | go_num | simp), (by first | rfl | simp), (by first | rfl | simp), HN, HP1.out.cut⟩
          case measure => simp [intOf] <;> omega
      · obtain rfl : text = [] := List.eq_nil_of_length_eq_zero (by omega)
        rw [pI_nil] at HN
        clear htx
        by_cases hgo : 0 < gone
        · rw [pD_pos hgo] at HN
          have HX1 := Lib.hid (hat0.out.later (bAlloc (Below.refl _ _) (.cells #[.int .i64 3, .int .i64 gone, .string ⟨#[]⟩] 90)))
          have HS1 := Lib.hid (Sl.new (S := fun _ => True) wr [.int .i64 3, .int .i64 gone, .string ⟨#[]⟩] 90 3 1 rfl trivial)
          go_wp2_with (at_builtin; refine wpList_append_sl _ rfl _ _ 43 rfl w.heap.size 90 i0 (.agg #[.int .i64 0, .int .i64 0, .string ⟨#[]⟩]) 3 32 Tryd.underlying43 hi hz0 hz1 hz2 rfl (by decide) _ _ _ rfl HX1.out.o _ _ _ _ _ rfl HS1.out ?c1 ?c2 ?c3 ?c4 ?_)
          case c1 => simp [Value.oneCell']
          case c2 => unfold maxLen; omega
          case c3 => omega
          case c4 => simp; omega
          intro A1 c1 w1 hown1 hgrow1 hat1
          have HP1 := Lib.hid (HX1.out.push (p := ⟨3, (gone : Int), ⟨#[]⟩⟩) rfl hown1 hgrow1 (by simpa using hat1))
          have hzw1 := HP1.out.b.size
          clear hown1 hgrow1 hat1 HX1 HS1
          go_wp2_with fail
          go_roundw
          case rel => exact ⟨l.length + 1, (⟨3, (gone : Int), ⟨#[]⟩⟩ :: out), [], 0, kept, A1, c1, At, ct, by omega, by go_num, (by first | rfl | go_num | simp), (by first | rfl | go_num | simp), (by first | rfl | simp), (by first | rfl | simp), HN, HP1⟩
          case measure => simp [intOf] <;> omega
        · obtain rfl : gone = 0 := by omega
          rw [pD_zero] at HN
          go_wp2_with fail
          go_roundw
          case rel => exact ⟨l.length + 1, out, [], 0, kept, Ao, co, At, ct, by omega, by go_num, (by first | rfl | go_num | simp), (by first | rfl | go_num | simp), (by first | rfl | simp), (by first | rfl | simp), HN, hat0⟩
          case measure => simp [intOf] <;> omega
    · obtain rfl : k = l.length + 1 := by omega
      have HN := Lib.hid (grRound_end l)
      have hM := grRound_most l l.length (Nat.le_refl _)
      have hF := fin_length (Gr.run l)
      rw [hgr.out] at HN
      dsimp only at HN
      have hol : out.length ≤ 2097152 := by
        have h1 := congrArg List.length HN.out
        have h2 := run_most l
        have h3 : out.length ≤ (pK kept out).length := by unfold pK; split <;> simp
        omega
      clear hgr hlt hle hM hF
      by_cases hkp : 0 < kept
      · rw [pK_pos hkp] at HN
        have HX1 := Lib.hid (hat0.out.later (bAlloc (Below.refl _ _) (.cells #[.int .i64 1, .int .i64 kept, .string ⟨#[]⟩] 90)))
        have HS1 := Lib.hid (Sl.new (S := fun _ => True) wr [.int .i64 1, .int .i64 kept, .string ⟨#[]⟩] 90 3 1 rfl trivial)
        go_wp2_with (at_builtin; refine wpList_append_sl _ rfl _ _ 43 rfl w.heap.size 90 i0 (.agg #[.int .i64 0, .int .i64 0, .string ⟨#[]⟩]) 3 32 Tryd.underlying43 hi hz0 hz1 hz2 rfl (by decide) _ _ _ rfl HX1.out.o _ _ _ _ _ rfl HS1.out ?c1 ?c2 ?c3 ?c4 ?_)
        case c1 => simp [Value.oneCell']
        case c2 => unfold maxLen; omega
        case c3 => omega
        case c4 => simp; omega
        intro A1 c1 w1 hown1 hgrow1 hat1
        have HP1 := Lib.hid (HX1.out.push (p := ⟨1, (kept : Int), ⟨#[]⟩⟩) rfl hown1 hgrow1 (by simpa using hat1))
        have hzw1 := HP1.out.b.size
        clear hown1 hgrow1 hat1 HX1 HS1
        go_wp2_with fail
        go_ret
        exact gr_ret HP1.out HN.out
      · obtain rfl : kept = 0 := by omega
        rw [pK_zero] at HN
        go_wp2_with fail
        go_ret
        exact gr_ret hat0.out HN.out
end Go.Proofs.YtbmdepbmejnlkaaDoor
