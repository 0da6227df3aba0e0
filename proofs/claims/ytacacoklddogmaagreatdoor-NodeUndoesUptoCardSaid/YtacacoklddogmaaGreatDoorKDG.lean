/- A part of the proof of NodeUndoes. -/
import Derived.Test.YtacacoklddogmaaGreatDoorKDC
import Derived.Test.YtacacoklddogmaaGreatDoorKDF
namespace Go.Proofs.YtacacoklddogmaaGreatDoor
set_option maxHeartbeats 4000000
open Go.ChangeShapes Go.WideShapes Go.ChangeAt Go.RowKit
set_option maxRecDepth 100000
def Apart2 (a b : Option Nat) : Prop := a = none ∨ b = none ∨ a ≠ b
theorem Apart2.left {a b : Option Nat} (h : Apart2 a b) : a = none ∨ a ≠ b := by
 rcases h with h | h | h
 · exact .inl h
 · cases a with
   | none => exact .inl rfl
   | some x => exact .inr (by rw [h]; simp)
 · exact .inr h
theorem Apart2.symm {a b : Option Nat} (h : Apart2 a b) : Apart2 b a := by
 rcases h with h | h | h
 · exact .inr (.inl h)
 · exact .inl h
 · exact .inr (.inr (fun e => h e.symm))
theorem Apart2.fresh {a a' b : Option Nat} {x : Nat} (h : Apart2 a b) (ha : a' = a ∨ a' = some x) (hb : ∀ y, b = some y → y < x) : Apart2 a' b := by
 rcases ha with rfl | rfl
 · exact h
 · cases b with
   | none => exact .inr (.inl rfl)
   | some y => exact .inr (.inr (fun e => by injection e with e; have := hb y rfl; omega))
structure GrAt (w0 w : World) (Ao : Option Addr) (co : Nat) (At : Option Addr) (ct : Nat) (out : List PartD) (text : List Int) : Prop where
 o : w.ownsRow w0.heap.size 73 3 (.slice Ao out.length co) out.length (opCells out.reverse)
 t : w.ownsRow w0.heap.size 21 1 (.slice At text.length ct) text.length (text.map (Value.int .i32))
 a : Apart2 (Value.slice Ao out.length co).ownBlock (Value.slice At text.length ct).ownBlock
 b : Below w0.heap.size w0 w
theorem GrAt.later {w0 w w' : World} {Ao At : Option Addr} {co ct : Nat} {out : List PartD} {text : List Int} (h : GrAt w0 w Ao co At ct out text) (hb : Below w.heap.size w w') : GrAt w0 w' Ao co At ct out text :=
 ⟨h.o.kept (row := none) ⟨hb.os, hb.tape, hb.output, hb.size, fun k hk _ => hb.block k hk⟩ (by cases (Value.slice Ao out.length co).ownBlock <;> simp), h.t.kept (row := none) ⟨hb.os, hb.tape, hb.output, hb.size, fun k hk _ => hb.block k hk⟩ (by cases (Value.slice At text.length ct).ownBlock <;> simp), h.a, bThen h.b hb⟩
theorem GrAt.push {w0 W2 w1 : World} {Ao At A' : Option Addr} {co ct c' n' : Nat} {out : List PartD} {text : List Int} {p : PartD} (h : GrAt w0 W2 Ao co At ct out text) (hn : n' = out.length + 1)
 (hown : w1.ownsRow w0.heap.size 73 3 (.slice A' n' c') n' (opCells out.reverse ++ p.cells)) (hgrow : W2.grownBy w1 (Value.slice Ao out.length co).ownBlock)
 (hat : (Value.slice A' n' c').ownBlock = (Value.slice Ao out.length co).ownBlock ∨ (Value.slice A' n' c').ownBlock = some W2.heap.size) : GrAt w0 w1 A' c' At ct (p :: out) text := by
 subst hn
 refine ⟨?_, h.t.kept hgrow h.a.symm.left, h.a.fresh hat (fun y hy => (h.t.lt y hy).2), h.b.grown hgrow h.b.size (fun g hg => (h.o.lt g hg).1)⟩
 rw [List.reverse_cons, cp_]
 exact hown
theorem GrAt.rune {w0 W2 w1 : World} {Ao At A' : Option Addr} {co ct c' n' : Nat} {out : List PartD} {text : List Int} {x : Int} (h : GrAt w0 W2 Ao co At ct out text) (hn : n' = text.length + 1)
 (hown : w1.ownsRow w0.heap.size 21 1 (.slice A' n' c') n' (text.map (Value.int .i32) ++ [.int .i32 x])) (hgrow : W2.grownBy w1 (Value.slice At text.length ct).ownBlock)
 (hat : (Value.slice A' n' c').ownBlock = (Value.slice At text.length ct).ownBlock ∨ (Value.slice A' n' c').ownBlock = some W2.heap.size) : GrAt w0 w1 Ao co A' c' out (text ++ [x]) := by
 subst hn
 have e : (text ++ [x]).length = text.length + 1 := by simp
 refine ⟨h.o.kept hgrow h.a.left, ?_, ?_, h.b.grown hgrow h.b.size (fun g hg => (h.t.lt g hg).1)⟩
 · rw [e, List.map_append]
   exact hown
 · rw [e]
   exact (h.a.symm.fresh hat (fun y hy => (h.o.lt y hy).2)).symm
theorem GrAt.cut {w0 w : World} {Ao At : Option Addr} {co ct : Nat} {out : List PartD} {text : List Int} (h : GrAt w0 w Ao co At ct out text) : GrAt w0 w Ao co none 0 out [] :=
 ⟨h.o, World.ownsRow_nil _ _ _ _, .inr (.inl rfl), h.b⟩
def grRound (l : List (Int × Int)) (k : Nat) : Gr := if k ≤ l.length then Gr.run (l.take k) else ⟨pD (Gr.run l).gone (pI (Gr.run l).text (Gr.run l).out), [], 0, (Gr.run l).kept⟩
theorem ee_ {l : List (Int × Int)} {k : Nat} (h : k ≤ l.length) : grRound l k = Gr.run (l.take k) := if_pos h
theorem qh_ {l : List (Int × Int)} {k : Nat} (h : k < l.length) : grRound l (k + 1) = (grRound l k).step l[k] := by
 rw [ee_ (Nat.le_of_lt h), ee_ h, List.take_succ_eq_append_getElem h, yk_]
theorem hr_ (l : List (Int × Int)) : grRound l (l.length + 1) = ⟨pD (Gr.run l).gone (pI (Gr.run l).text (Gr.run l).out), [], 0, (Gr.run l).kept⟩ := if_neg (by omega)
theorem rx_ (l : List (Int × Int)) : grRound l l.length = Gr.run l := by rw [ee_ (Nat.le_refl _), List.take_length]
theorem fk_ (l : List (Int × Int)) (k : Nat) (h : k ≤ l.length) : (grRound l k).out.length + (grRound l k).text.length + (grRound l k).gone + (grRound l k).kept ≤ l.length := by
 rw [ee_ h]
 have := fu_ (l.take k)
 unfold Gr.most at this
 rw [List.length_take] at this
 omega
theorem ry_ (l : List (Int × Int)) : pK (grRound l (l.length + 1)).kept (grRound l (l.length + 1)).out = (Gr.run l).fin := by rw [hr_]; rfl
theorem vn_ {w0 w : World} {Ao At : Option Addr} {co ct : Nat} {out : List PartD} {text : List Int} {l : List (Int × Int)} (h : GrAt w0 w Ao co At ct out text) (he : out = (Gr.run l).fin) : RetOpO w0 (grouped l) (.returned (.slice Ao out.length co)) w := by
 have e : out.reverse = grouped l := by rw [he]; rfl
 have hl : out.length = (grouped l).length := by rw [← e, List.length_reverse]
 have h1 := h.o
 rw [e, hl] at h1
 exact ⟨Ao, co, by rw [hl], h1, h.b⟩
theorem vo_ (w : World) (A : Option Addr) (c : Nat) (l : List (Int × Int)) (hs : StepsIn (· < w.heap.size) w A l) (hl : l.length ≤ 1048576) :
 Calls Tryz.prog 107 #[.slice A l.length c] w (RetOpO w (grouped l)) := by
 obtain ⟨i0, hi, hz0, hz1, hz2⟩ := info_parts infoPart
 obtain ⟨j0, hj, hy0, hy1, hy2⟩ := info_parts infoRune
 have HS := h_ hs
 clear hs
 go_enter Tryz.func107, Tryz.ntmps107
 go_wp2_with fail
 go_loopw [3, 4, 5, 6, 7] (fun o_ t_ g_ k_ i wr => ∃ (k : Nat) (out : List PartD) (text : List Int) (gone kept : Nat) (Ao : Option Addr) (co : Nat) (At : Option Addr) (ct : Nat), k ≤ l.length + 1 ∧ i = .int .i64 k ∧ g_ = .int .i64 gone ∧ k_ = .int .i64 kept ∧ o_ = .slice Ao out.length co ∧ t_ = .slice At text.length ct ∧ Hid (grRound l k = ⟨out, text, gone, kept⟩) ∧ Hid (GrAt w wr Ao co At ct out text))
  (fun _ _ _ _ i _ => l.length + 1 - (intOf i).toNat)
 case atStart => exact ⟨0, [], [], 0, 0, none, 0, none, 0, Nat.zero_le _, rfl, rfl, rfl, rfl, rfl, ee_ (Nat.zero_le _), ⟨World.ownsRow_nil _ _ _ _, World.ownsRow_nil _ _ _ _, .inl rfl, Below.refl _ _⟩⟩
 case round =>
  obtain ⟨k, out, text, gone, kept, Ao, co, At, ct, hk, rfl, rfl, rfl, rfl, rfl, hgr, hat0⟩ := hrel
  have hsz := hat0.out.b.size
  by_cases hlt : k < l.length
  · obtain ⟨b, o, rfl, hbs, g0, g1⟩ := StepsIn.at_ HS.out hlt
    have hN := qh_ hlt
    have hM := fk_ l k (Nat.le_of_lt hlt)
    rw [hgr.out] at hN hM
    dsimp only at hM
    have HC0 := h_ (fun (W : World) (h : Below w.heap.size w W) => (h.cell (p := ⟨b, o + k * 2, none⟩) hbs).trans g0)
    have HC1 := h_ (fun (W : World) (h : Below w.heap.size w W) => (h.cell (p := ⟨b, o + k * 2 + 1, none⟩) hbs).trans g1)
    generalize l[k] = x at *
    obtain ⟨kd, rr⟩ := x
    dsimp only at *
    have y0 := HC0.out wr hat0.out.b
    have y1 := HC1.out wr hat0.out.b
    clear g0 g1
    by_cases hk2 : kd = 2
    · subst hk2
      have HN := h_ (show grRound l (k + 1) = ⟨pK kept out, text ++ [rr], gone, 0⟩ from hN)
      clear hN hgr
      by_cases hkp : 0 < kept
      · rw [ei_ hkp] at HN
        have HX1 := h_ (hat0.out.later (bAlloc (Below.refl _ _) (.cells #[.int .i64 1, .int .i64 kept, .string ⟨#[]⟩] 73)))
        have HS1 := h_ (Sl.new (S := fun _ => True) wr [.int .i64 1, .int .i64 kept, .string ⟨#[]⟩] 73 3 1 rfl trivial)
        go_wp2_with (at_builtin; refine j_ _ rfl _ _ 30 rfl w.heap.size 73 i0 (.agg #[.int .i64 0, .int .i64 0, .string ⟨#[]⟩]) 3 32 Tryz.underlying30 hi hz0 hz1 hz2 rfl (by decide) _ _ _ rfl HX1.out.o _ _ _ _ _ rfl HS1.out ?c1 ?c2 ?c3 ?c4 ?_)
        case c1 => simp [Value.oneCell']
        case c2 => unfold maxLen; omega
        case c3 => omega
        case c4 => simp; omega
        intro A1 c1 w1 hown1 hgrow1 hat1
        have HP1 := h_ (HX1.out.push (p := ⟨1, (kept : Int), ⟨#[]⟩⟩) rfl hown1 hgrow1 (by simpa using hat1))
        have hzw1 := HP1.out.b.size
        clear hown1 hgrow1 hat1 HX1 HS1
        have x0 := HC0.out w1 HP1.out.b
        have x1 := HC1.out w1 HP1.out.b
        clear y0 y1
        have HX2 := h_ (HP1.out.later (bAlloc (Below.refl _ _) (.cells #[.int .i32 rr] 21)))
        have HS2 := h_ (Sl.new (S := fun _ => True) w1 [.int .i32 rr] 21 1 1 rfl trivial)
        go_wp2_with (at_builtin; refine j_ _ rfl _ _ 135 rfl w.heap.size 21 j0 (.int .i32 0) 1 4 Tryz.underlying135 hj hy0 hy1 hy2 rfl (by decide) _ _ _ rfl HX2.out.t _ _ _ _ _ rfl HS2.out ?c1 ?c2 ?c3 ?c4 ?_)
        case c1 => simp [Value.oneCell']
        case c2 => unfold maxLen; omega
        case c3 => omega
        case c4 => simp; omega
        intro A2 c2 w2 hown2 hgrow2 hat2
        have HP2 := h_ (HX2.out.rune (x := rr) rfl hown2 hgrow2 (by simpa using hat2))
        clear hown2 hgrow2 hat2 HX2 HS2
        go_wp2_with fail
        go_roundw
        case rel => exact ⟨k + 1, (⟨1, (kept : Int), ⟨#[]⟩⟩ :: out), (text ++ [rr]), gone, 0, A1, c1, A2, c2, by omega, by go_num, (by first | rfl | go_num | simp), (by first | rfl | go_num | simp), (by first | rfl | simp), (by first | rfl | simp), HN, HP2⟩
        case measure => simp [intOf] <;> omega
      · obtain rfl : kept = 0 := by omega
        rw [ci_] at HN
        have HX1 := h_ (hat0.out.later (bAlloc (Below.refl _ _) (.cells #[.int .i32 rr] 21)))
        have HS1 := h_ (Sl.new (S := fun _ => True) wr [.int .i32 rr] 21 1 1 rfl trivial)
        go_wp2_with (at_builtin; refine j_ _ rfl _ _ 135 rfl w.heap.size 21 j0 (.int .i32 0) 1 4 Tryz.underlying135 hj hy0 hy1 hy2 rfl (by decide) _ _ _ rfl HX1.out.t _ _ _ _ _ rfl HS1.out ?c1 ?c2 ?c3 ?c4 ?_)
        case c1 => simp [Value.oneCell']
        case c2 => unfold maxLen; omega
        case c3 => omega
        case c4 => simp; omega
        intro A1 c1 w1 hown1 hgrow1 hat1
        have HP1 := h_ (HX1.out.rune (x := rr) rfl hown1 hgrow1 (by simpa using hat1))
        clear hown1 hgrow1 hat1 HX1 HS1
        go_wp2_with fail
        go_roundw
        case rel => exact ⟨k + 1, out, (text ++ [rr]), gone, 0, Ao, co, A1, c1, by omega, by go_num, (by first | rfl | go_num | simp), (by first | rfl | go_num | simp), (by first | rfl | simp), (by first | rfl | simp), HN, HP1⟩
        case measure => simp [intOf] <;> omega
    have e2 : (kd == 2) = false := by simpa using hk2
    by_cases hk3 : kd = 3
    · subst hk3
      have HN := h_ (show grRound l (k + 1) = ⟨pK kept out, text, gone + 1, 0⟩ from hN)
      clear hN hgr
      by_cases hkp : 0 < kept
      · rw [ei_ hkp] at HN
        have HX1 := h_ (hat0.out.later (bAlloc (Below.refl _ _) (.cells #[.int .i64 1, .int .i64 kept, .string ⟨#[]⟩] 73)))
        have HS1 := h_ (Sl.new (S := fun _ => True) wr [.int .i64 1, .int .i64 kept, .string ⟨#[]⟩] 73 3 1 rfl trivial)
        go_wp2_with (at_builtin; refine j_ _ rfl _ _ 30 rfl w.heap.size 73 i0 (.agg #[.int .i64 0, .int .i64 0, .string ⟨#[]⟩]) 3 32 Tryz.underlying30 hi hz0 hz1 hz2 rfl (by decide) _ _ _ rfl HX1.out.o _ _ _ _ _ rfl HS1.out ?c1 ?c2 ?c3 ?c4 ?_)
        case c1 => simp [Value.oneCell']
        case c2 => unfold maxLen; omega
        case c3 => omega
        case c4 => simp; omega
        intro A1 c1 w1 hown1 hgrow1 hat1
        have HP1 := h_ (HX1.out.push (p := ⟨1, (kept : Int), ⟨#[]⟩⟩) rfl hown1 hgrow1 (by simpa using hat1))
        have hzw1 := HP1.out.b.size
        clear hown1 hgrow1 hat1 HX1 HS1
        go_wp2_with fail
        go_roundw
        case rel => exact ⟨k + 1, (⟨1, (kept : Int), ⟨#[]⟩⟩ :: out), text, (gone + 1), 0, A1, c1, At, ct, by omega, by go_num, (by first | rfl | go_num | simp), (by first | rfl | go_num | simp), (by first | rfl | simp), (by first | rfl | simp), HN, HP1⟩
        case measure => simp [intOf] <;> omega
      · obtain rfl : kept = 0 := by omega
        rw [ci_] at HN
        go_wp2_with fail
        go_roundw
        case rel => exact ⟨k + 1, out, text, (gone + 1), 0, Ao, co, At, ct, by omega, by go_num, (by first | rfl | go_num | simp), (by first | rfl | go_num | simp), (by first | rfl | simp), (by first | rfl | simp), HN, hat0⟩
        case measure => simp [intOf] <;> omega
    have e3 : (kd == 3) = false := by simpa using hk3
    have HN := h_ (show grRound l (k + 1) = ⟨pD gone (pI text out), [], 0, kept + 1⟩ by
     rw [hN]
     unfold Gr.step
     rw [if_neg hk2, if_neg hk3])
    clear hN hgr hk2 hk3
    by_cases htx : 0 < text.length
    · rw [ft_ htx] at HN
      have hcv := convSl (W := wr) (c := ct) (fg_ hat0.out.t)
      generalize hpi : runesBytes text = piece at hcv
      have HPI := h_ hpi
      clear hpi
      rw [HPI.out] at HN
      by_cases hgo : 0 < gone
      · rw [do_ hgo] at HN
        have HX1 := h_ (hat0.out.later (bAlloc (Below.refl _ _) (.cells #[.int .i64 2, .int .i64 0, .string piece] 73)))
        have HS1 := h_ (Sl.new (S := fun _ => True) wr [.int .i64 2, .int .i64 0, .string piece] 73 3 1 rfl trivial)
        go_wp2_with (at_builtin; refine j_ _ rfl _ _ 30 rfl w.heap.size 73 i0 (.agg #[.int .i64 0, .int .i64 0, .string ⟨#[]⟩]) 3 32 Tryz.underlying30 hi hz0 hz1 hz2 rfl (by decide) _ _ _ rfl HX1.out.o _ _ _ _ _ rfl HS1.out ?c1 ?c2 ?c3 ?c4 ?_)
        case c1 => simp [Value.oneCell']
        case c2 => unfold maxLen; omega
        case c3 => omega
        case c4 => simp; omega
        intro A1 c1 w1 hown1 hgrow1 hat1
        have HP1 := h_ (HX1.out.push (p := ⟨2, 0, piece⟩) rfl hown1 hgrow1 (by simpa using hat1))
        have hzw1 := HP1.out.b.size
        clear hcv hown1 hgrow1 hat1 HX1 HS1
        have HX2 := h_ (HP1.out.later (bAlloc (Below.refl _ _) (.cells #[.int .i64 3, .int .i64 gone, .string ⟨#[]⟩] 73)))
        have HS2 := h_ (Sl.new (S := fun _ => True) w1 [.int .i64 3, .int .i64 gone, .string ⟨#[]⟩] 73 3 1 rfl trivial)
        have HO2 := h_ (show (w1.alloc (.cells #[.int .i64 3, .int .i64 gone, .string ⟨#[]⟩] 73)).ownsRow w.heap.size 73 3 (.slice A1 (out.length + 1) c1) (out.length + 1) (opCells (⟨2, 0, piece⟩ :: out).reverse) from HX2.out.o)
        go_wp2_with (at_builtin; refine j_ _ rfl _ _ 30 rfl w.heap.size 73 i0 (.agg #[.int .i64 0, .int .i64 0, .string ⟨#[]⟩]) 3 32 Tryz.underlying30 hi hz0 hz1 hz2 rfl (by decide) _ _ _ rfl HO2.out _ _ _ _ _ rfl HS2.out ?c1 ?c2 ?c3 ?c4 ?_)
        case c1 => simp [Value.oneCell']
        case c2 => unfold maxLen; omega
        case c3 => omega
        case c4 => simp; omega
        intro A2 c2 w2 hown2 hgrow2 hat2
        have HP2 := h_ (HX2.out.push (p := ⟨3, (gone : Int), ⟨#[]⟩⟩) rfl (by rw [List.reverse_cons]; exact hown2) hgrow2 (by simpa using hat2))
        have hzw2 := HP2.out.b.size
        clear hown2 hgrow2 hat2 HX2 HS2
        go_wp2_with fail
        go_roundw
        case rel => exact ⟨k + 1, (⟨3, (gone : Int), ⟨#[]⟩⟩ :: ⟨2, 0, piece⟩ :: out), [], 0, (kept + 1), A2, c2, none, 0, by omega, by go_num, (by first | rfl | go_num | simp), (by first | rfl | go_num | simp), (by first | rfl | simp), (by first | rfl | simp), HN, HP2.out.cut⟩
        case measure => simp [intOf] <;> omega
      · obtain rfl : gone = 0 := by omega
        rw [ch_] at HN
        have HX1 := h_ (hat0.out.later (bAlloc (Below.refl _ _) (.cells #[.int .i64 2, .int .i64 0, .string piece] 73)))
        have HS1 := h_ (Sl.new (S := fun _ => True) wr [.int .i64 2, .int .i64 0, .string piece] 73 3 1 rfl trivial)
        go_wp2_with (at_builtin; refine j_ _ rfl _ _ 30 rfl w.heap.size 73 i0 (.agg #[.int .i64 0, .int .i64 0, .string ⟨#[]⟩]) 3 32 Tryz.underlying30 hi hz0 hz1 hz2 rfl (by decide) _ _ _ rfl HX1.out.o _ _ _ _ _ rfl HS1.out ?c1 ?c2 ?c3 ?c4 ?_)
        case c1 => simp [Value.oneCell']
        case c2 => unfold maxLen; omega
        case c3 => omega
        case c4 => simp; omega
        intro A1 c1 w1 hown1 hgrow1 hat1
        have HP1 := h_ (HX1.out.push (p := ⟨2, 0, piece⟩) rfl hown1 hgrow1 (by simpa using hat1))
        have hzw1 := HP1.out.b.size
        clear hcv hown1 hgrow1 hat1 HX1 HS1
        go_wp2_with fail
        go_roundw
        case rel => exact ⟨k + 1, (⟨2, 0, piece⟩ :: out), [], 0, (kept + 1), A1, c1, none, 0, by omega, by go_num, (by first | rfl | go_num | simp), (by first | rfl | go_num | simp), (by first | rfl | simp), (by first | rfl | simp), HN, HP1.out.cut⟩
        case measure => simp [intOf] <;> omega
    · obtain rfl : text = [] := List.eq_nil_of_length_eq_zero (by omega)
      rw [dp_] at HN
      clear htx
      by_cases hgo : 0 < gone
      · rw [do_ hgo] at HN
        have HX1 := h_ (hat0.out.later (bAlloc (Below.refl _ _) (.cells #[.int .i64 3, .int .i64 gone, .string ⟨#[]⟩] 73)))
        have HS1 := h_ (Sl.new (S := fun _ => True) wr [.int .i64 3, .int .i64 gone, .string ⟨#[]⟩] 73 3 1 rfl trivial)
        go_wp2_with (at_builtin; refine j_ _ rfl _ _ 30 rfl w.heap.size 73 i0 (.agg #[.int .i64 0, .int .i64 0, .string ⟨#[]⟩]) 3 32 Tryz.underlying30 hi hz0 hz1 hz2 rfl (by decide) _ _ _ rfl HX1.out.o _ _ _ _ _ rfl HS1.out ?c1 ?c2 ?c3 ?c4 ?_)
        case c1 => simp [Value.oneCell']
        case c2 => unfold maxLen; omega
        case c3 => omega
        case c4 => simp; omega
        intro A1 c1 w1 hown1 hgrow1 hat1
        have HP1 := h_ (HX1.out.push (p := ⟨3, (gone : Int), ⟨#[]⟩⟩) rfl hown1 hgrow1 (by simpa using hat1))
        have hzw1 := HP1.out.b.size
        clear hown1 hgrow1 hat1 HX1 HS1
        go_wp2_with fail
        go_roundw
        case rel => exact ⟨k + 1, (⟨3, (gone : Int), ⟨#[]⟩⟩ :: out), [], 0, (kept + 1), A1, c1, At, ct, by omega, by go_num, (by first | rfl | go_num | simp), (by first | rfl | go_num | simp), (by first | rfl | simp), (by first | rfl | simp), HN, HP1⟩
        case measure => simp [intOf] <;> omega
      · obtain rfl : gone = 0 := by omega
        rw [ch_] at HN
        go_wp2_with fail
        go_roundw
        case rel => exact ⟨k + 1, out, [], 0, (kept + 1), Ao, co, At, ct, by omega, by go_num, (by first | rfl | go_num | simp), (by first | rfl | go_num | simp), (by first | rfl | simp), (by first | rfl | simp), HN, hat0⟩
        case measure => simp [intOf] <;> omega
  by_cases hle : k = l.length
  · subst hle
    have HN := h_ (hr_ l)
    have hM := fk_ l l.length (Nat.le_refl _)
    rw [← rx_] at HN
    rw [hgr.out] at hM HN
    dsimp only at hM HN
    clear hgr hlt
    by_cases htx : 0 < text.length
    · rw [ft_ htx] at HN
      have hcv := convSl (W := wr) (c := ct) (fg_ hat0.out.t)
      generalize hpi : runesBytes text = piece at hcv
      have HPI := h_ hpi
      clear hpi
      rw [HPI.out] at HN
      by_cases hgo : 0 < gone
      · rw [do_ hgo] at HN
        have HX1 := h_ (hat0.out.later (bAlloc (Below.refl _ _) (.cells #[.int .i64 2, .int .i64 0, .string piece] 73)))
        have HS1 := h_ (Sl.new (S := fun _ => True) wr [.int .i64 2, .int .i64 0, .string piece] 73 3 1 rfl trivial)
        go_wp2_with (at_builtin; refine j_ _ rfl _ _ 30 rfl w.heap.size 73 i0 (.agg #[.int .i64 0, .int .i64 0, .string ⟨#[]⟩]) 3 32 Tryz.underlying30 hi hz0 hz1 hz2 rfl (by decide) _ _ _ rfl HX1.out.o _ _ _ _ _ rfl HS1.out ?c1 ?c2 ?c3 ?c4 ?_)
        case c1 => simp [Value.oneCell']
        case c2 => unfold maxLen; omega
        case c3 => omega
        case c4 => simp; omega
        intro A1 c1 w1 hown1 hgrow1 hat1
        have HP1 := h_ (HX1.out.push (p := ⟨2, 0, piece⟩) rfl hown1 hgrow1 (by simpa using hat1))
        have hzw1 := HP1.out.b.size
        clear hcv hown1 hgrow1 hat1 HX1 HS1
        have HX2 := h_ (HP1.out.later (bAlloc (Below.refl _ _) (.cells #[.int .i64 3, .int .i64 gone, .string ⟨#[]⟩] 73)))
        have HS2 := h_ (Sl.new (S := fun _ => True) w1 [.int .i64 3, .int .i64 gone, .string ⟨#[]⟩] 73 3 1 rfl trivial)
        have HO2 := h_ (show (w1.alloc (.cells #[.int .i64 3, .int .i64 gone, .string ⟨#[]⟩] 73)).ownsRow w.heap.size 73 3 (.slice A1 (out.length + 1) c1) (out.length + 1) (opCells (⟨2, 0, piece⟩ :: out).reverse) from HX2.out.o)
        go_wp2_with (at_builtin; refine j_ _ rfl _ _ 30 rfl w.heap.size 73 i0 (.agg #[.int .i64 0, .int .i64 0, .string ⟨#[]⟩]) 3 32 Tryz.underlying30 hi hz0 hz1 hz2 rfl (by decide) _ _ _ rfl HO2.out _ _ _ _ _ rfl HS2.out ?c1 ?c2 ?c3 ?c4 ?_)
        case c1 => simp [Value.oneCell']
        case c2 => unfold maxLen; omega
        case c3 => omega
        case c4 => simp; omega
        intro A2 c2 w2 hown2 hgrow2 hat2
        have HP2 := h_ (HX2.out.push (p := ⟨3, (gone : Int), ⟨#[]⟩⟩) rfl (by rw [List.reverse_cons]; exact hown2) hgrow2 (by simpa using hat2))
        have hzw2 := HP2.out.b.size
        clear hown2 hgrow2 hat2 HX2 HS2
        go_wp2_with fail
        go_roundw
        case rel => exact ⟨l.length + 1, (⟨3, (gone : Int), ⟨#[]⟩⟩ :: ⟨2, 0, piece⟩ :: out), [], 0, kept, A2, c2, none, 0, by omega, by go_num, (by first | rfl | go_num | simp), (by first | rfl | go_num | simp), (by first | rfl | simp), (by first | rfl | simp), HN, HP2.out.cut⟩
        case measure => simp [intOf] <;> omega
      · obtain rfl : gone = 0 := by omega
        rw [ch_] at HN
        have HX1 := h_ (hat0.out.later (bAlloc (Below.refl _ _) (.cells #[.int .i64 2, .int .i64 0, .string piece] 73)))
        have HS1 := h_ (Sl.new (S := fun _ => True) wr [.int .i64 2, .int .i64 0, .string piece] 73 3 1 rfl trivial)
        go_wp2_with (at_builtin; refine j_ _ rfl _ _ 30 rfl w.heap.size 73 i0 (.agg #[.int .i64 0, .int .i64 0, .string ⟨#[]⟩]) 3 32 Tryz.underlying30 hi hz0 hz1 hz2 rfl (by decide) _ _ _ rfl HX1.out.o _ _ _ _ _ rfl HS1.out ?c1 ?c2 ?c3 ?c4 ?_)
        case c1 => simp [Value.oneCell']
        case c2 => unfold maxLen; omega
        case c3 => omega
        case c4 => simp; omega
        intro A1 c1 w1 hown1 hgrow1 hat1
        have HP1 := h_ (HX1.out.push (p := ⟨2, 0, piece⟩) rfl hown1 hgrow1 (by simpa using hat1))
        have hzw1 := HP1.out.b.size
        clear hcv hown1 hgrow1 hat1 HX1 HS1
        go_wp2_with fail
        go_roundw
        case rel => exact ⟨l.length + 1, (⟨2, 0, piece⟩ :: out), [], 0, kept, A1, c1, none, 0, by omega, by go_num, (by first | rfl | go_num | simp), (by first | rfl | go_num | simp), (by first | rfl | simp), (by first | rfl | simp), HN, HP1.out.cut⟩
        case measure => simp [intOf] <;> omega
    · obtain rfl : text = [] := List.eq_nil_of_length_eq_zero (by omega)
      rw [dp_] at HN
      clear htx
      by_cases hgo : 0 < gone
      · rw [do_ hgo] at HN
        have HX1 := h_ (hat0.out.later (bAlloc (Below.refl _ _) (.cells #[.int .i64 3, .int .i64 gone, .string ⟨#[]⟩] 73)))
        have HS1 := h_ (Sl.new (S := fun _ => True) wr [.int .i64 3, .int .i64 gone, .string ⟨#[]⟩] 73 3 1 rfl trivial)
        go_wp2_with (at_builtin; refine j_ _ rfl _ _ 30 rfl w.heap.size 73 i0 (.agg #[.int .i64 0, .int .i64 0, .string ⟨#[]⟩]) 3 32 Tryz.underlying30 hi hz0 hz1 hz2 rfl (by decide) _ _ _ rfl HX1.out.o _ _ _ _ _ rfl HS1.out ?c1 ?c2 ?c3 ?c4 ?_)
        case c1 => simp [Value.oneCell']
        case c2 => unfold maxLen; omega
        case c3 => omega
        case c4 => simp; omega
        intro A1 c1 w1 hown1 hgrow1 hat1
        have HP1 := h_ (HX1.out.push (p := ⟨3, (gone : Int), ⟨#[]⟩⟩) rfl hown1 hgrow1 (by simpa using hat1))
        have hzw1 := HP1.out.b.size
        clear hown1 hgrow1 hat1 HX1 HS1
        go_wp2_with fail
        go_roundw
        case rel => exact ⟨l.length + 1, (⟨3, (gone : Int), ⟨#[]⟩⟩ :: out), [], 0, kept, A1, c1, At, ct, by omega, by go_num, (by first | rfl | go_num | simp), (by first | rfl | go_num | simp), (by first | rfl | simp), (by first | rfl | simp), HN, HP1⟩
        case measure => simp [intOf] <;> omega
      · obtain rfl : gone = 0 := by omega
        rw [ch_] at HN
        go_wp2_with fail
        go_roundw
        case rel => exact ⟨l.length + 1, out, [], 0, kept, Ao, co, At, ct, by omega, by go_num, (by first | rfl | go_num | simp), (by first | rfl | go_num | simp), (by first | rfl | simp), (by first | rfl | simp), HN, hat0⟩
        case measure => simp [intOf] <;> omega
  · obtain rfl : k = l.length + 1 := by omega
    have HN := h_ (ry_ l)
    have hM := fk_ l l.length (Nat.le_refl _)
    have hF := lk_ (Gr.run l)
    rw [hgr.out] at HN
    dsimp only at HN
    have hol : out.length ≤ 2097152 := by
     have h1 := congrArg List.length HN.out
     have h2 := fu_ l
     have h3 : out.length ≤ (pK kept out).length := by unfold pK; split <;> simp
     omega
    clear hgr hlt hle hM hF
    by_cases hkp : 0 < kept
    · rw [ei_ hkp] at HN
      have HX1 := h_ (hat0.out.later (bAlloc (Below.refl _ _) (.cells #[.int .i64 1, .int .i64 kept, .string ⟨#[]⟩] 73)))
      have HS1 := h_ (Sl.new (S := fun _ => True) wr [.int .i64 1, .int .i64 kept, .string ⟨#[]⟩] 73 3 1 rfl trivial)
      go_wp2_with (at_builtin; refine j_ _ rfl _ _ 30 rfl w.heap.size 73 i0 (.agg #[.int .i64 0, .int .i64 0, .string ⟨#[]⟩]) 3 32 Tryz.underlying30 hi hz0 hz1 hz2 rfl (by decide) _ _ _ rfl HX1.out.o _ _ _ _ _ rfl HS1.out ?c1 ?c2 ?c3 ?c4 ?_)
      case c1 => simp [Value.oneCell']
      case c2 => unfold maxLen; omega
      case c3 => omega
      case c4 => simp; omega
      intro A1 c1 w1 hown1 hgrow1 hat1
      have HP1 := h_ (HX1.out.push (p := ⟨1, (kept : Int), ⟨#[]⟩⟩) rfl hown1 hgrow1 (by simpa using hat1))
      have hzw1 := HP1.out.b.size
      clear hown1 hgrow1 hat1 HX1 HS1
      go_wp2_with fail
      go_ret
      exact vn_ HP1.out HN.out
    · obtain rfl : kept = 0 := by omega
      rw [ci_] at HN
      go_wp2_with fail
      go_ret
      exact vn_ hat0.out HN.out
def invOut (s : ByteArray) (ps : List PartD) : List PartD := if applyErr s ps = 0 then grouped (invSteps (runesOf s) (stepsOf ps) 0) else []
theorem hh_ {s : ByteArray} {ps : List PartD} (h : applyErr s ps = 0) : textFault s = 0 ∧ opFault ps = 0 ∧ (lens ps).1 = (Lib.runeCount s : Int) := by
 unfold applyErr at h
 by_cases h1 : textFault s ≠ 0
 · rw [if_pos h1] at h
   exact absurd h h1
 rw [if_neg h1] at h
 by_cases h2 : opFault ps ≠ 0
 · rw [if_pos h2] at h
   exact absurd h h2
 rw [if_neg h2] at h
 by_cases h3 : (lens ps).1 ≠ (Lib.runeCount s : Int)
 · rw [if_pos h3] at h
   cases h
 · exact ⟨Classical.not_not.1 h1, Classical.not_not.1 h2, Classical.not_not.1 h3⟩
theorem uq_ (w : World) (s : ByteArray) (A : Option Addr) (c : Nat) (ps : List PartD) (hT : Tabs w) (hs : OpIn (· < w.heap.size) w A ps) (hm : ps.length ≤ 1048576) (ht : ∀ p ∈ ps, p.text.size ≤ 1048576) (hst : s.size ≤ 1048576) (he : applyErr s ps ≠ 0) :
 Calls Tryz.prog 45 #[.string s, .slice A ps.length c] w (RetOpE w [] (applyErr s ps)) := by
 have HC := h_ (me_ w s A c ps hT hs hm ht hst)
 unfold RetApply at HC
 have hd : (applyErr s ps != 0) = true := by simpa using he
 generalize applyErr s ps = x at *
 clear he hT hs hm ht hst
 go_enter Tryz.func45, Tryz.ntmps45
 go_wp2_with fail
 refine HC.out.mono ?_
 rintro e w1 ⟨rfl, hb1⟩
 go_wp2_with fail
 go_ret2
 exact ⟨none, 0, rfl, World.ownsRow_nil _ _ _ _, hb1⟩
theorem up_ (w : World) (s : ByteArray) (A : Option Addr) (c : Nat) (ps : List PartD) (hT : Tabs w) (hs : OpIn (· < w.heap.size) w A ps) (hm : ps.length ≤ 1048576) (ht : ∀ p ∈ ps, p.text.size ≤ 1048576) (hst : s.size ≤ 1048576)
 (ht0 : textFault s = 0) (hf0 : opFault ps = 0) (hln : (lens ps).1 = (Lib.runeCount s : Int)) :
 Calls Tryz.prog 45 #[.string s, .slice A ps.length c] w (RetOpE w (grouped (invSteps (runesOf s) (stepsOf ps) 0)) 0) := by
 have HC := h_ (me_ w s A c ps hT hs hm ht hst)
 unfold RetApply at HC
 rw [(eo_ ht0 hf0 hln).1] at HC
 obtain ⟨h8, hok, _, _⟩ := bx_ hf0
 obtain ⟨e1, e2, n1, n2⟩ := ff_ hf0
 have hrl := ba_ s
 have hfr : 0 + fromN (ps.drop 0) = (runesOf s).length := by rw [List.drop_zero]; omega
 have HRA := h_ (hb_ s hst)
 have HTOT := h_ (show [] ++ invSteps (runesOf s) (stepsOf (ps.drop 0)) 0 = invSteps (runesOf s) (stepsOf ps) 0 by simp)
 have HLN := h_ (ef_ (runesOf s) (stepsOf ps) 0)
 have HSL := h_ (cq_ hok)
 have HOK := h_ (jh_ hok)
 have HTX := h_ ht
 have HF0 := h_ hfr
 generalize hTT : invSteps (runesOf s) (stepsOf ps) 0 = T at *
 generalize runesOf s = r at *
 have hr4 : r.length ≤ 4000 := by omega
 clear ht0 hf0 hln hok ht e1 e2 hfr hTT hrl hT
 go_enter Tryz.func45, Tryz.ntmps45
 go_wp2_with fail
 refine HC.out.mono ?_
 rintro e w1 ⟨rfl, hb1⟩
 have HS1 := h_ (Sl.later hs hb1)
 obtain ⟨W2, c2, hcv, hb2, hra2, hc2⟩ := HRA.out w1
 have HRA2 := h_ hra2
 have HB2 := h_ (bThen hb1 hb2)
 have HS2 := h_ (Sl.later HS1.out hb2)
 clear hb1 hb2 hra2 HC HRA HS1 hs
 have hg2 := HRA2.out.lt
 generalize hG : w1.heap.size = g at *
 clear hG
 go_wp2_with fail
 go_loopw [10, 28] (fun at_ i wr => ∃ (k a : Nat) (rs : List PartD) (out : List (Int × Int)) (Ab : Option Addr) (cb : Nat), k ≤ ps.length ∧ i = .int .i64 k ∧ at_ = .int .i64 a ∧ Hid (Bld wr W2.heap.size W2.heap.size Ab cb rs) ∧ Hid (Holds rs out) ∧ Hid (a + fromN (ps.drop k) = r.length) ∧ Hid (out ++ invSteps r (stepsOf (ps.drop k)) a = T) ∧ RunesAt wr g r ∧ Below W2.heap.size W2 wr)
  (fun _ i _ => ps.length - (intOf i).toNat)
 case atStart => exact ⟨0, 0, [], [], none, 0, Nat.zero_le _, rfl, rfl, Bld.new W2, vq_, HF0, HTOT, HRA2.out.alloc _, bA_⟩
 case round =>
  obtain ⟨k, a, rs, out, Ab, cb, hk, rfl, rfl, hbl, hho, hfr, hout, hra, hbw⟩ := hrel
  have hsz := hbw.size
  have hfr := hfr.out
  have hol : out.length ≤ 8000 := by
   have := congrArg List.length hout.out
   rw [List.length_append] at this
   have := HLN.out
   have := HSL.out
   omega
  have hBl := hbl.out.lt
  by_cases hlt : k < ps.length
  · obtain ⟨b, o, rfl, hbs, g0, g1, g2⟩ := OpIn.at_ (ps := ps) (Sl.later HS2.out hbw) hlt
    have htx := HTX.out _ (List.getElem_mem hlt)
    have hpf := HOK.out _ (List.getElem_mem hlt)
    have HD := h_ (List.drop_eq_getElem_cons hlt)
    have HOU := h_ (show out ++ invSteps r (stepsOf (ps[k] :: ps.drop (k + 1))) a = T by rw [← HD.out]; exact hout.out)
    rw [HD.out] at hfr
    clear hout
    generalize ps[k] = p at *
    obtain ⟨kd, pn, tx⟩ := p
    dsimp only at *
    obtain ⟨WA, hWA⟩ : ∃ WA, WA = wr.alloc (.cells #[.int .i64 kd, .int .i64 pn, .string tx] 73) := ⟨_, rfl⟩
    have hba : Below wr.heap.size wr WA := by rw [hWA]; exact bA_
    have hWc : WA.heap[wr.heap.size]? = some (.cells #[.int .i64 kd, .int .i64 pn, .string tx] 73 (0, 0)) := by rw [hWA]; exact heap_alloc_new _ _
    have HBA := h_ (hbl.out.later hba)
    have HRW := h_ (fun x hx => (hbl.out.lay x hx).2)
    have HRA3 := h_ (hra.below hba hra.lt)
    have HBL := h_ (bThen hbw hba)
    have HWC := h_ hWc
    have hne : wr.heap.size ≠ W2.heap.size := by omega
    have hWz : wr.heap.size < WA.heap.size := (Array.getElem?_eq_some_iff.1 hWc).1
    have HLEN := h_ hho.out.len
    have HTEX := h_ hho.out.text
    clear hWc hba hbl
    by_cases hk1 : kd = 1
    · subst hk1
      obtain ⟨_, hp1, hp2, _⟩ := bw_ hpf (by simp)
      dsimp only at hp1 hp2
      obtain ⟨n, rfl⟩ : ∃ n : Nat, pn = n := ⟨pn.toNat, by omega⟩
      rw [fw_ (by decide), Int.toNat_natCast] at hfr
      have HFR := h_ (show a + n + fromN (ps.drop (k + 1)) = r.length by omega)
      have ha : a + n ≤ r.length := by omega
      clear hfr
      have HE := h_ (show (out ++ othS 1 n) ++ invSteps r (stepsOf (ps.drop (k + 1))) (a + n) = T by
       have := HOU.out
       rw [cj_, show partSteps ⟨1, (n : Int), tx⟩ = othS 1 n from ev_ (by simp), qj_] at this
       rw [List.append_assoc]
       exact this)
      have HH := h_ (hho.out.keep n (by omega) (by omega))
      clear hho HOU HD hp1
      go_wp2_with fail
      rw [← hWA]
      refine (zu_ WA _ _ Ab cb n rs HBA.out (by have := HLEN.out; omega)).mono ?_
      rintro e w4 ⟨rfl, hto⟩
      have hc4 := (hto.stays hWz hne (fun e => by have := HRW.out _ e; omega)).trans HWC.out
      obtain ⟨_, x1, _, _, _, _, _⟩ := b_ hc4
      obtain ⟨A4, c4, hbl4, hb4⟩ := BldTo.go HBA.out hto
      have HB4 := h_ hbl4
      have HBW := h_ (bOver HBL.out hb4)
      clear hto hc4 hbl4 hne hWz hWA
      go_wp2_with fail
      go_roundw
      case rel => exact ⟨k + 1, a + n, _, _, A4, c4, by omega, by go_num, by go_num, HB4, HH, HFR, HE, HRA3.out.below hb4 hg2, HBW.out⟩
      case measure => simp [intOf]; omega
    have e1 : (kd == 1) = false := by simpa using hk1
    by_cases hk2 : kd = 2
    · subst hk2
      have hrl := ba_ tx
      have hps := (go_ hpf).1
      have hpb := (go_ hpf).2
      rw [show partSteps ⟨2, pn, tx⟩ = insS (runesOf tx) from eu_ rfl] at hps hpb
      simp only [insS, List.length_map] at hps hpb
      have HFR := h_ (show a + fromN (ps.drop (k + 1)) = r.length by
       have : fromN (⟨2, pn, tx⟩ :: ps.drop (k + 1)) = 0 + fromN (ps.drop (k + 1)) := rfl
       omega)
      have ha : a ≤ r.length := by omega
      clear hfr
      have HE := h_ (show (out ++ othS 3 (Lib.runeCount tx)) ++ invSteps r (stepsOf (ps.drop (k + 1))) a = T by
       have := HOU.out
       rw [cj_, show partSteps ⟨2, pn, tx⟩ = insS (runesOf tx) from eu_ rfl, sn_, hrl] at this
       rw [List.append_assoc]
       exact this)
      rw [hrl] at hps hpb
      have HH := h_ (hho.out.del (Lib.runeCount tx) hps (by omega))
      clear hho HOU HD hrl hpf
      go_wp2_with fail
      rw [← hWA]
      refine (cg_ tx WA htx).mono ?_
      rintro e w3 ⟨rfl, hb3⟩
      have HB3 := h_ (HBA.out.later hb3)
      have HBL3 := h_ (bThen HBL.out hb3)
      have HRA4 := h_ (HRA3.out.below hb3 HRA3.out.lt)
      clear hb3
      go_wp2_with fail
      refine (qy_ w3 _ _ Ab cb (Lib.runeCount tx) rs HB3.out (by have := HLEN.out; omega)).mono ?_
      rintro e w4 ⟨rfl, hto⟩
      obtain ⟨A4, c4, hbl4, hb4⟩ := BldTo.go HB3.out hto
      have HB4 := h_ hbl4
      have HBW := h_ (bOver HBL3.out hb4)
      clear hto hbl4 hne hWz hWA
      go_wp2_with fail
      go_roundw
      case rel => exact ⟨k + 1, a, _, _, A4, c4, by omega, by go_num, rfl, HB4, HH, HFR, HE, HRA4.out.below hb4 hg2, HBW.out⟩
      case measure => simp [intOf]; omega
    · have e2 : (kd == 2) = false := by simpa using hk2
      obtain ⟨hk13, hp1, hp2, _⟩ := bw_ hpf hk2
      dsimp only at hk13 hp1 hp2
      obtain rfl : kd = 3 := by omega
      obtain ⟨n, rfl⟩ : ∃ n : Nat, pn = n := ⟨pn.toNat, by omega⟩
      rw [fw_ (by decide), Int.toNat_natCast] at hfr
      have HFR := h_ (show a + n + fromN (ps.drop (k + 1)) = r.length by omega)
      have ha : a + n ≤ r.length := by omega
      clear hfr
      have hX : (r.drop a).take n ≠ [] := by
       intro e
       have := congrArg List.length e
       rw [List.length_take, List.length_drop] at this
       simp at this
       omega
      have hXl : ((r.drop a).take n).length ≤ 4000 := by
       rw [List.length_take, List.length_drop]
       omega
      have hps := (ew_ ((r.drop a).take n)).2
      have HE := h_ (show (out ++ insS ((r.drop a).take n)) ++ invSteps r (stepsOf (ps.drop (k + 1))) (a + n) = T by
       have := HOU.out
       rw [cj_, show partSteps ⟨3, (n : Int), tx⟩ = othS 3 n from ev_ (by simp), sm_ _ _ _ _ (by omega)] at this
       rw [List.append_assoc]
       exact this)
      have HH := h_ (hho.out.ins ((r.drop a).take n) hX)
      have hpc := convPiece (W := wr.alloc (.cells #[.int .i64 3, .int .i64 n, .string tx] 73)) (by rw [← hWA]; exact HRA3.out) a n (c2 - a) (by omega)
      generalize hpi : runesBytes ((r.drop a).take n) = piece at *
      have hn1 : (1 : Int) ≤ n := by omega
      have hne2 : ¬ c2 = a := by omega
      clear hk13 hk1 hk2 hp1 hX hpi hho HOU HD hpf
      go_wp2_with fail
      rw [← hWA]
      refine (ya_ WA _ _ Ab cb piece rs HBA.out (by omega) (by have := HLEN.out; omega) (fun p hp => by have := HTEX.out p hp; omega)).mono ?_
      rintro e w4 ⟨rfl, hto⟩
      have hc4 := (hto.stays hWz hne (fun e => by have := HRW.out _ e; omega)).trans HWC.out
      obtain ⟨_, x1, _, _, _, _, _⟩ := b_ hc4
      obtain ⟨A4, c4, hbl4, hb4⟩ := BldTo.go HBA.out hto
      have HB4 := h_ hbl4
      have HBW := h_ (bOver HBL.out hb4)
      clear hto hc4 hbl4 hne hWz hWA
      go_wp2_with fail
      go_roundw
      case rel => exact ⟨k + 1, a + n, _, _, A4, c4, by omega, by go_num, by go_num, HB4, HH, HFR, HE, HRA3.out.below hb4 hg2, HBW.out⟩
      case measure => simp [intOf]; omega
  · obtain rfl : k = ps.length := by omega
    have HO := h_ (show out = T by have := hout.out; rw [List.drop_length] at this; simpa [stepsOf, invSteps] using this)
    have hcl := hbl.out.cell
    clear hout hfr
    go_wp2_with fail
    go_ret2
    have hrv := hho.out.rev
    rw [HO.out] at hrv
    have h9 := hbl.out.out (base' := w.heap.size) (by have := HB2.out.size; omega)
    rw [hrv] at h9
    exact ⟨Ab, cb, (by rw [← hrv, List.length_reverse]; rfl), h9, bThen HB2.out hbw⟩
theorem kf_ (w : World) (s : ByteArray) (A : Option Addr) (c : Nat) (ps : List PartD) (hT : Tabs w) (hs : OpIn (· < w.heap.size) w A ps) (hm : ps.length ≤ 1048576) (ht : ∀ p ∈ ps, p.text.size ≤ 1048576) (hst : s.size ≤ 1048576) :
 Calls Tryz.prog 45 #[.string s, .slice A ps.length c] w (RetOpE w (invOut s ps) (applyErr s ps)) := by
 by_cases he : applyErr s ps = 0
 · unfold invOut
   rw [if_pos he, he]
   obtain ⟨h1, h2, h3⟩ := hh_ he
   exact up_ w s A c ps hT hs hm ht hst h1 h2 h3
 · unfold invOut
   rw [if_neg he]
   exact uq_ w s A c ps hT hs hm ht hst he
theorem rn_ (w : World) (s : ByteArray) (A : Option Addr) (c : Nat) (ps : List PartD) (hT : Tabs w) (hs : OpIn (· < w.heap.size) w A ps) (hm : ps.length ≤ 1048576) (ht : ∀ p ∈ ps, p.text.size ≤ 1048576) (hst : s.size ≤ 1048576) (he : applyErr s ps ≠ 0) :
 Calls Tryz.prog 63 #[.string s, .slice A ps.length c] w (RetOpE w [] (applyErr s ps)) := by
 have HC := h_ (hl_ w s A c ps hT hs hm ht hst)
 unfold RetApply at HC
 have hd : (applyErr s ps != 0) = true := by simpa using he
 generalize applyErr s ps = x at *
 clear he hT hs hm ht hst
 go_enter Tryz.func63, Tryz.ntmps63
 go_wp2_with fail
 refine HC.out.mono ?_
 rintro e w1 ⟨rfl, hb1⟩
 go_wp2_with fail
 go_ret2
 exact ⟨none, 0, rfl, World.ownsRow_nil _ _ _ _, hb1⟩
theorem vr_ {r : List Int} {x : Int} {l : List (Int × Int)} {a : Nat} : invSteps r ((2, x) :: l) a = (3, 0) :: invSteps r l a := rfl
theorem vs_ {r : List Int} {x : Int} {l : List (Int × Int)} {a : Nat} : invSteps r ((3, x) :: l) a = (2, r.getD a 0) :: invSteps r l (a + 1) := rfl
theorem vt_ {r : List Int} {k x : Int} {l : List (Int × Int)} {a : Nat} (h2 : k ≠ 2) (h3 : k ≠ 3) : invSteps r ((k, x) :: l) a = (k, x) :: invSteps r l (a + 1) := by
 rw [cw_, if_neg h2, if_neg h3]
theorem rm_ (w : World) (s : ByteArray) (A : Option Addr) (c : Nat) (ps : List PartD) (hT : Tabs w) (hs : OpIn (· < w.heap.size) w A ps) (hm : ps.length ≤ 1048576) (ht : ∀ p ∈ ps, p.text.size ≤ 1048576) (hst : s.size ≤ 1048576)
 (ht0 : textFault s = 0) (hf0 : opFault ps = 0) (hln : (lens ps).1 = (Lib.runeCount s : Int)) :
 Calls Tryz.prog 63 #[.string s, .slice A ps.length c] w (RetOpE w (grouped (invSteps (runesOf s) (stepsOf ps) 0)) 0) := by
 obtain ⟨i0, hi, hz0, hz1, hz2⟩ := info_parts infoStep
 have HC := h_ (hl_ w s A c ps hT hs hm ht hst)
 unfold RetApply at HC
 rw [(eo_ ht0 hf0 hln).1] at HC
 obtain ⟨h8, hok, _, _⟩ := bx_ hf0
 obtain ⟨e1, e2, n1, n2⟩ := ff_ hf0
 have hrl := ba_ s
 have hfr : 0 + fromS ((stepsOf ps).drop 0) = (runesOf s).length := by rw [List.drop_zero, gj_]; omega
 have hsl := cq_ hok
 have HC4 := h_ (fun W hs => mw_ W A c ps hs hm ht (by omega))
 have HRA := h_ (hb_ s hst)
 have HTOT := h_ (show [] ++ invSteps (runesOf s) ((stepsOf ps).drop 0) 0 = invSteps (runesOf s) (stepsOf ps) 0 by simp)
 have HLN := h_ (ef_ (runesOf s) (stepsOf ps) 0)
 have HF0 := h_ hfr
 generalize hTT : invSteps (runesOf s) (stepsOf ps) 0 = T at *
 generalize runesOf s = r at *
 generalize stepsOf ps = l at *
 have hr4 : r.length ≤ 4000 := by omega
 have hl8 : l.length ≤ 8000 := by omega
 have HG := h_ (fun (W : World) A' c' (h : StepsIn (· < W.heap.size) W A' T) => vo_ W A' c' T h (by have := HLN.out; omega))
 clear ht0 hf0 hln hok ht e1 e2 hfr hTT hrl hsl hT
 go_enter Tryz.func63, Tryz.ntmps63
 go_wp2_with fail
 refine HC.out.mono ?_
 rintro e w1 ⟨rfl, hb1⟩
 have HS1 := h_ (Sl.later hs hb1)
 obtain ⟨W2, c2, hcv, hb2, hra2, hc2⟩ := HRA.out w1
 have HRA2 := h_ hra2
 have HB2 := h_ (bThen hb1 hb2)
 have HS2 := h_ (Sl.later HS1.out hb2)
 clear hb1 hb2 hra2 HC HRA HS1 hs
 go_wp2_with fail
 refine (HC4.out _ HS2.out).mono ?_
 rintro e w6 ⟨A6, c6, rfl, hown6, hb6⟩
 have HB6 := h_ (bThen HB2.out hb6)
 have HRA6 := HRA2.out.below hb6 HRA2.out.lt
 have HST := h_ (fg_ hown6)
 have hg6 := HRA6.lt
 have hz6 := HB6.out.size
 clear hb6 hown6 hcv HRA2 HC4 HS2 HB2
 generalize hG : w1.heap.size = g at *
 clear hG
 go_wp2_with fail
 go_loopw [10, 11, 12] (fun o_ at_ i wr => ∃ (k a : Nat) (out : List (Int × Int)) (Ao : Option Addr) (co : Nat), k ≤ l.length ∧ i = .int .i64 k ∧ at_ = .int .i64 a ∧ o_ = .slice Ao out.length co ∧ Hid (out.length = k) ∧ Hid (a + fromS (l.drop k) = r.length) ∧ Hid (out ++ invSteps r (l.drop k) a = T) ∧ wr.ownsRow w6.heap.size 161 2 (.slice Ao out.length co) out.length (stepCells out) ∧ Below w6.heap.size w6 wr)
  (fun _ _ i _ => l.length - (intOf i).toNat)
 case atStart => exact ⟨0, 0, [], none, 0, Nat.zero_le _, rfl, rfl, rfl, rfl, HF0, HTOT, World.ownsRow_nil _ _ _ _, Below.refl _ _⟩
 case round =>
  obtain ⟨k, a, out, Ao, co, hk, rfl, rfl, rfl, hol', hfr, hout, hown, hbw⟩ := hrel
  have hsz := hbw.size
  have hol : out.length ≤ 8000 := by have := hol'.out; omega
  by_cases hlt : k < l.length
  · obtain ⟨b, o, rfl, hbs', g0, g1⟩ := StepsIn.at_ (Sl.later HST.out hbw) hlt
    have HD := h_ (List.drop_eq_getElem_cons hlt)
    have HOU := h_ (show out ++ invSteps r (l[k] :: l.drop (k + 1)) a = T by rw [← HD.out]; exact hout.out)
    have hfr2 := hfr.out
    rw [HD.out] at hfr2
    have HFR := h_ hfr2
    clear hout hfr2 hfr
    generalize l[k] = x at *
    obtain ⟨kd, rr⟩ := x
    dsimp only at *
    by_cases hk2 : kd = 2
    · subst hk2
      have HF2 := h_ (show a + fromS (l.drop (k + 1)) = r.length by have := HFR.out; rw [jb_] at this; omega)
      have HE := h_ (show (out ++ [(3, 0)]) ++ invSteps r (l.drop (k + 1)) a = T by rw [← HOU.out, vr_]; simp)
      have HOL := h_ (show (out ++ [((3 : Int), (0 : Int))]).length = k + 1 by have := hol'.out; simp; omega)
      have HX := h_ (hown.alloc (.cells #[.int .i64 3, .int .i32 0] 161))
      have HS := h_ (Sl.new (S := fun _ => True) wr [.int .i64 3, .int .i32 0] 161 2 1 rfl trivial)
      clear hol' HFR HOU HD
      go_wp2_with (at_builtin; refine j_ _ rfl _ _ 158 rfl w6.heap.size 161 i0 (.agg #[.int .i64 0, .int .i32 0]) 2 16 Tryz.underlying158 hi hz0 hz1 hz2 rfl (by decide) _ _ _ rfl HX.out _ _ _ _ _ rfl HS.out ?c1 ?c2 ?c3 ?c4 ?_)
      case c1 => exact he_ (3, 0)
      case c2 => unfold maxLen; omega
      case c3 => omega
      case c4 => simp; omega
      intro A' c' w7 hown' hgrow hat
      go_wp2_with fail
      go_roundw
      case rel => exact ⟨k + 1, a, out ++ [(3, 0)], A', c', by omega, by go_num, rfl, by simp, HOL, HF2, HE, by simpa [stepCells] using hown', (bAlloc hbw _).grown hgrow (by simp; omega) (fun g hg => (hown.lt g hg).1)⟩
      case measure => simp [intOf]; omega
    have e2 : (kd == 2) = false := by simpa using hk2
    have HF2 := h_ (show a + 1 + fromS (l.drop (k + 1)) = r.length by have := HFR.out; rw [jc_ hk2] at this; omega)
    have ha : a < r.length := by have := HF2.out; omega
    by_cases hk3 : kd = 3
    · subst hk3
      have hcell := (hbw.cell (p := ⟨g, 0 + a, none⟩) hg6).trans (HRA6.cells a _ (ej_ r a ha))
      rw [Nat.zero_add] at hcell
      have HE := h_ (show (out ++ [(2, r.getD a 0)]) ++ invSteps r (l.drop (k + 1)) (a + 1) = T by rw [← HOU.out, vs_]; simp)
      generalize r.getD a 0 = rv at *
      have HOL := h_ (show (out ++ [((2 : Int), rv)]).length = k + 1 by have := hol'.out; simp; omega)
      have HX := h_ (hown.alloc (.cells #[.int .i64 2, .int .i32 rv] 161))
      have HS := h_ (Sl.new (S := fun _ => True) wr [.int .i64 2, .int .i32 rv] 161 2 1 rfl trivial)
      clear hol' HFR HOU HD hk2
      go_wp2_with (at_builtin; refine j_ _ rfl _ _ 158 rfl w6.heap.size 161 i0 (.agg #[.int .i64 0, .int .i32 0]) 2 16 Tryz.underlying158 hi hz0 hz1 hz2 rfl (by decide) _ _ _ rfl HX.out _ _ _ _ _ rfl HS.out ?d1 ?d2 ?d3 ?d4 ?_)
      case d1 => exact he_ (2, rv)
      case d2 => unfold maxLen; omega
      case d3 => omega
      case d4 => simp; omega
      intro A' c' w7 hown' hgrow hat
      go_wp2_with fail
      go_roundw
      case rel => exact ⟨k + 1, a + 1, out ++ [(2, rv)], A', c', by omega, by go_num, by go_num, by simp, HOL, HF2, HE, by simpa [stepCells] using hown', (bAlloc hbw _).grown hgrow (by simp; omega) (fun g hg => (hown.lt g hg).1)⟩
      case measure => simp [intOf]; omega
    · have e3 : (kd == 3) = false := by simpa using hk3
      have HE := h_ (show (out ++ [(kd, rr)]) ++ invSteps r (l.drop (k + 1)) (a + 1) = T by rw [← HOU.out, vt_ hk2 hk3]; simp)
      have HOL := h_ (show (out ++ [(kd, rr)]).length = k + 1 by have := hol'.out; simp; omega)
      have HX := h_ (hown.alloc (.cells #[.int .i64 kd, .int .i32 rr] 161))
      have HS := h_ (Sl.new (S := fun _ => True) wr [.int .i64 kd, .int .i32 rr] 161 2 1 rfl trivial)
      clear hol' HFR HOU HD hk2 hk3
      go_wp2_with (at_builtin; refine j_ _ rfl _ _ 158 rfl w6.heap.size 161 i0 (.agg #[.int .i64 0, .int .i32 0]) 2 16 Tryz.underlying158 hi hz0 hz1 hz2 rfl (by decide) _ _ _ rfl HX.out _ _ _ _ _ rfl HS.out ?f1 ?f2 ?f3 ?f4 ?_)
      case f1 => exact he_ (kd, rr)
      case f2 => unfold maxLen; omega
      case f3 => omega
      case f4 => simp; omega
      intro A' c' w7 hown' hgrow hat
      go_wp2_with fail
      go_roundw
      case rel => exact ⟨k + 1, a + 1, out ++ [(kd, rr)], A', c', by omega, by go_num, by go_num, by simp, HOL, HF2, HE, by simpa [stepCells] using hown', (bAlloc hbw _).grown hgrow (by simp; omega) (fun g hg => (hown.lt g hg).1)⟩
      case measure => simp [intOf]; omega
  · obtain rfl : k = l.length := by omega
    have hO : out = T := by have := hout.out; rw [List.drop_length] at this; simpa [invSteps] using this
    clear hout hol' hfr hol HTOT
    subst hO
    go_wp2_with fail
    refine (HG.out wr Ao co (fg_ hown)).mono ?_
    rintro e w8 ⟨A8, c8, rfl, ho8, hb8⟩
    have HO8 := h_ ho8
    clear ho8
    go_wp2_with fail
    go_ret2
    refine ⟨A8, c8, rfl, ?_, bThen (bThen HB6.out hbw) hb8⟩
    exact ⟨HO8.out.1, HO8.out.2.imp id fun ⟨g, cap, cur, q1, q2, q3⟩ => ⟨g, cap, cur, q1, by have := HB6.out.size; omega, q3⟩⟩
theorem ey_ (w : World) (s : ByteArray) (A : Option Addr) (c : Nat) (ps : List PartD) (hT : Tabs w) (hs : OpIn (· < w.heap.size) w A ps) (hm : ps.length ≤ 1048576) (ht : ∀ p ∈ ps, p.text.size ≤ 1048576) (hst : s.size ≤ 1048576) :
 Calls Tryz.prog 63 #[.string s, .slice A ps.length c] w (RetOpE w (invOut s ps) (applyErr s ps)) := by
 by_cases he : applyErr s ps = 0
 · unfold invOut
   rw [if_pos he, he]
   obtain ⟨h1, h2, h3⟩ := hh_ he
   exact rm_ w s A c ps hT hs hm ht hst h1 h2 h3
 · unfold invOut
   rw [if_neg he]
   exact rn_ w s A c ps hT hs hm ht hst he
end Go.Proofs.YtacacoklddogmaaGreatDoor
