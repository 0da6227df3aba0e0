/-
  Contract of the reference's steps: one step for each rune.
-/
import Derived.Test.YtbmdepbmejnlkaaDoorRows
import Derived.Test.YtbmdepbmejnlkaaDoorLens
import Derived.Test.YtbmdepbmejnlkaaDoorMoveP
namespace Go.Proofs.YtbmdepbmejnlkaaDoor
open Go.ChangeShapes Go.WideShapes Go.ChangeAt Go.RowKit
set_option maxRecDepth 100000
theorem infoStep : (Tryd.prog.info? 138).map (fun i => (i.zero, i.size, i.bytes)) = some (some (.agg #[.int .i64 0, .int .i32 0]), 2, 16) := by kernel_rfl
def stepCells (l : List (Int × Int)) : List Value := l.flatMap fun x => [.int .i64 x.1, .int .i32 x.2]
theorem stepCells_append (a b : List (Int × Int)) : stepCells (a ++ b) = stepCells a ++ stepCells b := by simp [stepCells]
theorem stepCells_length (l : List (Int × Int)) : (stepCells l).length = l.length * 2 := by
  induction l with
  | nil => rfl
  | cons x l ih =>
    simp only [stepCells, List.flatMap_cons, List.length_append, List.length_cons, List.length_nil] at ih ⊢
    rw [ih]
    omega
theorem stepCells_get (l : List (Int × Int)) : ∀ (k j : Nat) (hk : k < l.length) (_ : j < 2), (stepCells l)[k * 2 + j]? = [Value.int .i64 l[k].1, Value.int .i32 l[k].2][j]? := by
  induction l with
  | nil => intro k j hk; exact absurd hk (by simp)
  | cons p l ih =>
    intro k j hk hj
    show ([Value.int .i64 p.1, Value.int .i32 p.2] ++ stepCells l)[k * 2 + j]? = _
    cases k with
    | zero =>
      rw [List.getElem?_append_left (by simp; omega)]
      simp
    | succ k =>
      rw [List.getElem?_append_right (by simp; omega)]
      rw [show (k + 1) * 2 + j - [Value.int .i64 p.1, Value.int .i32 p.2].length = k * 2 + j by simp; omega, ih k j (by simpa using hk) hj]
      rfl
/-- A slice that reads as these steps. -/
abbrev StepsIn (S : Nat → Prop) (w : World) (A : Option Addr) (l : List (Int × Int)) : Prop := Sl S w 2 A l.length (stepCells l)
theorem StepsIn.at_ {S : Nat → Prop} {w : World} {A : Option Addr} {l : List (Int × Int)} (h : StepsIn S w A l) {k : Nat} (hk : k < l.length) :
    ∃ b o, A = some ⟨b, o, none⟩ ∧ S b ∧ w.cell? ⟨b, o + k * 2, none⟩ = some (.int .i64 l[k].1) ∧ w.cell? ⟨b, o + k * 2 + 1, none⟩ = some (.int .i32 l[k].2) := by
  obtain ⟨b, o, e, hb, hc⟩ := h.2 (by omega)
  refine ⟨b, o, e, hb, ?_, ?_⟩
  · exact hc (k * 2) _ (by rw [show k * 2 = k * 2 + 0 from rfl, stepCells_get l k 0 hk (by omega)]; rfl)
  · exact hc (k * 2 + 1) _ (by rw [stepCells_get l k 1 hk (by omega)]; rfl)
theorem stepsOf_take (ps : List PartD) (k : Nat) (hk : k < ps.length) : stepsOf (ps.take (k + 1)) = stepsOf (ps.take k) ++ partSteps ps[k] := by
  unfold stepsOf
  rw [List.take_succ_eq_append_getElem hk, List.flatMap_append]
  simp
theorem stepsOf_le (ps : List PartD) (k : Nat) : (stepsOf (ps.take k)).length ≤ (stepsOf ps).length := by
  have h : stepsOf ps = stepsOf (ps.take k) ++ stepsOf (ps.drop k) := by
    unfold stepsOf
    rw [← List.flatMap_append, List.take_append_drop]
  rw [h]
  simp
/-- A call that hands back these steps in memory of its own. -/
def RetSteps (w : World) (l : List (Int × Int)) (e : Ending) (w' : World) : Prop :=
  ∃ A c, e = .returned (.slice A l.length c) ∧ w'.ownsRow w.heap.size 138 2 (.slice A l.length c) l.length (stepCells l) ∧ Below w.heap.size w w'
theorem step_one (x : Int × Int) : ∀ u ∈ [Value.int .i64 x.1, Value.int .i32 x.2], u.oneCell' = true := by
  intro u hu
  simp only [List.mem_cons, List.not_mem_nil, or_false] at hu
  rcases hu with rfl | rfl <;> rfl
/-- The runes of a part lie in block g. -/
structure RunesAt (w : World) (g : Nat) (rs : List Int) : Prop where
  lt : g < w.heap.size
  cells : ∀ j u, (rs.map (Value.int .i32))[j]? = some u → w.cell? ⟨g, 0 + j, none⟩ = some u
theorem RunesAt.grown {w w' : World} {g : Nat} {rs : List Int} {row : Option Nat} (h : RunesAt w g rs) (hg : w.grownBy w' row) (hr : row ≠ some g) : RunesAt w' g rs :=
  ⟨Nat.lt_of_lt_of_le h.lt hg.size, fun j u hu => (World.cell?_of_block (w := w) (a := ⟨g, 0 + j, none⟩) (hg.block g h.lt (fun e => hr e.symm))).trans (h.cells j u hu)⟩
theorem RunesAt.alloc {w : World} {g : Nat} {rs : List Int} (h : RunesAt w g rs) (o : Obj) : RunesAt (w.alloc o) g rs :=
  ⟨by simp; have := h.lt; omega, fun j u hu => (World.cell?_of_block (w := w) (a := ⟨g, 0 + j, none⟩) (((Below.refl w.heap.size w).alloc (Nat.le_refl _) o).block g h.lt)).trans (h.cells j u hu)⟩
theorem RunesAt.new (w : World) (s : ByteArray) (n : Nat) (t : TypeId) : RunesAt (w.alloc (.cells (Conv.runesFrom s s.size 0 #[] ++ Array.replicate n (.int .i32 0)) t)) w.heap.size (runesOf s) := by
  refine ⟨by simp, fun j u hu => ?_⟩
  rw [World.cell?_alloc_new, conv_runes]
  have hj := (List.getElem?_eq_some_iff.1 hu).1
  rw [Nat.zero_add, Array.getElem?_append_left (by simpa using hj)]
  simpa using hu
theorem RunesAt.drew {w : World} {g : Nat} {rs : List Int} (h : RunesAt w g rs) : RunesAt w.drew g rs := ⟨h.lt, h.cells⟩
theorem runes_getD (rs : List Int) (k : Nat) (hk : k < rs.length) : (rs.map (Value.int .i32))[k]? = some (.int .i32 (rs.getD k 0)) := by
  simp [List.getElem?_eq_getElem hk, List.getD_eq_getElem?_getD]
theorem take_moreI (l : List Int) (k : Nat) (h : k < l.length) : l.take (k + 1) = l.take k ++ [l.getD k 0] := by
  rw [List.take_succ_eq_append_getElem h]
  simp [List.getD_eq_getElem?_getD, List.getElem?_eq_getElem h]
theorem insSteps (s : ByteArray) (n : Int) : partSteps ⟨2, n, s⟩ = (runesOf s).map (fun r => (2, r)) := rfl
theorem othSteps (k n : Int) (s : ByteArray) (h : (k == 2) = false) : partSteps ⟨k, n, s⟩ = List.replicate n.toNat (k, 0) := if_neg (by simpa using h)
theorem block_ne {A A' : Option Addr} {n n' c c' x g : Nat} (h : (Value.slice A' n' c').ownBlock = (Value.slice A n c).ownBlock ∨ (Value.slice A' n' c').ownBlock = some x) (h1 : (Value.slice A n c).ownBlock ≠ some g) (h2 : g < x) : (Value.slice A' n' c').ownBlock ≠ some g := by
  rcases h with e | e
  · rw [e]; exact h1
  · rw [e]; intro q; injection q with q; omega
set_option maxHeartbeats 1000000 in
theorem steps_c (w : World) (A : Option Addr) (c : Nat) (ps : List PartD) (hs : OpIn (· < w.heap.size) w A ps) (hm : ps.length ≤ 1048576) (ht : ∀ p ∈ ps, p.text.size ≤ 1048576) (hl : (stepsOf ps).length ≤ 1048576) :
    Calls Tryd.prog 82 #[.slice A ps.length c] w (RetSteps w (stepsOf ps)) := by
  obtain ⟨i0, hi, hz0, hz1, hz2⟩ := info_parts infoStep
  have HT := Lib.hid ht
  clear ht
  go_enter Tryd.func82, Tryd.ntmps82
  go_wp2
  go_loopw [3, 4, 5, 6, 7] (fun out i _ _ _ wr => ∃ (k : Nat) (Ao : Option Addr) (co : Nat), k ≤ ps.length ∧ i = .int .i64 k ∧ out = .slice Ao (stepsOf (ps.take k)).length co ∧ wr.ownsRow w.heap.size 138 2 (.slice Ao (stepsOf (ps.take k)).length co) (stepsOf (ps.take k)).length (stepCells (stepsOf (ps.take k))) ∧ Below w.heap.size w wr)
    (fun _ i _ _ _ _ => ps.length - (intOf i).toNat)
  case atStart => exact ⟨0, none, 0, Nat.zero_le _, rfl, by simp [stepsOf], by simpa [stepsOf, stepCells] using World.ownsRow_nil _ _ _ _, Below.refl _ _⟩
  case round =>
    obtain ⟨wo, rfl⟩ : ∃ wo : World, wo = wr := ⟨_, rfl⟩
    obtain ⟨k, Ao, co, hk, rfl, rfl, hown, hbw⟩ := hrel
    by_cases hlt : k < ps.length
    · obtain ⟨b, o, rfl, hbs, h0, h1, h2⟩ := OpIn.at_ (ps := ps) (Sl.later hs hbw) hlt
      have HC := Lib.hid (OpIn.at_ (ps := ps) hs hlt)
      have HL := Lib.hid (stepsOf_take ps k hlt)
      have hle := stepsOf_le ps (k + 1)
      have htx : ps[k].text.size ≤ 1048576 := HT.out _ (List.getElem_mem hlt)
      rw [HL.out, List.length_append] at hle
      generalize ps[k] = p at *
      generalize stepsOf (ps.take k) = pre at *
      obtain ⟨kd, pn, tx⟩ := p
      dsimp only at *
      by_cases hk2 : kd = 2
      · subst hk2
        rw [insSteps, List.length_map] at hle
        have HP := Lib.hid (insSteps tx pn)
        have hcv := fun wx => convRunes (w := wx) htx
        have hrl := runesOf_length tx
        generalize hG : runesOf tx = rs at *
        rw [← hrl] at hcv
        clear hrl
        go_wp2
        have hra : RunesAt (wo.alloc (.cells (Conv.runesFrom tx tx.size 0 #[] ++ Array.replicate (grownCap wo rs.length 0 21 - rs.length) (.int .i32 0)) 21)).drew wo.heap.size rs := by
          have := RunesAt.new wo tx (grownCap wo rs.length 0 21 - rs.length) 21
          rw [hG] at this
          exact this.drew
        have hbn : (Value.slice Ao pre.length co).ownBlock ≠ some wo.heap.size := by
          intro e
          have := (hown.lt _ e).2
          omega
        clear hG
        go_loopw [3, 6] (fun out j wr => ∃ (q : Nat) (Ao : Option Addr) (co : Nat), q ≤ rs.length ∧ j = .int .i64 q ∧ out = .slice Ao (pre.length + q) co ∧ wr.ownsRow w.heap.size 138 2 (.slice Ao (pre.length + q) co) (pre.length + q) (stepCells (pre ++ (rs.take q).map (fun r => (2, r)))) ∧ (Value.slice Ao (pre.length + q) co).ownBlock ≠ some wo.heap.size ∧ RunesAt wr wo.heap.size rs ∧ Below w.heap.size w wr)
          (fun _ j _ => rs.length - (intOf j).toNat)
        case atStart => exact ⟨0, Ao, co, Nat.zero_le _, rfl, rfl, by simpa using (hown.alloc _).drew, hbn, hra, (bAlloc hbw _).drew⟩
        case round =>
          obtain ⟨q, Aq, cq, hq, rfl, rfl, hownq, hbnq, hraq, hbq⟩ := hrel
          by_cases hqlt : q < rs.length
          · have hcq := hraq.cells q _ (runes_getD rs q hqlt)
            rw [Nat.zero_add] at hcq
            have hQ := take_moreI rs q hqlt
            obtain ⟨x, hx⟩ : ∃ x, x = rs.getD q 0 := ⟨_, rfl⟩
            rw [← hx] at hcq hQ
            have HQ := Lib.hid hQ
            have HR := Lib.hid hraq
            clear hx hQ hcv hraq
            go_wp2_with (at_builtin; refine wpList_append_sl _ rfl _ _ 135 rfl w.heap.size 138 i0 (.agg #[.int .i64 0, .int .i32 0]) 2 16 Tryd.underlying135 hi hz0 hz1 hz2 rfl (by decide) _ _ _ rfl (hownq.alloc _) (fun _ => True) _ _ _ _ rfl (Sl.new wr [.int .i64 2, .int .i32 x] 138 2 1 rfl trivial) ?c1 ?c2 ?c3 ?c4 ?_)
            case c1 => exact step_one (2, x)
            case c2 => unfold maxLen; omega
            case c3 => omega
            case c4 => have := hbq.size; simp; omega
            · intro A' c' w1 hown' hgrow hat
              go_wp2
              go_roundw
              case rel => exact ⟨q + 1, A', c', by omega, by go_num, rfl, by rw [HQ.out]; simpa [stepCells, Nat.add_assoc] using hown', block_ne hat hbnq (by have := HR.out.lt; simp; omega), (HR.out.alloc _).grown hgrow hbnq, (bAlloc hbq _).grown hgrow (by have := hbq.size; simp; omega) (fun g hg => (hownq.lt g hg).1)⟩
              case measure => simp [intOf]; omega
          · obtain rfl : q = rs.length := by omega
            rw [List.take_length] at hownq
            go_wp2
            go_roundw
            case rel => exact ⟨k + 1, Aq, cq, by omega, by go_num, by rw [HL.out, HP.out, List.length_append, List.length_map], by rw [HL.out, HP.out]; simpa using hownq, hbq⟩
            case measure => simp [intOf]; omega
      · have e2 : (kd == 2) = false := by simpa using hk2
        have HP := Lib.hid (othSteps kd pn tx e2)
        rw [HP.out, List.length_replicate] at hle
        go_wp2
        go_loopw [3, 7] (fun out j wr => ∃ (q : Nat) (Ao : Option Addr) (co : Nat), q ≤ pn.toNat ∧ j = .int .i64 q ∧ out = .slice Ao (pre.length + q) co ∧ wr.ownsRow w.heap.size 138 2 (.slice Ao (pre.length + q) co) (pre.length + q) (stepCells (pre ++ List.replicate q (kd, 0))) ∧ Below w.heap.size w wr)
          (fun _ j _ => pn.toNat - (intOf j).toNat)
        case atStart => exact ⟨0, Ao, co, Nat.zero_le _, rfl, rfl, by simpa using hown, hbw⟩
        case round =>
          obtain ⟨q, Aq, cq, hq, rfl, rfl, hownq, hbq⟩ := hrel
          obtain ⟨b', o', heq, hbs', g0, g1, g2⟩ := HC.out
          injection heq with heq
          injection heq with e3 e4
          subst e3 e4
          have g0' := (hbq.cell (p := ⟨b, o + k * 3, none⟩) hbs').trans g0
          have g1' := (hbq.cell (p := ⟨b, o + k * 3 + 1, none⟩) hbs').trans g1
          clear g0 g1 g2 h0 h1 h2
          by_cases hqlt : (q : Int) < pn
          · go_wp2_with (at_builtin; refine wpList_append_sl _ rfl _ _ 135 rfl w.heap.size 138 i0 (.agg #[.int .i64 0, .int .i32 0]) 2 16 Tryd.underlying135 hi hz0 hz1 hz2 rfl (by decide) _ _ _ rfl (hownq.alloc _) (fun _ => True) _ _ _ _ rfl (Sl.new wr [.int .i64 kd, .int .i32 0] 138 2 1 rfl trivial) ?c1 ?c2 ?c3 ?c4 ?_)
            case c1 => simp [Value.oneCell']
            case c2 => unfold maxLen; omega
            case c3 => omega
            case c4 => have := hbq.size; simp; omega
            · intro A' c' w1 hown' hgrow hat
              go_wp2
              go_roundw
              case rel => exact ⟨q + 1, A', c', by omega, by go_num, rfl, by rw [List.replicate_succ']; simpa [stepCells, Nat.add_assoc] using hown', (bAlloc hbq _).grown hgrow (by have := hbq.size; simp; omega) (fun g hg => (hownq.lt g hg).1)⟩
              case measure => simp [intOf]; omega
          · obtain rfl : q = pn.toNat := by omega
            have hd : decide (((pn.toNat : Nat) : Int) < pn) = false := by simp; omega
            go_wp2
            go_roundw
            case rel => exact ⟨k + 1, Aq, cq, by omega, by go_num, by rw [HL.out, HP.out, List.length_append, List.length_replicate], by rw [HL.out, HP.out]; simpa using hownq, hbq⟩
            case measure => simp [intOf]; omega
    · obtain rfl : k = ps.length := by omega
      rw [List.take_length] at hown
      go_wp2
      go_ret
      exact ⟨Ao, co, by simp, hown, hbw⟩
end Go.Proofs.YtbmdepbmejnlkaaDoor
