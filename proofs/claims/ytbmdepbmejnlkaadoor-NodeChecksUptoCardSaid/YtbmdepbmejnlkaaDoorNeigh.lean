/-
  Contracts of node.neighbours and of the reference's peersOf: both give 'peers'.
-/
import Derived.Test.YtbmdepbmejnlkaaDoorRows
import Derived.Test.YtbmdepbmejnlkaaDoorPeers
import Derived.Test.YtbmdepbmejnlkaaDoorStop
import Derived.Test.YtbmdepbmejnlkaaDoorHide
namespace Go.Proofs.YtbmdepbmejnlkaaDoor
open Go.ChangeShapes Go.WideShapes Go.ChangeAt Go.RowKit
set_option maxRecDepth 100000
theorem infoIntP : (Tryd.prog.info? 3).map (fun i => (i.zero, i.size, i.bytes)) = some (some (.int .i64 0), 1, 8) := by kernel_rfl
theorem int_top {W : World} {cs : List Value} {t : TypeId} {n m : Nat} {A : Option Addr} (hl : cs.length = n * m) (hA : A = some ⟨W.heap.size, 0, none⟩) : Sl (fun _ => True) (W.alloc (.cells cs.toArray t)) m A n cs := by
  subst hA
  exact Sl.new W cs t m n hl trivial
/-- A call that hands back these numbers, in memory of its own. -/
def RetInts (w : World) (zs : List Int) (e : Ending) (w' : World) : Prop :=
  ∃ A c, e = .returned (.slice A zs.length c) ∧ w'.ownsRow w.heap.size 3 1 (.slice A zs.length c) zs.length (zs.map (Value.int .i64)) ∧ Below w.heap.size w w'
abbrev upK (zs : List Int) (me : Int) (k : Nat) : List Int := peerHead zs me ++ kidsTo zs me k
theorem upK_len (zs : List Int) (me : Int) (k : Nat) : (upK zs me k).length ≤ k + 1 := by
  have := kidsTo_len zs me k
  unfold upK peerHead
  split <;> simp <;> omega
set_option maxHeartbeats 1000000 in
theorem neigh_p (w : World) (T : Option Addr) (N c : Nat) (zs : List Int) (HZ : Hid (Sl (· < w.heap.size) w 1 T N (zs.map (Value.int .i64)))) (hN : N ≤ 7) (hl : zs.length = N) (m : Nat) (hm : 0 < m) (hmN : m < N) :
    Calls Tryd.prog 26 #[.slice T N c, .int .i64 (m : Int)] w (RetInts w (peers zs (m : Int))) := by
  obtain ⟨k0, hk0, hx0, hx1, hx2⟩ := info_parts infoIntP
  have HH := Lib.hid (show peerHead zs (m : Int) = [zs.getD m 0] by unfold peerHead; rw [if_pos (by omega)]; simp)
  have HPE := Lib.hid (show peers zs (m : Int) = upK zs (m : Int) N by rw [← hl]; rfl)
  obtain ⟨b, o, rfl, hbs, hc⟩ := HZ.out.open_ (by omega)
  have HC := Lib.hid (show ∀ k, k < N → w.cell? ⟨b, o + k, none⟩ = some (.int .i64 (zs.getD k 0)) from fun k hk => hc k _ (ints_getD zs k (by omega)))
  clear hc hl
  have hcm := HC.out m hmN
  go_enter Tryd.func26, Tryd.ntmps26
  go_wp2_with (refine stop_append rfl ?_)
  refine ⟨?_⟩
  refine wpList_append_sl _ rfl _ _ 22 rfl w.heap.size 3 k0 (.int .i64 0) 1 8 Tryd.underlying22 hk0 hx0 hx1 hx2 rfl (by decide) _ _ _ rfl ((World.ownsRow_nil _ _ _ _).alloc _) (fun _ => True) _ _ _ _ rfl (int_top (by rfl) (by simp)) ?c1 ?c2 ?c3 ?c4 ?_
  case c1 => intro u hu; simp at hu; subst hu; rfl
  case c2 => skip; unfold maxLen; omega
  case c3 => skip; omega
  case c4 => simp
  intro A0 c0 wb hown0 hgrow0 _
  change (w.alloc (Obj.cells #[Value.int IntKind.i64 _] 3)).grownBy wb (Value.slice none 0 0).ownBlock at hgrow0
  have HF0 := Lib.hid ((bAlloc (Below.refl _ _) _).grown hgrow0 (by simp) (fun g hg => by simp [Value.ownBlock] at hg) : Below w.heap.size w wb)
  have HO0 := Lib.hid (show wb.ownsRow w.heap.size 3 1 (.slice A0 (upK zs (m : Int) 0).length c0) (upK zs (m : Int) 0).length ((upK zs (m : Int) 0).map (Value.int .i64)) by
    have e : upK zs (m : Int) 0 = [zs.getD m 0] := by unfold upK; rw [HH.out, kidsTo_zero]; rfl
    rw [e]
    simpa using hown0)
  have HE0 := Lib.hid (show (.slice A0 (0 + 1) c0 : Value) = .slice A0 (upK zs (m : Int) 0).length c0 by
    have e : upK zs (m : Int) 0 = [zs.getD m 0] := by unfold upK; rw [HH.out, kidsTo_zero]; rfl
    rw [e]
    rfl)
  clear hown0 hgrow0
  go_wp2_with fail
  go_loopw [5, 19] (fun out i wr => ∃ (k : Nat) (Ao : Option Addr) (co : Nat), 0 ≤ k ∧ k ≤ N ∧ i = .int .i64 k ∧ out = .slice Ao (upK zs (m : Int) k).length co ∧ Hid (wr.ownsRow w.heap.size 3 1 (.slice Ao (upK zs (m : Int) k).length co) (upK zs (m : Int) k).length ((upK zs (m : Int) k).map (Value.int .i64))) ∧ Hid (Below w.heap.size w wr)) (fun _ i _ => N - (intOf i).toNat)
  case atStart => exact ⟨0, A0, c0, by omega, by omega, rfl, HE0.out, HO0, HF0⟩
  case round =>
    obtain ⟨k, Ao, co, hk1, hk, rfl, rfl, HO, HB⟩ := hrel
    by_cases hlt : k < N
    · have hcx := (HB.out.cell (p := ⟨b, o + k, none⟩) hbs).trans (HC.out k hlt)
      by_cases hp : (zs.getD k 0 == (m : Int)) = true
      · have HU := Lib.hid (show upK zs (m : Int) (k + 1) = upK zs (m : Int) k ++ [(k : Int)] by unfold upK; rw [kidsTo_yes hp, List.append_assoc])
        have HUL := Lib.hid (upK_len zs (m : Int) k)
        generalize zs.getD k 0 = p at *
        generalize upK zs (m : Int) k = U at *
        go_wp2_with (refine stop_append rfl ?_)
        refine ⟨?_⟩
        refine wpList_append_sl _ rfl _ _ 22 rfl w.heap.size 3 k0 (.int .i64 0) 1 8 Tryd.underlying22 hk0 hx0 hx1 hx2 rfl (by decide) _ _ _ rfl (HO.out.alloc _) (fun _ => True) _ _ _ _ rfl (int_top (by rfl) (by simp)) ?c1 ?c2 ?c3 ?c4 ?_
        case c1 => intro u hu; simp at hu; subst hu; rfl
        case c2 => have := HUL.out; unfold maxLen; omega
        case c3 => have := HUL.out; omega
        case c4 => have := HB.out.size; simp; omega
        intro A1 c1 wb hown1 hgrow1 _
        have HF1 := Lib.hid ((bAlloc HB.out _).grown hgrow1 (by have := HB.out.size; simp; omega) (fun g hg => (HO.out.lt g hg).1) : Below w.heap.size w wb)
        have HO1 := Lib.hid (show wb.ownsRow w.heap.size 3 1 (.slice A1 (U ++ [(k : Int)]).length c1) (U ++ [(k : Int)]).length ((U ++ [(k : Int)]).map (Value.int .i64)) by simpa using hown1)
        have HE1 := Lib.hid (show (.slice A1 (U.length + 1) c1 : Value) = .slice A1 (U ++ [(k : Int)]).length c1 by simp)
        clear hown1 hgrow1
        go_wp2_with fail
        go_roundw
        case rel => exact ⟨k + 1, A1, c1, by omega, by omega, by go_num, by rw [HU.out]; exact HE1.out, by rw [HU.out]; exact HO1, HF1⟩
        case measure => simp [intOf]; omega
      · have hp' : (zs.getD k 0 == (m : Int)) = false := by simpa using hp
        have HU := Lib.hid (show upK zs (m : Int) (k + 1) = upK zs (m : Int) k by unfold upK; rw [kidsTo_no hp'])
        clear hp
        generalize zs.getD k 0 = p at *
        generalize upK zs (m : Int) k = U at *
        go_wp2_with fail
        go_roundw
        case rel => exact ⟨k + 1, Ao, co, by omega, by omega, by go_num, by rw [HU.out], by rw [HU.out]; exact HO, HB⟩
        case measure => simp [intOf]; omega
    · obtain rfl : k = N := by omega
      generalize upK zs (m : Int) k = U at *
      go_wp2_with fail
      go_ret
      exact ⟨Ao, co, by rw [HPE.out]; rfl, by rw [HPE.out]; exact HO.out, HB.out⟩
set_option maxHeartbeats 1000000 in
theorem neigh_z (w : World) (T : Option Addr) (N c : Nat) (zs : List Int) (HZ : Hid (Sl (· < w.heap.size) w 1 T N (zs.map (Value.int .i64)))) (hN : N ≤ 7) (hl : zs.length = N) (h0 : 0 < N) :
    Calls Tryd.prog 26 #[.slice T N c, .int .i64 0] w (RetInts w (peers zs 0)) := by
  obtain ⟨k0, hk0, hx0, hx1, hx2⟩ := info_parts infoIntP
  have HH := Lib.hid (show peerHead zs 0 = [] from rfl)
  have HPE := Lib.hid (show peers zs 0 = upK zs 0 N by rw [← hl]; rfl)
  obtain ⟨b, o, rfl, hbs, hc⟩ := HZ.out.open_ (by omega)
  have HC := Lib.hid (show ∀ k, k < N → w.cell? ⟨b, o + k, none⟩ = some (.int .i64 (zs.getD k 0)) from fun k hk => hc k _ (ints_getD zs k (by omega)))
  clear hc hl
  go_enter Tryd.func26, Tryd.ntmps26
  go_wp2_with fail
  go_loopw [5, 19] (fun out i wr => ∃ (k : Nat) (Ao : Option Addr) (co : Nat), 0 ≤ k ∧ k ≤ N ∧ i = .int .i64 k ∧ out = .slice Ao (upK zs 0 k).length co ∧ Hid (wr.ownsRow w.heap.size 3 1 (.slice Ao (upK zs 0 k).length co) (upK zs 0 k).length ((upK zs 0 k).map (Value.int .i64))) ∧ Hid (Below w.heap.size w wr)) (fun _ i _ => N - (intOf i).toNat)
  case atStart => exact ⟨0, none, 0, by omega, by omega, rfl, by rw [show upK zs 0 0 = [] by unfold upK; rw [HH.out, kidsTo_zero]; rfl]; rfl, by rw [show upK zs 0 0 = [] by unfold upK; rw [HH.out, kidsTo_zero]; rfl]; exact World.ownsRow_nil _ _ _ _, Below.refl _ _⟩
  case round =>
    obtain ⟨k, Ao, co, hk1, hk, rfl, rfl, HO, HB⟩ := hrel
    by_cases hlt : k < N
    · have hcx := (HB.out.cell (p := ⟨b, o + k, none⟩) hbs).trans (HC.out k hlt)
      by_cases hp : (zs.getD k 0 == 0) = true
      · have HU := Lib.hid (show upK zs 0 (k + 1) = upK zs 0 k ++ [(k : Int)] by unfold upK; rw [kidsTo_yes hp, List.append_assoc])
        have HUL := Lib.hid (upK_len zs 0 k)
        generalize zs.getD k 0 = p at *
        generalize upK zs 0 k = U at *
        go_wp2_with (refine stop_append rfl ?_)
        refine ⟨?_⟩
        refine wpList_append_sl _ rfl _ _ 22 rfl w.heap.size 3 k0 (.int .i64 0) 1 8 Tryd.underlying22 hk0 hx0 hx1 hx2 rfl (by decide) _ _ _ rfl (HO.out.alloc _) (fun _ => True) _ _ _ _ rfl (int_top (by rfl) (by simp)) ?c1 ?c2 ?c3 ?c4 ?_
        case c1 => intro u hu; simp at hu; subst hu; rfl
        case c2 => have := HUL.out; unfold maxLen; omega
        case c3 => have := HUL.out; omega
        case c4 => have := HB.out.size; simp; omega
        intro A1 c1 wb hown1 hgrow1 _
        have HF1 := Lib.hid ((bAlloc HB.out _).grown hgrow1 (by have := HB.out.size; simp; omega) (fun g hg => (HO.out.lt g hg).1) : Below w.heap.size w wb)
        have HO1 := Lib.hid (show wb.ownsRow w.heap.size 3 1 (.slice A1 (U ++ [(k : Int)]).length c1) (U ++ [(k : Int)]).length ((U ++ [(k : Int)]).map (Value.int .i64)) by simpa using hown1)
        have HE1 := Lib.hid (show (.slice A1 (U.length + 1) c1 : Value) = .slice A1 (U ++ [(k : Int)]).length c1 by simp)
        clear hown1 hgrow1
        go_wp2_with fail
        go_roundw
        case rel => exact ⟨k + 1, A1, c1, by omega, by omega, by go_num, by rw [HU.out]; exact HE1.out, by rw [HU.out]; exact HO1, HF1⟩
        case measure => simp [intOf]; omega
      · have hp' : (zs.getD k 0 == 0) = false := by simpa using hp
        have HU := Lib.hid (show upK zs 0 (k + 1) = upK zs 0 k by unfold upK; rw [kidsTo_no hp'])
        clear hp
        generalize zs.getD k 0 = p at *
        generalize upK zs 0 k = U at *
        go_wp2_with fail
        go_roundw
        case rel => exact ⟨k + 1, Ao, co, by omega, by omega, by go_num, by rw [HU.out], by rw [HU.out]; exact HO, HB⟩
        case measure => simp [intOf]; omega
    · obtain rfl : k = N := by omega
      generalize upK zs 0 k = U at *
      go_wp2_with fail
      go_ret
      exact ⟨Ao, co, by rw [HPE.out]; rfl, by rw [HPE.out]; exact HO.out, HB.out⟩
set_option maxHeartbeats 1000000 in
theorem peersOf_p (w : World) (T : Option Addr) (N c : Nat) (zs : List Int) (HZ : Hid (Sl (· < w.heap.size) w 1 T N (zs.map (Value.int .i64)))) (hN : N ≤ 7) (hl : zs.length = N) (m : Nat) (hm : 0 < m) (hmN : m < N) (_hr : (zs.getD 0 0 == (m : Int)) = false) :
    Calls Tryd.prog 33 #[.slice T N c, .int .i64 (m : Int)] w (RetInts w (peers zs (m : Int))) := by
  obtain ⟨k0, hk0, hx0, hx1, hx2⟩ := info_parts infoIntP
  have HH := Lib.hid (show peerHead zs (m : Int) = [zs.getD m 0] by unfold peerHead; rw [if_pos (by omega)]; simp)
  have HPE := Lib.hid (show peers zs (m : Int) = upK zs (m : Int) N by rw [← hl]; rfl)
  have HK1 := Lib.hid (show kidsTo zs (m : Int) 1 = [] from (kidsTo_no _hr).trans (kidsTo_zero _ _))
  obtain ⟨b, o, rfl, hbs, hc⟩ := HZ.out.open_ (by omega)
  have HC := Lib.hid (show ∀ k, k < N → w.cell? ⟨b, o + k, none⟩ = some (.int .i64 (zs.getD k 0)) from fun k hk => hc k _ (ints_getD zs k (by omega)))
  clear hc hl _hr
  have hcm := HC.out m hmN
  go_enter Tryd.func33, Tryd.ntmps33
  go_wp2_with (refine stop_append rfl ?_)
  refine ⟨?_⟩
  refine wpList_append_sl _ rfl _ _ 22 rfl w.heap.size 3 k0 (.int .i64 0) 1 8 Tryd.underlying22 hk0 hx0 hx1 hx2 rfl (by decide) _ _ _ rfl ((World.ownsRow_nil _ _ _ _).alloc _) (fun _ => True) _ _ _ _ rfl (int_top (by rfl) (by simp)) ?c1 ?c2 ?c3 ?c4 ?_
  case c1 => intro u hu; simp at hu; subst hu; rfl
  case c2 => skip; unfold maxLen; omega
  case c3 => skip; omega
  case c4 => simp
  intro A0 c0 wb hown0 hgrow0 _
  change (w.alloc (Obj.cells #[Value.int IntKind.i64 _] 3)).grownBy wb (Value.slice none 0 0).ownBlock at hgrow0
  have HF0 := Lib.hid ((bAlloc (Below.refl _ _) _).grown hgrow0 (by simp) (fun g hg => by simp [Value.ownBlock] at hg) : Below w.heap.size w wb)
  have HO0 := Lib.hid (show wb.ownsRow w.heap.size 3 1 (.slice A0 (upK zs (m : Int) 1).length c0) (upK zs (m : Int) 1).length ((upK zs (m : Int) 1).map (Value.int .i64)) by
    have e : upK zs (m : Int) 1 = [zs.getD m 0] := by unfold upK; rw [HH.out, HK1.out]; rfl
    rw [e]
    simpa using hown0)
  have HE0 := Lib.hid (show (.slice A0 (0 + 1) c0 : Value) = .slice A0 (upK zs (m : Int) 1).length c0 by
    have e : upK zs (m : Int) 1 = [zs.getD m 0] := by unfold upK; rw [HH.out, HK1.out]; rfl
    rw [e]
    rfl)
  clear hown0 hgrow0
  go_wp2_with fail
  go_loopw [5, 6] (fun out i wr => ∃ (k : Nat) (Ao : Option Addr) (co : Nat), 1 ≤ k ∧ k ≤ N ∧ i = .int .i64 k ∧ out = .slice Ao (upK zs (m : Int) k).length co ∧ Hid (wr.ownsRow w.heap.size 3 1 (.slice Ao (upK zs (m : Int) k).length co) (upK zs (m : Int) k).length ((upK zs (m : Int) k).map (Value.int .i64))) ∧ Hid (Below w.heap.size w wr)) (fun _ i _ => N - (intOf i).toNat)
  case atStart => exact ⟨1, A0, c0, by omega, by omega, rfl, HE0.out, HO0, HF0⟩
  case round =>
    obtain ⟨k, Ao, co, hk1, hk, rfl, rfl, HO, HB⟩ := hrel
    by_cases hlt : k < N
    · have hcx := (HB.out.cell (p := ⟨b, o + k, none⟩) hbs).trans (HC.out k hlt)
      by_cases hp : (zs.getD k 0 == (m : Int)) = true
      · have HU := Lib.hid (show upK zs (m : Int) (k + 1) = upK zs (m : Int) k ++ [(k : Int)] by unfold upK; rw [kidsTo_yes hp, List.append_assoc])
        have HUL := Lib.hid (upK_len zs (m : Int) k)
        generalize zs.getD k 0 = p at *
        generalize upK zs (m : Int) k = U at *
        go_wp2_with (refine stop_append rfl ?_)
        refine ⟨?_⟩
        refine wpList_append_sl _ rfl _ _ 22 rfl w.heap.size 3 k0 (.int .i64 0) 1 8 Tryd.underlying22 hk0 hx0 hx1 hx2 rfl (by decide) _ _ _ rfl (HO.out.alloc _) (fun _ => True) _ _ _ _ rfl (int_top (by rfl) (by simp)) ?c1 ?c2 ?c3 ?c4 ?_
        case c1 => intro u hu; simp at hu; subst hu; rfl
        case c2 => have := HUL.out; unfold maxLen; omega
        case c3 => have := HUL.out; omega
        case c4 => have := HB.out.size; simp; omega
        intro A1 c1 wb hown1 hgrow1 _
        have HF1 := Lib.hid ((bAlloc HB.out _).grown hgrow1 (by have := HB.out.size; simp; omega) (fun g hg => (HO.out.lt g hg).1) : Below w.heap.size w wb)
        have HO1 := Lib.hid (show wb.ownsRow w.heap.size 3 1 (.slice A1 (U ++ [(k : Int)]).length c1) (U ++ [(k : Int)]).length ((U ++ [(k : Int)]).map (Value.int .i64)) by simpa using hown1)
        have HE1 := Lib.hid (show (.slice A1 (U.length + 1) c1 : Value) = .slice A1 (U ++ [(k : Int)]).length c1 by simp)
        clear hown1 hgrow1
        go_wp2_with fail
        go_roundw
        case rel => exact ⟨k + 1, A1, c1, by omega, by omega, by go_num, by rw [HU.out]; exact HE1.out, by rw [HU.out]; exact HO1, HF1⟩
        case measure => simp [intOf]; omega
      · have hp' : (zs.getD k 0 == (m : Int)) = false := by simpa using hp
        have HU := Lib.hid (show upK zs (m : Int) (k + 1) = upK zs (m : Int) k by unfold upK; rw [kidsTo_no hp'])
        clear hp
        generalize zs.getD k 0 = p at *
        generalize upK zs (m : Int) k = U at *
        go_wp2_with fail
        go_roundw
        case rel => exact ⟨k + 1, Ao, co, by omega, by omega, by go_num, by rw [HU.out], by rw [HU.out]; exact HO, HB⟩
        case measure => simp [intOf]; omega
    · obtain rfl : k = N := by omega
      generalize upK zs (m : Int) k = U at *
      go_wp2_with fail
      go_ret
      exact ⟨Ao, co, by rw [HPE.out]; rfl, by rw [HPE.out]; exact HO.out, HB.out⟩
set_option maxHeartbeats 1000000 in
theorem peersOf_z (w : World) (T : Option Addr) (N c : Nat) (zs : List Int) (HZ : Hid (Sl (· < w.heap.size) w 1 T N (zs.map (Value.int .i64)))) (hN : N ≤ 7) (hl : zs.length = N) (h0 : 0 < N) (_hr : (zs.getD 0 0 == 0) = false) :
    Calls Tryd.prog 33 #[.slice T N c, .int .i64 0] w (RetInts w (peers zs 0)) := by
  obtain ⟨k0, hk0, hx0, hx1, hx2⟩ := info_parts infoIntP
  have HH := Lib.hid (show peerHead zs 0 = [] from rfl)
  have HPE := Lib.hid (show peers zs 0 = upK zs 0 N by rw [← hl]; rfl)
  have HK1 := Lib.hid (show kidsTo zs 0 1 = [] from (kidsTo_no _hr).trans (kidsTo_zero _ _))
  obtain ⟨b, o, rfl, hbs, hc⟩ := HZ.out.open_ (by omega)
  have HC := Lib.hid (show ∀ k, k < N → w.cell? ⟨b, o + k, none⟩ = some (.int .i64 (zs.getD k 0)) from fun k hk => hc k _ (ints_getD zs k (by omega)))
  clear hc hl _hr
  go_enter Tryd.func33, Tryd.ntmps33
  go_wp2_with fail
  go_loopw [5, 6] (fun out i wr => ∃ (k : Nat) (Ao : Option Addr) (co : Nat), 1 ≤ k ∧ k ≤ N ∧ i = .int .i64 k ∧ out = .slice Ao (upK zs 0 k).length co ∧ Hid (wr.ownsRow w.heap.size 3 1 (.slice Ao (upK zs 0 k).length co) (upK zs 0 k).length ((upK zs 0 k).map (Value.int .i64))) ∧ Hid (Below w.heap.size w wr)) (fun _ i _ => N - (intOf i).toNat)
  case atStart => exact ⟨1, none, 0, by omega, by omega, rfl, by rw [show upK zs 0 1 = [] by unfold upK; rw [HH.out, HK1.out]; rfl]; rfl, by rw [show upK zs 0 1 = [] by unfold upK; rw [HH.out, HK1.out]; rfl]; exact World.ownsRow_nil _ _ _ _, Below.refl _ _⟩
  case round =>
    obtain ⟨k, Ao, co, hk1, hk, rfl, rfl, HO, HB⟩ := hrel
    by_cases hlt : k < N
    · have hcx := (HB.out.cell (p := ⟨b, o + k, none⟩) hbs).trans (HC.out k hlt)
      by_cases hp : (zs.getD k 0 == 0) = true
      · have HU := Lib.hid (show upK zs 0 (k + 1) = upK zs 0 k ++ [(k : Int)] by unfold upK; rw [kidsTo_yes hp, List.append_assoc])
        have HUL := Lib.hid (upK_len zs 0 k)
        generalize zs.getD k 0 = p at *
        generalize upK zs 0 k = U at *
        go_wp2_with (refine stop_append rfl ?_)
        refine ⟨?_⟩
        refine wpList_append_sl _ rfl _ _ 22 rfl w.heap.size 3 k0 (.int .i64 0) 1 8 Tryd.underlying22 hk0 hx0 hx1 hx2 rfl (by decide) _ _ _ rfl (HO.out.alloc _) (fun _ => True) _ _ _ _ rfl (int_top (by rfl) (by simp)) ?c1 ?c2 ?c3 ?c4 ?_
        case c1 => intro u hu; simp at hu; subst hu; rfl
        case c2 => have := HUL.out; unfold maxLen; omega
        case c3 => have := HUL.out; omega
        case c4 => have := HB.out.size; simp; omega
        intro A1 c1 wb hown1 hgrow1 _
        have HF1 := Lib.hid ((bAlloc HB.out _).grown hgrow1 (by have := HB.out.size; simp; omega) (fun g hg => (HO.out.lt g hg).1) : Below w.heap.size w wb)
        have HO1 := Lib.hid (show wb.ownsRow w.heap.size 3 1 (.slice A1 (U ++ [(k : Int)]).length c1) (U ++ [(k : Int)]).length ((U ++ [(k : Int)]).map (Value.int .i64)) by simpa using hown1)
        have HE1 := Lib.hid (show (.slice A1 (U.length + 1) c1 : Value) = .slice A1 (U ++ [(k : Int)]).length c1 by simp)
        clear hown1 hgrow1
        go_wp2_with fail
        go_roundw
        case rel => exact ⟨k + 1, A1, c1, by omega, by omega, by go_num, by rw [HU.out]; exact HE1.out, by rw [HU.out]; exact HO1, HF1⟩
        case measure => simp [intOf]; omega
      · have hp' : (zs.getD k 0 == 0) = false := by simpa using hp
        have HU := Lib.hid (show upK zs 0 (k + 1) = upK zs 0 k by unfold upK; rw [kidsTo_no hp'])
        clear hp
        generalize zs.getD k 0 = p at *
        generalize upK zs 0 k = U at *
        go_wp2_with fail
        go_roundw
        case rel => exact ⟨k + 1, Ao, co, by omega, by omega, by go_num, by rw [HU.out], by rw [HU.out]; exact HO, HB⟩
        case measure => simp [intOf]; omega
    · obtain rfl : k = N := by omega
      generalize upK zs 0 k = U at *
      go_wp2_with fail
      go_ret
      exact ⟨Ao, co, by rw [HPE.out]; rfl, by rw [HPE.out]; exact HO.out, HB.out⟩
theorem neighbours_c (w : World) (T : Option Addr) (N c : Nat) (zs : List Int) (hs : Sl (· < w.heap.size) w 1 T N (zs.map (Value.int .i64))) (ht : treeFault zs = 0) (me : Int) (h0 : 0 ≤ me) (h1 : me < zs.length) :
    Calls Tryd.prog 26 #[.slice T N c, .int .i64 me] w (RetInts w (peers zs me)) := by
  have hl : zs.length = N := by have := hs.1; simpa using this
  obtain ⟨t1, t2, _⟩ := tree_root ht
  obtain ⟨m, rfl⟩ : ∃ m : Nat, me = m := ⟨me.toNat, by omega⟩
  by_cases hm : 0 < m
  · exact neigh_p w T N c zs hs (by omega) hl m hm (by omega)
  · obtain rfl : m = 0 := by omega
    exact neigh_z w T N c zs hs (by omega) hl (by omega)
theorem peersOf_c (w : World) (T : Option Addr) (N c : Nat) (zs : List Int) (hs : Sl (· < w.heap.size) w 1 T N (zs.map (Value.int .i64))) (ht : treeFault zs = 0) (me : Int) (h0 : 0 ≤ me) (h1 : me < zs.length) :
    Calls Tryd.prog 33 #[.slice T N c, .int .i64 me] w (RetInts w (peers zs me)) := by
  have hl : zs.length = N := by have := hs.1; simpa using this
  obtain ⟨t1, t2, t3⟩ := tree_root ht
  obtain ⟨m, rfl⟩ : ∃ m : Nat, me = m := ⟨me.toNat, by omega⟩
  have hr : (zs.getD 0 0 == (m : Int)) = false := by rw [t3]; simp
  by_cases hm : 0 < m
  · exact peersOf_p w T N c zs hs (by omega) hl m hm (by omega) hr
  · obtain rfl : m = 0 := by omega
    exact peersOf_z w T N c zs hs (by omega) hl (by omega) hr
end Go.Proofs.YtbmdepbmejnlkaaDoor
