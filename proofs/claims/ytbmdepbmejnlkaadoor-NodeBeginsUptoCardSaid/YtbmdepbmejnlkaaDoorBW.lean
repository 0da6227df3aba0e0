/-
  node.Begin and the reference's BegunOf, in one contract each: what they answer.
  wherrylaw.NodeBegins returns true for every tree, numbers and text, where what it reads is of bulk at most 1048576, and unicode/utf8's two tables are as their text lays them.
-/
import Derived.Test.YtbmdepbmejnlkaaDoorRows
import Derived.Test.YtbmdepbmejnlkaaDoorBU
import Derived.Test.YtbmdepbmejnlkaaDoorBV
import Derived.Test.YtbmdepbmejnlkaaDoorBO
import Derived.Test.YtbmdepbmejnlkaaDoorBL
import Derived.Test.YtbmdepbmejnlkaaDoorDoor
import Derived.Test.YtbmdepbmejnlkaaDoorSameTurnP
namespace Go.Proofs.YtbmdepbmejnlkaaDoor
open Go.ChangeShapes Go.WideShapes Go.ChangeAt Go.RowKit
set_option maxRecDepth 100000
/-- The error that Begin answers. -/
def begE (zs : List Int) (me births : Int) (s : ByteArray) : Int :=
  if treeFault zs ≠ 0 then treeFault zs else if me < 0 ∨ (zs.length : Int) ≤ me then 13 else if births < 1 ∨ 250 < births then 2 else if textFault s ≠ 0 then textFault s else if 0 < me ∧ (!s.toList.isEmpty) = true then 4 else 0
def begDD (zs : List Int) (me births : Int) (s : ByteArray) : NodeD := if begE zs me births s = 0 then begD me (4096 * births) s (peers zs me) else zeroN.d
def begPP (zs : List Int) (me births : Int) (s : ByteArray) : List PostD := if begE zs me births s = 0 then begP me (4096 * births) (peers zs me) else []
/-- A call that hands back a turn that writes nothing and sends these posts, and an error. -/
def RetTurnB (w : World) (d : NodeD) (D : List PostD) (er : Int) (e : Ending) (w' : World) : Prop :=
  ∃ (n : NodeV) (A : Option Addr) (c : Nat) (L : List PostV), e = .returned (.tuple #[.agg (turnCells n (.slice A D.length c) (.slice none 0 0)), .int .i64 er]) ∧ n.d = d ∧ n.InS (fun b => w.heap.size ≤ b ∧ b < w'.heap.size) w' ∧ L.map PostV.d = D ∧ PostsOwn w' w.heap.size A c L ∧ Below w.heap.size w w'
theorem RetTurnP.b {w w' : World} {d : NodeD} {D : List PostD} {er : Int} {e : Ending} (h : RetTurnP w d D er e w') : RetTurnB w d D er e w' := by
  obtain ⟨n, A, c, L, h1, h2, h3, h4, h5, h6⟩ := h
  have hl : L.length = D.length := by rw [← h4, List.length_map]
  exact ⟨n, A, c, L, by rw [← hl]; exact h1, h2, h3, h4, h5, h6⟩
section
variable {f : FuncId} {args : Array Value} {w : World} {zs : List Int} {me births : Int} {s : ByteArray}
theorem beg_no {er : Int} (h : begE zs me births s = er) (hne : er ≠ 0) (hc : Calls Tryd.prog f args w (RetTurnP w zeroN.d [] er)) : Calls Tryd.prog f args w (RetTurnB w (begDD zs me births s) (begPP zs me births s) (begE zs me births s)) := by
  unfold begDD begPP
  rw [h, if_neg hne, if_neg hne]
  exact hc.mono fun _ _ q => q.b
theorem beg_ok (h : begE zs me births s = 0) (hc : Calls Tryd.prog f args w (RetTurnP w (begD me (4096 * births) s (peers zs me)) (begP me (4096 * births) (peers zs me)) 0)) : Calls Tryd.prog f args w (RetTurnB w (begDD zs me births s) (begPP zs me births s) (begE zs me births s)) := by
  unfold begDD begPP
  rw [h, if_pos rfl, if_pos rfl]
  exact hc.mono fun _ _ q => q.b
end
theorem empty_of {s : ByteArray} (h : ¬ (!s.toList.isEmpty) = true) : s = ⟨#[]⟩ := by
  have h1 : s.toList = [] := by simpa using h
  have h2 := size_nil.1 h1
  obtain ⟨a⟩ := s
  have h3 : a = #[] := Array.eq_empty_of_size_eq_zero h2
  rw [h3]
theorem Begin_c (w : World) (T : Option Addr) (N Nc : Nat) (zs : List Int) (me births : Int) (s : ByteArray) (hT : Tabs w) (hsm : s.size ≤ 1048576) (hz : Sl (· < w.heap.size) w 1 T N (zs.map (Value.int .i64))) (hN : N ≤ 9223372036854775807) :
    Calls Tryd.prog 10 #[.slice T N Nc, .int .i64 me, .int .i64 births, .string s] w (RetTurnB w (begDD zs me births s) (begPP zs me births s) (begE zs me births s)) := by
  by_cases c1 : treeFault zs = 0
  · by_cases c2 : me < 0 ∨ (zs.length : Int) ≤ me
    · refine beg_no (er := 13) (by unfold begE; rw [if_neg (by simpa using c1), if_pos c2]) (by decide) ?_
      by_cases c3 : me < 0
      · exact Begin_me1 w T N Nc zs me births s hT hsm hz hN c1 c3
      · exact Begin_me2 w T N Nc zs me births s hT hsm hz hN c1 (by omega)
    · by_cases c3 : births < 1 ∨ 250 < births
      · refine beg_no (er := 2) (by unfold begE; rw [if_neg (by simpa using c1), if_neg c2, if_pos c3]) (by decide) ?_
        by_cases c4 : births < 1
        · exact Begin_b1 w T N Nc zs me births s hT hsm hz hN c1 (by omega) c4
        · exact Begin_b2 w T N Nc zs me births s hT hsm hz hN c1 (by omega) (by omega)
      · by_cases c4 : textFault s = 0
        · by_cases c5 : 0 < me ∧ (!s.toList.isEmpty) = true
          · refine beg_no (er := 4) (by unfold begE; rw [if_neg (by simpa using c1), if_neg c2, if_neg c3, if_neg (by simpa using c4), if_pos c5]) (by decide) ?_
            exact Begin_form w T N Nc zs me births s hT hsm hz hN c1 (by omega) (by omega) c4 c5.1 c5.2
          · refine beg_ok (by unfold begE; rw [if_neg (by simpa using c1), if_neg c2, if_neg c3, if_neg (by simpa using c4), if_neg c5]) ?_
            by_cases c6 : 0 < me
            · obtain rfl := empty_of (fun q => c5 ⟨c6, q⟩)
              exact Begin_ok1 w T N Nc zs births hT hz hN c1 (by omega) me c6 (by omega)
            · obtain rfl : me = 0 := by omega
              exact Begin_ok0 w T N Nc zs births s hT hz hN c1 (by omega) c4 hsm
        · exact beg_no (er := textFault s) (by unfold begE; rw [if_neg (by simpa using c1), if_neg c2, if_neg c3, if_pos c4]) c4 (Begin_text w T N Nc zs me births s hT hsm hz hN c1 (by omega) (by omega) _ rfl (by simpa using c4))
  · exact beg_no (er := treeFault zs) (by unfold begE; rw [if_pos c1]) c1 (Begin_tree w T N Nc zs me births s hT hsm hz hN _ rfl (by simpa using c1))
theorem Begun_c (w : World) (T : Option Addr) (N Nc : Nat) (zs : List Int) (me births : Int) (s : ByteArray) (hT : Tabs w) (hsm : s.size ≤ 1048576) (hz : Sl (· < w.heap.size) w 1 T N (zs.map (Value.int .i64))) (hN : N ≤ 9223372036854775807) :
    Calls Tryd.prog 11 #[.slice T N Nc, .int .i64 me, .int .i64 births, .string s] w (RetTurnB w (begDD zs me births s) (begPP zs me births s) (begE zs me births s)) := by
  by_cases c1 : treeFault zs = 0
  · by_cases c2 : me < 0 ∨ (zs.length : Int) ≤ me
    · refine beg_no (er := 13) (by unfold begE; rw [if_neg (by simpa using c1), if_pos c2]) (by decide) ?_
      exact Begun_me w T N Nc zs me births s hT hsm hz hN c1 c2
    · by_cases c3 : births < 1 ∨ 250 < births
      · refine beg_no (er := 2) (by unfold begE; rw [if_neg (by simpa using c1), if_neg c2, if_pos c3]) (by decide) ?_
        exact Begun_b w T N Nc zs me births s hT hsm hz hN c1 (by omega) c3
      · by_cases c4 : textFault s = 0
        · by_cases c5 : 0 < me ∧ (!s.toList.isEmpty) = true
          · refine beg_no (er := 4) (by unfold begE; rw [if_neg (by simpa using c1), if_neg c2, if_neg c3, if_neg (by simpa using c4), if_pos c5]) (by decide) ?_
            exact Begun_form w T N Nc zs me births s hT hsm hz hN c1 (by omega) (by omega) c4 c5.1 c5.2
          · refine beg_ok (by unfold begE; rw [if_neg (by simpa using c1), if_neg c2, if_neg c3, if_neg (by simpa using c4), if_neg c5]) ?_
            rw [Int.mul_comm 4096 births]
            by_cases c6 : 0 < me
            · obtain rfl := empty_of (fun q => c5 ⟨c6, q⟩)
              exact Begun_ok1 w T N Nc zs births hT hz hN c1 (by omega) me c6 (by omega)
            · obtain rfl : me = 0 := by omega
              exact Begun_ok0 w T N Nc zs births s hT hz hN c1 (by omega) c4 hsm
        · exact beg_no (er := textFault s) (by unfold begE; rw [if_neg (by simpa using c1), if_neg c2, if_neg c3, if_pos c4]) c4 (Begun_text w T N Nc zs me births s hT hsm hz hN c1 (by omega) (by omega) _ rfl (by simpa using c4))
  · exact beg_no (er := treeFault zs) (by unfold begE; rw [if_pos c1]) c1 (Begun_tree w T N Nc zs me births s hT hsm hz hN _ rfl (by simpa using c1))
/-! ### how large -/
theorem joinF_small (e u : Int) : (joinF e u).Small := ⟨⟨Nat.zero_le _, (by intro p hp; cases hp)⟩, Nat.zero_le _⟩
theorem join_fill (e : Int) : fillL (waitL (openL e).d (joinF e 0).d) = (⟨e, 2, none, 0, [joinF e 0], none, 0, [], 0⟩ : LinkV).d := by
  simp [fillL, fillN, waitL, openL]
theorem begP_small (me ep : Int) (P : List Int) : (begP me ep P).length ≤ 1099511627776 ∧ ∀ p ∈ begP me ep P, p.p.frame.op.length ≤ 1048576 := by
  unfold begP
  split
  · exact ⟨by simp, by simp⟩
  · have h := fillP_small (wait_small (openL_small ep).ops (f := (joinF ep 0).d) (Nat.zero_le _))
    refine ⟨by rw [List.length_map]; have := h.1; omega, fun p hp => ?_⟩
    obtain ⟨q, hq, rfl⟩ := List.mem_map.1 hp
    exact h.2 q hq
theorem begPP_small (zs : List Int) (me births : Int) (s : ByteArray) : (begPP zs me births s).length ≤ 1099511627776 ∧ ∀ p ∈ begPP zs me births s, p.p.frame.op.length ≤ 1048576 := by
  unfold begPP
  split
  · exact begP_small _ _ _
  · exact ⟨by simp, by simp⟩
theorem mkSide_small (p : Int) : (mkSide p).Small := ⟨Nat.zero_le _, (by intro o ho; cases ho), ⟨Nat.zero_le _, Nat.zero_le _, (by intro f hf; cases hf), (by intro f hf; cases hf)⟩⟩
theorem begN_small {me ep : Int} {s : ByteArray} {P : List Int} (hs : s.size ≤ 1048576) (hP : P.length ≤ 1048576) : (begN me ep s none 0 P).Small :=
  ⟨hs, by simpa [begN] using hP, fun x hx => by
    obtain ⟨p, _, rfl⟩ := List.mem_map.1 hx
    exact mkSide_small p, Nat.zero_le _, (by intro o ho; cases ho), Nat.zero_le _⟩
theorem zeroN_smallB : zeroN.Small := ⟨Nat.zero_le _, by simp [zeroN], (by intro x hx; cases hx), by simp [zeroN], (by intro x hx; cases hx), by simp [zeroN]⟩
theorem begDD_mid {zs : List Int} {me births : Int} {s : ByteArray} {n : NodeV} (hs : s.size ≤ 1048576) (hd : n.d = begDD zs me births s) : n.Mid := by
  unfold begDD at hd
  split at hd
  · rename_i h0
    have hzl : zs.length ≤ 7 := by
      unfold begE at h0
      split at h0
      · contradiction
      · rename_i h1
        exact (tree_root (by simpa using h1)).2.1
    have hP : (peers zs me).length ≤ 8 := peers_le hzl
    unfold begD at hd
    split at hd
    · exact (NodeV.Small.of_d hd (begN_small hs (by omega))).mid
    · rename_i hme
      by_cases hp : 0 < (peers zs me).length
      · have h1 := begN_link (me := me) (ep := 4096 * births) (s := s) (A := none) (c := 0) (P := peers zs me) (l := ⟨4096 * births, 2, none, 0, [joinF (4096 * births) 0], none, 0, [], 0⟩) hme hp (join_fill _).symm
        unfold begD at h1
        rw [if_neg hme] at h1
        refine (NodeV.Small.of_d (hd.trans h1.symm) ?_).mid
        have hb := begN_small (me := me) (ep := 4096 * births) (s := s) (P := peers zs me) hs (by omega)
        refine ⟨hs, by simpa [NodeV.link] using hb.sl, fun x hx => ?_, Nat.zero_le _, (by intro o ho; cases ho), Nat.zero_le _⟩
        rcases List.mem_or_eq_of_mem_set hx with hm | rfl
        · exact hb.sides x hm
        · have hg : (begN me (4096 * births) s none 0 (peers zs me)).S.getD 0 default ∈ (begN me (4096 * births) s none 0 (peers zs me)).S := by
            have hlen : 0 < (begN me (4096 * births) s none 0 (peers zs me)).S.length := by simpa [begN] using hp
            rw [List.getD_eq_getElem?_getD, List.getElem?_eq_getElem hlen]
            exact List.getElem_mem hlen
          have h9 := hb.sides _ hg
          exact ⟨h9.len, h9.ops, ⟨by simp, Nat.zero_le _, fun f hf => by obtain rfl := List.mem_singleton.1 hf; exact joinF_small _ _, (by intro f hf; cases hf)⟩⟩
      · have hpe : peers zs me = [] := List.eq_nil_of_length_eq_zero (by omega)
        rw [hpe] at hd
        have hb := begN_small (me := me) (ep := 4096 * births) (s := s) (P := []) hs (by simp)
        exact (NodeV.Small.of_d (n := begN me (4096 * births) s none 0 []) hd hb).mid
  · exact (NodeV.Small.of_d hd zeroN_smallB).mid
end Go.Proofs.YtbmdepbmejnlkaaDoor
namespace Go.Proofs.YtbmdepbmejnlkaaDoor
open Go.ChangeShapes Go.WideShapes Go.ChangeAt Go.RowKit
open Go.ChangeMaps (open_string)
set_option maxRecDepth 100000
namespace nodeBegins
set_option maxHeartbeats 1000000 in
theorem walk (w : World) (T : Option Addr) (N Nc : Nat) (zs : List Int) (hz : Sl (· < w.heap.size) w 1 T N (zs.map (Value.int .i64))) (hN : N ≤ 9223372036854775807) (me births : Int) (s : ByteArray) (hT : Tabs w) (hsm : s.size ≤ 1048576) :
    Calls Tryd.prog 4 #[.slice T N Nc, .int .i64 me, .int .i64 births, .string s] w fun e w' => e = .returned (.bool true) ∧ Below w.heap.size w w' := by
  have HS := Lib.hid (fun W hT hz => Begin_c W T N Nc zs me births s hT hsm hz hN)
  have HR := Lib.hid (fun W hT hz => Begun_c W T N Nc zs me births s hT hsm hz hN)
  have HMID := Lib.hid (fun (n2 : NodeV) (hd : n2.d = begDD zs me births s) => begDD_mid hsm hd)
  have HSM := Lib.hid (begPP_small zs me births s)
  generalize begPP zs me births s = D at *
  generalize begDD zs me births s = d at *
  generalize begE zs me births s = er at *
  have HT := Lib.hid hT
  have HZ := Lib.hid hz
  clear hT hz hsm
  go_enter Tryd.func4, Tryd.ntmps4
  go_wp2_with fail
  refine (HS.out _ (HT.out.later (by repeat (first | exact Below.refl _ _ | apply bGrow | apply bAlloc | apply Below.drew | apply bDrewN | apply bIter))) (Sl.later HZ.out (by repeat (first | exact Below.refl _ _ | apply bGrow | apply bAlloc | apply Below.drew | apply bDrewN | apply bIter)))).mono ?_
  rintro r w2 ⟨m2, A2, c2, L2, rfl, hd2, hin2, hl2, hp2, hb2⟩
  have HQ2 : Hid (Below w.heap.size w w2) := Lib.hid (bThen (by repeat (first | exact Below.refl _ _ | apply bGrow | apply bAlloc | apply Below.drew | apply bDrewN | apply bIter)) hb2)
  have HI2 := Lib.hid (hin2.in_ (fun b hb => hb.2))
  have HP2 := Lib.hid hp2.in_
  have HM1 := Lib.hid hd2
  have HL2 := Lib.hid hl2
  clear hin2 hp2 hb2 hd2 hl2
  go_wp2_with fail
  obtain ⟨B, hB⟩ : ∃ B, B = w2.heap.size := ⟨_, rfl⟩
  obtain ⟨G, hG⟩ : ∃ G, G = w2.alloc (.cells (turnCells m2 (.slice A2 D.length c2) (.slice none 0 0)) 35) := ⟨_, rfl⟩
  have hbg : Below w2.heap.size w2 G := by rw [hG]; exact bAlloc (Below.refl _ _) _
  have HG1 := Lib.hid (bThen HQ2.out hbg)
  have HG2 := Lib.hid (HI2.out.later hbg)
  have HG4 := Lib.hid (HP2.out.later hbg)
  have HG3 : Hid (G.heap[B]? = some (.cells (turnCells m2 (.slice A2 D.length c2) (.slice none 0 0)) 35 (0, 0))) := Lib.hid (by rw [hG, hB]; exact World.alloc_heap_new _ _)
  have hBG : B < G.heap.size := (Array.getElem?_eq_some_iff.1 HG3.out).1
  clear hbg
  rw [← hB]
  rw [← hG]
  clear hB hG
  refine (HR.out _ (HT.out.later HG1.out) (Sl.later HZ.out HG1.out)).mono ?_
  rintro r w3 ⟨m3, A3, c3, L3, rfl, hd3, hin3, hl3, hp3, hb3⟩
  have HD3 := Lib.hid hd3
  have HI3 := Lib.hid (hin3.in_ (fun b hb => hb.2))
  have HP3 := Lib.hid hp3.in_
  have HL3 := Lib.hid hl3
  have HB3 := Lib.hid hb3
  have HI2 := Lib.hid (HG2.out.later hb3)
  have HP2 := Lib.hid (HG4.out.later hb3)
  have HX3 := Lib.hid ((hb3.block _ hBG).trans HG3.out)
  have hB3 : B < w3.heap.size := by have := hb3.size; omega
  clear hd3 hin3 hb3 hl3 hp3
  obtain ⟨u0, u1, u2, u3, u4, u5, u6, u7, u8, u9, uz⟩ := ten_cell HX3.out
  go_wp2_with fail
  clear u0 u1 u2 u3 u4 u5 u6 u7 u8 u9 uz
  have hbx : Below w3.heap.size w3 (w3.alloc (.cells (turnCells m3 (.slice A3 D.length c3) (.slice none 0 0)) 35)) := bAlloc (Below.refl _ _) _
  refine (sameTurn_posts _ m2 m3 A2 A3 c2 c3 D.length L2 L3 (HI2.out.later hbx) (HI3.out.later hbx) (HD3.out.trans HM1.out.symm) (HMID.out m2 HM1.out) (HP2.out.later hbx) (HP3.out.later hbx) (HL3.out.trans HL2.out.symm) (by rw [← HL2.out, List.length_map]) HSM.out.1 (fun x hx => HSM.out.2 x.d (by rw [← HL2.out]; exact List.mem_map.2 ⟨x, hx, rfl⟩))).mono ?_
  rintro r w4 ⟨rfl, hb4⟩
  have HF := Lib.hid (bThen (bThen (bThen HG1.out HB3.out) hbx) hb4)
  clear hbx hb4
  go_wp2_with fail
  go_ret
  exact ⟨by simp, HF.out⟩
theorem contract (H : Type) (enc : TypeId × Value → H) (W : World) (base : Nat) (args : Array Value) (ds gs : List (DataW H)) (before : List MemPlace)
    (hval0 : ∀ (j : Nat) t v, Tryd.f4.params[j]? = some t → args[j]? = some v → Value.okWide Tryd.prog W .any base t v)
    (hW : DataW.Whole enc Tryd.prog Tryd.f4.params.toList Rows.nodeBeginsSpec.vars false W args.toList ds gs before) (hk : Rows.uptoSmall H (ds ++ gs) = true) (hT : Tabs W) :
    Calls Tryd.prog 4 args W fun e W' => ∃ v, e = .returned v ∧ Rows.nodeBeginsSpec.post enc Tryd.prog Tryd.f4 false true false false W args v W' := by
  have hval : ∀ (j : Nat) t v, Tryd.f4.params[j]? = some t → args[j]? = some v → Value.okWide Tryd.prog W .any base t v := hval0
  have hW' := hW
  obtain ⟨p, q, hA0, hV, rfl, hfz, hnd⟩ := hW
  have hA : DataW.TrodAll enc Tryd.prog W 0 (fun _ => true) true Tryd.f4.params.toList args.toList ds p := hA0
  rw [Tryd.params4] at hA hval
  obtain ⟨rfl, rfl⟩ := trodVars_none hV
  obtain ⟨v0, vs0, d0, ds0, p0, q0, hargs, rfl, rfl, h0, r0⟩ := trodAll_cons hA
  obtain ⟨v1, vs1, d1, ds1, p1, q1, rfl, rfl, rfl, h1, r1⟩ := trodAll_cons r0
  obtain ⟨v2, vs2, d2, ds2, p2, q2, rfl, rfl, rfl, h2, r2⟩ := trodAll_cons r1
  obtain ⟨v3, vs3, d3, ds3, p3, q3, rfl, rfl, rfl, h3, r3⟩ := trodAll_cons r2
  obtain ⟨rfl, rfl, rfl⟩ := trodAll_nil r3
  obtain rfl : args = #[v0, v1, v2, v3] := by cases args; simp_all
  have hbulk := bulk_small hk
  have hb0 := Nat.le_trans (bulk_mem (show d0 ∈ [d0, d1, d2, d3] ++ [] by simp)) hbulk
  have hb1 := Nat.le_trans (bulk_mem (show d1 ∈ [d0, d1, d2, d3] ++ [] by simp)) hbulk
  have hb2 := Nat.le_trans (bulk_mem (show d2 ∈ [d0, d1, d2, d3] ++ [] by simp)) hbulk
  have hb3 := Nat.le_trans (bulk_mem (show d3 ∈ [d0, d1, d2, d3] ++ [] by simp)) hbulk
  obtain ⟨T, N, Nc, zs, rfl, hnc, hcm, hz, _⟩ := sl_ints Tryd.underlying23 Tryd.underlying3 (by kernel_rfl) (hval 0 23 v0 rfl rfl) h0
  have hN : N ≤ 9223372036854775807 := by omega
  obtain ⟨me, rfl, rfl, rfl, _⟩ := open_int Tryd.underlying3 (hval 1 3 v1 rfl rfl) h1
  obtain ⟨births, rfl, rfl, rfl, _⟩ := open_int Tryd.underlying3 (hval 2 3 v2 rfl rfl) h2
  obtain ⟨s, rfl, rfl, rfl, ws⟩ := open_string Tryd.underlying9 (hval 3 9 v3 rfl rfl) h3
  have hs : s.size ≤ 1048576 := by rw [bulk_string, ba_len] at hb3; omega
  refine (walk W T N Nc zs hz hN me births s hT hs).mono fun e W' ⟨he, hg⟩ => ?_
  subst he
  exact ⟨_, rfl, post_law (tb := 4) laidOut (by kernel_rfl) rfl (by kernel_rfl) Tryd.underlying4 rfl hW' hg⟩
theorem reads (os : Os) {H : Type} (enc : TypeId × Value → H) : ∃ places, DataW.whole enc Tryd.prog ((laidWorld os).forCall (fun _ _ => 0) ⟨#[], #[.slice none 0 0, .int .i64 0, .int .i64 0, .string ⟨#[]⟩], []⟩).memory Tryd.f4.params.toList Rows.nodeBeginsSpec.vars false #[.slice none 0 0, .int .i64 0, .int .i64 0, .string ⟨#[]⟩].toList 8 = some ([.nil, .lit (.int .i64 0), .lit (.int .i64 0), .lit (.string [])], [], places) := by
  have hw : (DataW.whole enc Tryd.prog ((laidWorld os).forCall (fun _ _ => 0) ⟨#[], #[.slice none 0 0, .int .i64 0, .int .i64 0, .string ⟨#[]⟩], []⟩).memory Tryd.f4.params.toList Rows.nodeBeginsSpec.vars false #[.slice none 0 0, .int .i64 0, .int .i64 0, .string ⟨#[]⟩].toList 8).map (fun x => (x.1, x.2.1)) = some ([.nil, .lit (.int .i64 0), .lit (.int .i64 0), .lit (.string [])], []) := by kernel_rfl
  obtain ⟨⟨x1, x2, x3⟩, hx, hx1⟩ := Option.map_eq_some_iff.1 hw
  simp only [Prod.mk.injEq] at hx1
  obtain ⟨rfl, rfl⟩ := hx1
  exact ⟨x3, hx⟩
theorem lifted (os : Os) (started : os.Started) (H : Type) (enc : TypeId × Value → H) (F : Stop.Interp) :
    ReturnsInHanded {} Tryd.checked os 4 .any ((Rows.OpenSpec.upto Rows.nodeBeginsSpec).preRow enc Tryd.prog Tryd.f4 Rows.nodeBeginsUptoRow.domain false Rows.nodeBeginsUptoRow.laid) (((Rows.OpenSpec.upto Rows.nodeBeginsSpec).at F).post enc Tryd.prog Tryd.f4 false true false false) := by
  obtain ⟨places, hx⟩ := reads os enc
  refine returnsInHanded_of_row (C := Tryd.checked) (s := Rows.OpenSpec.upto Rows.nodeBeginsSpec) own started (by kernel_rfl) Tryd.func4
    (witness_row_atRef (enc := enc) (C := Tryd.checked) false (laidWorld os) #[.slice none 0 0, .int .i64 0, .int .i64 0, .string ⟨#[]⟩] rfl (by kernel_rfl) (by kernel_rfl) (by kernel_rfl)
      (OpenSpec.preRow_of_cond 8 hx (by kernel_rfl) (fun k hk => by cases hk; kernel_rfl) (by kernel_rfl) (laid_met os _))) ?_
  intro W base args ds gs before hval hW _ hcond _ hL _ _
  exact contract H enc W base args ds gs before hval hW (hcond _ rfl) (tabs_of hL)
theorem said : Rows.NodeBeginsUptoSaid :=
  OpenClaim.holds_of_cond 4 Tryd.f4 rfl rfl rfl rfl rfl rfl rfl ⟨rfl, rfl, rfl, rfl, rfl⟩ rfl rfl rfl rfl rfl (by kernel_rfl) Tryd.func4 (by kernel_rfl)
    (of_decide_eq_true (by kernel_rfl)) (by unfold Func.isWrapper; first | (rw [if_pos (by decide +kernel)]; kernel_rfl) | (rw [if_neg (by decide +kernel)]; exact ⟨rfl, rfl⟩))
    (fun os started H enc _ F => by rw [OpenClaim.pre_eq_preRow]; exact lifted os started H enc F)
theorem plain (f : FuncId) (fn : Func) (hf : Tryd.pinned.checked.prog.funcNamed "wherry/wherrylaw.NodeBegins" = some f) (hfn : Tryd.pinned.checked.prog.funcs[f]? = some fn) :
    false = Tryd.pinned.checked.prog.looks [] ∧ ∀ (j : Nat) t, fn.params[j]? = some t → Tryd.pinned.checked.prog.wantsStandIn t = false := by
  obtain rfl : f = 4 := Option.some.inj ((show Tryd.prog.funcNamed "wherry/wherrylaw.NodeBegins" = some 4 by kernel_rfl).symm.trans hf) |>.symm
  obtain rfl : fn = Tryd.f4 := (Option.some.inj (Tryd.func4.symm.trans hfn)).symm
  refine ⟨by kernel_rfl, fun j t ht => ?_⟩
  have hall : (Tryd.f4.params.toList.all fun u => !Tryd.prog.wantsStandIn u) = true := by kernel_rfl
  have hm : t ∈ Tryd.f4.params.toList := by simpa using Array.mem_of_getElem? ht
  exact (show Tryd.prog.wantsStandIn t = false by simpa using List.all_eq_true.1 hall t hm)
theorem card : Rows.NodeBeginsUptoCardSaid :=
  Claim7.holds_tied_plain_at .later [] _ _ _ _ said (fun _ h => by cases h) (by kernel_rfl) (fun _ h => by cases h) nodeBeginsUpto_row_tie rfl ⟨rfl, rfl⟩ (by kernel_rfl) rfl plain (by kernel_rfl)
end nodeBegins
end Go.Proofs.YtbmdepbmejnlkaaDoor
