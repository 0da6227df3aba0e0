/-
  wherrylaw.EdgeSends returns true for every edge and operation, where what it reads is of bulk at most 1048576, and unicode/utf8's two tables are as their text lays them.
-/
import Derived.Test.YtiooimnlkcpnnaaDoorRows
import Derived.Test.YtiooimnlkcpnnaaDoorDoor
import Derived.Test.YtiooimnlkcpnnaaDoorEdgeOpen
import Derived.Test.YtiooimnlkcpnnaaDoorSendW
namespace Go.Proofs.YtiooimnlkcpnnaaDoor
open Go.ChangeShapes Go.WideShapes Go.ChangeAt Go.RowKit
set_option maxRecDepth 100000
namespace edgeSends
theorem badOp_same {L L1 : List OpV} (h : L1.map OpV.ps = L.map OpV.ps) (i : Nat) : badOp L1 i = badOp L i := by
  have hg : ∀ j : Nat, (L1[j]?).map OpV.ps = (L[j]?).map OpV.ps := fun j => by rw [← List.getElem?_map, ← List.getElem?_map, h]
  have hi := hg i
  unfold badOp
  cases h1 : L1[i]? with
  | none =>
    cases h2 : L[i]? with
    | none => rfl
    | some b => rw [h1, h2] at hi; cases hi
  | some a =>
    cases h2 : L[i]? with
    | none => rw [h1, h2] at hi; cases hi
    | some b =>
      rw [h1, h2] at hi
      have e : a.ps = b.ps := Option.some.inj hi
      simp only [e]
      cases i with
      | zero => rfl
      | succ j =>
        have hj := hg j
        cases h3 : L1[j]? with
        | none =>
          cases h4 : L[j]? with
          | none => simp only [h3, h4]
          | some d => rw [h3, h4] at hj; cases hj
        | some c =>
          cases h4 : L[j]? with
          | none => rw [h3, h4] at hj; cases hj
          | some d =>
            rw [h3, h4] at hj
            have e2 : c.ps = d.ps := Option.some.inj hj
            simp only [h3, h4, e2]
theorem sendErr_same {s h : Int} {L L1 : List OpV} {ps : List PartD} (hp : L1.map OpV.ps = L.map OpV.ps) : sendErr s h L1 ps = sendErr s h L ps := by
  have hl : L1.length = L.length := by rw [← List.length_map (f := OpV.ps), hp, List.length_map]
  have hm : edgeMay s h L1 = edgeMay s h L := by
    unfold edgeMay
    simp only [hl, badOp_same hp]
  have hb : badLast L1 ps = badLast L ps := by
    have h1 : (L1.getLast?).map OpV.ps = (L.getLast?).map OpV.ps := by rw [← List.getLast?_map, ← List.getLast?_map, hp]
    unfold badLast
    cases h2 : L1.getLast? with
    | none =>
      cases h3 : L.getLast? with
      | none => rfl
      | some b => rw [h2, h3] at h1; cases h1
    | some a =>
      cases h3 : L.getLast? with
      | none => rw [h2, h3] at h1; cases h1
      | some b =>
        rw [h2, h3] at h1
        have e : a.ps = b.ps := Option.some.inj h1
        simp only [e]
  unfold sendErr
  simp only [hm, hb]
theorem as_of {W : World} {s h : Int} {L L1 : List OpV} {ps : List PartD} {er : Int} (hp : L1.map OpV.ps = L.map OpV.ps) {e : Ending} {w' : World} (k : RetSent W s h L1 ps er e w') :
    SentAs W (if er = 0 then s + 1 else 0) (if er = 0 then h else 0) (if er = 0 then L.map OpV.ps ++ [ps] else []) er e w' := by
  by_cases h0 : er = 0
  · subst h0
    obtain ⟨A', c', L', rfl, hl, ho, hb⟩ := k.2 rfl
    exact ⟨A', c', L', rfl, by rw [hl, hp]; rfl, ho, hb⟩
  · rw [if_neg h0, if_neg h0, if_neg h0]
    obtain ⟨rfl, hb⟩ := k.1 h0
    exact ⟨none, 0, [], rfl, rfl, OpsOwn.nil _ _, hb⟩
theorem walk (w : World) (s h : Int) (A : Option Addr) (c : Nat) (L : List OpV) (hT : Tabs w) (hs : OpsIn w A L) (hm : ∀ o ∈ L, o.Small) (hll : L.length ≤ 1048576) (B : Option Addr) (cc : Nat) (ps : List PartD) (hop : OpIn (· < w.heap.size) w B ps) (hpl : ps.length ≤ 1048576) (htt : ∀ p ∈ ps, p.text.size ≤ 1048576) :
    Calls Tryd.prog 6 #[edgeV s h A L.length c, .slice B ps.length cc] w fun e w' => e = .returned (.bool true) ∧ Below w.heap.size w w' := by
  refine walk_of w s h A c L hT hs hm hll B cc ps hop hpl (if sendErr s h L ps = 0 then s + 1 else 0) (if sendErr s h L ps = 0 then h else 0) (sendErr s h L ps) (if sendErr s h L ps = 0 then L.map OpV.ps ++ [ps] else []) ?_ ?_ ?_ ?_
  · split
    · simp; omega
    · simp
  · intro q hq
    split at hq
    · rcases List.mem_append.1 hq with hq | hq
      · obtain ⟨o, ho, rfl⟩ := List.mem_map.1 hq
        exact (hm o ho).len
      · obtain rfl : q = ps := by simpa using hq
        exact hpl
    · cases hq
  · intro W A1 c1 L1 B1 cc1 hT hs1 hp hop1
    have hsm : ∀ o ∈ L1, o.Small := fun o ho => by
      have hmem : o.ps ∈ L.map OpV.ps := hp ▸ List.mem_map_of_mem ho
      obtain ⟨q, hq, e⟩ := List.mem_map.1 hmem
      exact ⟨e ▸ (hm q hq).len, fun p hpp => (hm q hq).text p (e ▸ hpp)⟩
    have hl : L1.length = L.length := by rw [← List.length_map (f := OpV.ps), hp, List.length_map]
    refine (Send_c W s h A1 c1 L1 hT hs1 hsm (by omega) B1 cc1 ps hop1 hpl htt).mono ?_
    intro e w' k
    rw [sendErr_same hp] at k
    exact as_of hp k
  · intro W hT hs1 hop1
    exact (SentOf_c W s h A c L hT hs1 hm hll B cc ps hop1 hpl htt).mono fun e w' k => as_of rfl k
theorem contract (H : Type) (enc : TypeId × Value → H) (W : World) (base : Nat) (args : Array Value) (ds gs : List (DataW H)) (before : List MemPlace)
    (hval0 : ∀ (j : Nat) t v, Tryd.f6.params[j]? = some t → args[j]? = some v → Value.okWide Tryd.prog W .any base t v)
    (hW : DataW.Whole enc Tryd.prog Tryd.f6.params.toList Rows.edgeSendsSpec.vars false W args.toList ds gs before) (hk : Rows.uptoSmall H (ds ++ gs) = true) (hT : Tabs W) :
    Calls Tryd.prog 6 args W fun e W' => ∃ v, e = .returned v ∧ Rows.edgeSendsSpec.post enc Tryd.prog Tryd.f6 false true false false W args v W' := by
  have hval : ∀ (j : Nat) t v, Tryd.f6.params[j]? = some t → args[j]? = some v → Value.okWide Tryd.prog W .any base t v := hval0
  have hW' := hW
  obtain ⟨p, q, hA0, hV, rfl, hfz, hnd⟩ := hW
  have hA : DataW.TrodAll enc Tryd.prog W 0 (fun _ => true) true Tryd.f6.params.toList args.toList ds p := hA0
  rw [Tryd.params6] at hA hval
  obtain ⟨rfl, rfl⟩ := trodVars_none hV
  obtain ⟨v0, vs0, d0, ds0, p0, q0, hargs, rfl, rfl, h0, r0⟩ := trodAll_cons hA
  obtain ⟨v1, vs1, d1, ds1, p1, q1, rfl, rfl, rfl, h1, r1⟩ := trodAll_cons r0
  obtain ⟨rfl, rfl, rfl⟩ := trodAll_nil r1
  obtain rfl : args = #[v0, v1] := by cases args; simp_all
  have hbulk := bulk_small hk
  have hb0 := Nat.le_trans (bulk_mem (show d0 ∈ [d0, d1] ++ [] by simp)) hbulk
  have hb1 := Nat.le_trans (bulk_mem (show d1 ∈ [d0, d1] ++ [] by simp)) hbulk
  obtain ⟨cs, rfl, _⟩ := okWide_struct Tryd.underlying43 (hval 0 43 v0 rfl rfl)
  obtain ⟨m, hm⟩ := h0
  obtain ⟨s, h, A, c, L, hv, _, _, _, _, hs, hll, hfit⟩ := open_edge hm hb0
  obtain ⟨A0, n0, c0, rfl⟩ := okWide_slice Tryd.underlying23 (hval 1 23 v1 rfl rfl)
  obtain ⟨m1, hm1⟩ := h1
  obtain ⟨B, cc, ps, hv1, _, _, hop, hpl, ht⟩ := open_op Tryd.underlying23 hm1 hb1
  obtain ⟨l⟩ := cs
  obtain rfl : l = _ := hv
  rw [hv1] at hW' ⊢
  refine (walk W s h A c L hT hs (fun o ho => (hfit o ho).small) hll B cc ps hop (Nat.le_trans hpl hb1) (fun p hp => (ht p hp).text)).mono fun e W' ⟨he, hg⟩ => ?_
  subst he
  exact ⟨_, rfl, post_law (tb := 4) laidOut (by kernel_rfl) rfl (by kernel_rfl) Tryd.underlying4 rfl hW' hg⟩
theorem reads (os : Os) {H : Type} (enc : TypeId × Value → H) : ∃ places, DataW.whole enc Tryd.prog ((laidWorld os).forCall (fun _ _ => 0) ⟨#[], #[.agg #[.int .i64 0, .int .i64 0, .slice none 0 0], .slice none 0 0], []⟩).memory Tryd.f6.params.toList Rows.edgeSendsSpec.vars false #[.agg #[.int .i64 0, .int .i64 0, .slice none 0 0], .slice none 0 0].toList 8 = some ([.agg [.lit (.int .i64 0), .lit (.int .i64 0), .nil], .nil], [], places) := by
  have hw : (DataW.whole enc Tryd.prog ((laidWorld os).forCall (fun _ _ => 0) ⟨#[], #[.agg #[.int .i64 0, .int .i64 0, .slice none 0 0], .slice none 0 0], []⟩).memory Tryd.f6.params.toList Rows.edgeSendsSpec.vars false #[.agg #[.int .i64 0, .int .i64 0, .slice none 0 0], .slice none 0 0].toList 8).map (fun x => (x.1, x.2.1)) = some ([.agg [.lit (.int .i64 0), .lit (.int .i64 0), .nil], .nil], []) := by kernel_rfl
  obtain ⟨⟨x1, x2, x3⟩, hx, hx1⟩ := Option.map_eq_some_iff.1 hw
  simp only [Prod.mk.injEq] at hx1
  obtain ⟨rfl, rfl⟩ := hx1
  exact ⟨x3, hx⟩
theorem lifted (os : Os) (started : os.Started) (H : Type) (enc : TypeId × Value → H) (F : Stop.Interp) :
    ReturnsInHanded {} Tryd.checked os 6 .any ((Rows.OpenSpec.upto Rows.edgeSendsSpec).preRow enc Tryd.prog Tryd.f6 Rows.edgeSendsUptoRow.domain false Rows.edgeSendsUptoRow.laid) (((Rows.OpenSpec.upto Rows.edgeSendsSpec).at F).post enc Tryd.prog Tryd.f6 false true false false) := by
  obtain ⟨places, hx⟩ := reads os enc
  refine returnsInHanded_of_row (C := Tryd.checked) (s := Rows.OpenSpec.upto Rows.edgeSendsSpec) own started (by kernel_rfl) Tryd.func6
    (witness_row_atRef (enc := enc) (C := Tryd.checked) false (laidWorld os) #[.agg #[.int .i64 0, .int .i64 0, .slice none 0 0], .slice none 0 0] rfl (by kernel_rfl) (by kernel_rfl) (by kernel_rfl)
      (OpenSpec.preRow_of_cond 8 hx (by kernel_rfl) (fun k hk => by cases hk; kernel_rfl) (by kernel_rfl) (laid_met os _))) ?_
  intro W base args ds gs before hval hW _ hcond _ hL _ _
  exact contract H enc W base args ds gs before hval hW (hcond _ rfl) (tabs_of hL)
theorem said : Rows.EdgeSendsUptoSaid :=
  OpenClaim.holds_of_cond 6 Tryd.f6 rfl rfl rfl rfl rfl rfl rfl ⟨rfl, rfl, rfl, rfl, rfl⟩ rfl rfl rfl rfl rfl (by kernel_rfl) Tryd.func6 (by kernel_rfl)
    (of_decide_eq_true (by kernel_rfl)) (by unfold Func.isWrapper; first | (rw [if_pos (by decide +kernel)]; kernel_rfl) | (rw [if_neg (by decide +kernel)]; exact ⟨rfl, rfl⟩))
    (fun os started H enc _ F => by rw [OpenClaim.pre_eq_preRow]; exact lifted os started H enc F)
theorem plain (f : FuncId) (fn : Func) (hf : Tryd.pinned.checked.prog.funcNamed "wherry/wherrylaw.EdgeSends" = some f) (hfn : Tryd.pinned.checked.prog.funcs[f]? = some fn) :
    false = Tryd.pinned.checked.prog.looks [] ∧ ∀ (j : Nat) t, fn.params[j]? = some t → Tryd.pinned.checked.prog.wantsStandIn t = false := by
  obtain rfl : f = 6 := Option.some.inj ((show Tryd.prog.funcNamed "wherry/wherrylaw.EdgeSends" = some 6 by kernel_rfl).symm.trans hf) |>.symm
  obtain rfl : fn = Tryd.f6 := (Option.some.inj (Tryd.func6.symm.trans hfn)).symm
  refine ⟨by kernel_rfl, fun j t ht => ?_⟩
  have hall : (Tryd.f6.params.toList.all fun u => !Tryd.prog.wantsStandIn u) = true := by kernel_rfl
  have hm : t ∈ Tryd.f6.params.toList := by simpa using Array.mem_of_getElem? ht
  exact (show Tryd.prog.wantsStandIn t = false by simpa using List.all_eq_true.1 hall t hm)
theorem card : Rows.EdgeSendsUptoCardSaid :=
  Claim7.holds_tied_plain_at .later [] _ _ _ _ said (fun _ h => by cases h) (by kernel_rfl) (fun _ h => by cases h) edgeSendsUpto_row_tie rfl ⟨rfl, rfl⟩ (by kernel_rfl) rfl plain (by kernel_rfl)
end edgeSends
end Go.Proofs.YtiooimnlkcpnnaaDoor
