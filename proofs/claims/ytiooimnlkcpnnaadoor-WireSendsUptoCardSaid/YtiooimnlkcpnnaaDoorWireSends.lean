/-
  wherrylaw.WireSends returns true for every packet, where what it reads is of bulk at most 1048576, and unicode/utf8's two tables are as their text lays them.
-/
import Derived.Test.YtiooimnlkcpnnaaDoorRows
import Derived.Test.YtiooimnlkcpnnaaDoorDoor
import Derived.Test.YtiooimnlkcpnnaaDoorWirePackets
import Derived.Test.YtiooimnlkcpnnaaDoorPBytes
namespace Go.Proofs.YtiooimnlkcpnnaaDoor
open Go.ChangeShapes Go.WideShapes Go.ChangeAt Go.RowKit
set_option maxRecDepth 100000
theorem PacketBytes_c (w : World) (ep nu : Int) (b : Bool) (ak k h e : Int) (A : Option Addr) (c : Nat) (ps : List PartD) (s : ByteArray) (hT : Tabs w) (hs : OpIn (· < w.heap.size) w A ps) (hm : ps.length ≤ 1048576) (ht : ∀ p ∈ ps, p.text.size ≤ 1048576) (hst : s.size ≤ 1048576) :
    Calls Tryd.prog 35 #[packetV ep nu b ak k h e A ps.length c s] w (RetBytesE w (if packetFault ⟨ep, nu, b, ak, ⟨k, h, e, ps, s⟩⟩ = 0 then packetL ep nu b ak k h e ps s else []) (packetFault ⟨ep, nu, b, ak, ⟨k, h, e, ps, s⟩⟩)) := by
  by_cases hf : packetFault ⟨ep, nu, b, ak, ⟨k, h, e, ps, s⟩⟩ = 0
  · have hC : Hid (∀ W, Below w.heap.size w W → Calls Tryd.prog 89 #[packetV ep nu b ak k h e A ps.length c s] W fun r w' => r = .returned (.int .i64 0) ∧ Below W.heap.size W w') := by
      have := fun W (hb : Below w.heap.size w W) => PacketFault_c W ep nu b ak k h e A c ps s (hT.later hb) (Sl.later hs hb) hm ht hst
      rw [hf] at this
      exact this
    rw [if_pos hf, hf]
    obtain ⟨⟨q1, q2⟩, ⟨q5, q6⟩, ⟨q3, q4⟩, qb, qf⟩ := packet_facts hf
    unfold packetL
    cases b with
    | true =>
      obtain ⟨rfl, hk, hh, he, hp, _⟩ := qb rfl
      dsimp only at hk hh he hp
      subst hk hh he hp
      rw [if_pos rfl, List.append_nil]
      exact PacketBytes_0 w ep 0 true ak 0 0 A c [] s q1 q2 q3 q4 (by omega) (by omega) (by omega) (by omega) (by omega) (by omega) (by simp) (by simp) hst hs hC
    | false =>
      obtain ⟨_, hff⟩ := qf rfl
      obtain ⟨⟨k0, k1⟩, ⟨h0, h1⟩, ⟨e0, e1⟩, hop, _, _⟩ := frame_facts hff
      rw [if_neg (by decide)]
      unfold frameL
      obtain rfl | rfl | rfl : k = 1 ∨ k = 2 ∨ k = 3 := by omega
      · exact PacketBytes_1 w ep nu false ak h e A c ps s q1 q2 q3 q4 q5 q6 h0 h1 e0 e1 (opFault_zero hop).1 (writ_of hop ht) hst hs hC
      · exact PacketBytes_2 w ep nu false ak h e A c ps s q1 q2 q3 q4 q5 q6 h0 h1 e0 e1 (opFault_zero hop).1 (writ_of hop ht) hst hs hC
      · exact PacketBytes_3 w ep nu false ak h e A c ps s q1 q2 q3 q4 q5 q6 h0 h1 e0 e1 (opFault_zero hop).1 (writ_of hop ht) hst hs hC
  · rw [if_neg hf]
    exact PacketBytes_no w ep nu b ak k h e A c ps s hT hs hm ht hst hf
namespace wireSends
theorem convStr {W : World} {A : Option Addr} {n c : Nat} {bs : List UInt8} (h : Sl (· < W.heap.size) W 1 A n (bs.map byteV)) : (convert 59 9 (.slice A n c)).run Tryd.prog W = .ok (.string ⟨bs.toArray⟩) W :=
  run_str_of_sl W Tryd.underlying59 Tryd.underlying5 Tryd.underlying9 h
theorem walk (w : World) (ep nu : Int) (b : Bool) (ak k h e : Int) (A : Option Addr) (c : Nat) (ps : List PartD) (s : ByteArray) (hT : Tabs w) (hs : OpIn (· < w.heap.size) w A ps) (hm : ps.length ≤ 1048576) (ht : ∀ p ∈ ps, p.Fit) (hst : s.size ≤ 1048576) :
    Calls Tryd.prog 8 #[packetV ep nu b ak k h e A ps.length c s] w fun e w' => e = .returned (.bool true) ∧ Below w.heap.size w w' := by
  have H1 := Lib.hid (fun W hT hs => EncodePacket_c W ep nu b ak k h e A c ps s hT hs hm (fun p hp => (ht p hp).text) hst)
  have H2 := Lib.hid (fun W hT hs => PacketBytes_c W ep nu b ak k h e A c ps s hT hs hm (fun p hp => (ht p hp).text) hst)
  have HT := Lib.hid hT
  clear ht hT
  generalize (if packetFault ⟨ep, nu, b, ak, ⟨k, h, e, ps, s⟩⟩ = 0 then packetL ep nu b ak k h e ps s else []) = bs at *
  generalize packetFault ⟨ep, nu, b, ak, ⟨k, h, e, ps, s⟩⟩ = er at *
  go_enter Tryd.func8, Tryd.ntmps8
  go_wp2_with fail
  refine (H1.out _ (HT.out.later (by repeat (first | exact Below.refl _ _ | apply bGrow | apply bAlloc | apply Below.drew | apply bDrewN | apply bIter))) (Sl.later hs (by repeat (first | exact Below.refl _ _ | apply bGrow | apply bAlloc | apply Below.drew | apply bDrewN | apply bIter)))).mono ?_
  rintro r w1 ⟨A1, c1, rfl, ho1, hb1⟩
  have x0 := box_at hb1 0
  have x1 := box_at hb1 1
  have x2 := box_at hb1 2
  have x3 := box_at hb1 3
  have x4 := box_at hb1 4
  have x5 := box_at hb1 5
  have x6 := box_at hb1 6
  have x7 := box_at hb1 7
  have x8 := box_at hb1 8
  simp at x0 x1 x2 x3 x4 x5 x6 x7 x8
  have HB := Lib.hid (box_below hb1)
  have HO1 := Lib.hid (own_sl ho1)
  clear hb1 ho1
  go_wp2_with fail
  refine (H2.out _ (HT.out.later HB.out) (Sl.later hs HB.out)).mono ?_
  rintro r w2 ⟨A2, c2, rfl, ho2, hb2⟩
  have hc1 := convStr (c := c1) (Sl.later HO1.out hb2)
  have hc2 := convStr (c := c2) (own_sl ho2)
  go_wp2_with fail
  go_ret
  exact ⟨by simp, bThen HB.out hb2⟩
theorem contract (H : Type) (enc : TypeId × Value → H) (W : World) (base : Nat) (args : Array Value) (ds gs : List (DataW H)) (before : List MemPlace)
    (hval0 : ∀ (j : Nat) t v, Tryd.f8.params[j]? = some t → args[j]? = some v → Value.okWide Tryd.prog W .any base t v)
    (hW : DataW.Whole enc Tryd.prog Tryd.f8.params.toList Rows.wireSendsSpec.vars false W args.toList ds gs before) (hk : Rows.uptoSmall H (ds ++ gs) = true) (hT : Tabs W) :
    Calls Tryd.prog 8 args W fun e W' => ∃ v, e = .returned v ∧ Rows.wireSendsSpec.post enc Tryd.prog Tryd.f8 false true false false W args v W' := by
  have hval : ∀ (j : Nat) t v, Tryd.f8.params[j]? = some t → args[j]? = some v → Value.okWide Tryd.prog W .any base t v := hval0
  have hW' := hW
  obtain ⟨p, q, hA0, hV, rfl, hfz, hnd⟩ := hW
  have hA : DataW.TrodAll enc Tryd.prog W 0 (fun _ => true) true Tryd.f8.params.toList args.toList ds p := hA0
  rw [Tryd.params8] at hA hval
  obtain ⟨rfl, rfl⟩ := trodVars_none hV
  obtain ⟨v0, vs0, d0, ds0, p0, q0, hargs, rfl, rfl, h0, r0⟩ := trodAll_cons hA
  obtain ⟨rfl, rfl, rfl⟩ := trodAll_nil r0
  obtain rfl : args = #[v0] := by cases args; simp_all
  have hbulk := bulk_small hk
  have hb0 := Nat.le_trans (bulk_mem (show d0 ∈ [d0] ++ [] by simp)) hbulk
  obtain ⟨cs, rfl, _⟩ := okWide_struct Tryd.underlying58 (hval 0 58 v0 rfl rfl)
  obtain ⟨m, hm⟩ := h0
  obtain ⟨ep, nu, b, ak, k, h, e, A, c, ps, s, hv, ⟨_, _, hs, hpl, ht⟩, hst⟩ := open_packet hm hb0
  obtain ⟨l⟩ := cs
  obtain rfl : l = _ := hv
  refine (walk W ep nu b ak k h e A c ps s hT hs hpl ht hst).mono fun e W' ⟨he, hg⟩ => ?_
  subst he
  exact ⟨_, rfl, post_law (tb := 4) laidOut (by kernel_rfl) rfl (by kernel_rfl) Tryd.underlying4 rfl hW' hg⟩
theorem reads (os : Os) {H : Type} (enc : TypeId × Value → H) : ∃ places, DataW.whole enc Tryd.prog ((laidWorld os).forCall (fun _ _ => 0) ⟨#[], #[.agg #[.int .i64 0, .int .i64 0, .bool false, .int .i64 0, .int .i64 0, .int .i64 0, .int .i64 0, .slice none 0 0, .string ⟨#[]⟩]], []⟩).memory Tryd.f8.params.toList Rows.wireSendsSpec.vars false #[.agg #[.int .i64 0, .int .i64 0, .bool false, .int .i64 0, .int .i64 0, .int .i64 0, .int .i64 0, .slice none 0 0, .string ⟨#[]⟩]].toList 8 = some ([.agg [.lit (.int .i64 0), .lit (.int .i64 0), .lit (.bool false), .lit (.int .i64 0), .agg [.lit (.int .i64 0), .lit (.int .i64 0), .lit (.int .i64 0), .nil, .lit (.string [])]]], [], places) := by
  have hw : (DataW.whole enc Tryd.prog ((laidWorld os).forCall (fun _ _ => 0) ⟨#[], #[.agg #[.int .i64 0, .int .i64 0, .bool false, .int .i64 0, .int .i64 0, .int .i64 0, .int .i64 0, .slice none 0 0, .string ⟨#[]⟩]], []⟩).memory Tryd.f8.params.toList Rows.wireSendsSpec.vars false #[.agg #[.int .i64 0, .int .i64 0, .bool false, .int .i64 0, .int .i64 0, .int .i64 0, .int .i64 0, .slice none 0 0, .string ⟨#[]⟩]].toList 8).map (fun x => (x.1, x.2.1)) = some ([.agg [.lit (.int .i64 0), .lit (.int .i64 0), .lit (.bool false), .lit (.int .i64 0), .agg [.lit (.int .i64 0), .lit (.int .i64 0), .lit (.int .i64 0), .nil, .lit (.string [])]]], []) := by kernel_rfl
  obtain ⟨⟨x1, x2, x3⟩, hx, hx1⟩ := Option.map_eq_some_iff.1 hw
  simp only [Prod.mk.injEq] at hx1
  obtain ⟨rfl, rfl⟩ := hx1
  exact ⟨x3, hx⟩
theorem lifted (os : Os) (started : os.Started) (H : Type) (enc : TypeId × Value → H) (F : Stop.Interp) :
    ReturnsInHanded {} Tryd.checked os 8 .any ((Rows.OpenSpec.upto Rows.wireSendsSpec).preRow enc Tryd.prog Tryd.f8 Rows.wireSendsUptoRow.domain false Rows.wireSendsUptoRow.laid) (((Rows.OpenSpec.upto Rows.wireSendsSpec).at F).post enc Tryd.prog Tryd.f8 false true false false) := by
  obtain ⟨places, hx⟩ := reads os enc
  refine returnsInHanded_of_row (C := Tryd.checked) (s := Rows.OpenSpec.upto Rows.wireSendsSpec) own started (by kernel_rfl) Tryd.func8
    (witness_row_atRef (enc := enc) (C := Tryd.checked) false (laidWorld os) #[.agg #[.int .i64 0, .int .i64 0, .bool false, .int .i64 0, .int .i64 0, .int .i64 0, .int .i64 0, .slice none 0 0, .string ⟨#[]⟩]] rfl (by kernel_rfl) (by kernel_rfl) (by kernel_rfl)
      (OpenSpec.preRow_of_cond 8 hx (by kernel_rfl) (fun k hk => by cases hk; kernel_rfl) (by kernel_rfl) (laid_met os _))) ?_
  intro W base args ds gs before hval hW _ hcond _ hL _ _
  exact contract H enc W base args ds gs before hval hW (hcond _ rfl) (tabs_of hL)
theorem said : Rows.WireSendsUptoSaid :=
  OpenClaim.holds_of_cond 8 Tryd.f8 rfl rfl rfl rfl rfl rfl rfl ⟨rfl, rfl, rfl, rfl, rfl⟩ rfl rfl rfl rfl rfl (by kernel_rfl) Tryd.func8 (by kernel_rfl)
    (of_decide_eq_true (by kernel_rfl)) (by unfold Func.isWrapper; first | (rw [if_pos (by decide +kernel)]; kernel_rfl) | (rw [if_neg (by decide +kernel)]; exact ⟨rfl, rfl⟩))
    (fun os started H enc _ F => by rw [OpenClaim.pre_eq_preRow]; exact lifted os started H enc F)
theorem plain (f : FuncId) (fn : Func) (hf : Tryd.pinned.checked.prog.funcNamed "wherry/wherrylaw.WireSends" = some f) (hfn : Tryd.pinned.checked.prog.funcs[f]? = some fn) :
    false = Tryd.pinned.checked.prog.looks [] ∧ ∀ (j : Nat) t, fn.params[j]? = some t → Tryd.pinned.checked.prog.wantsStandIn t = false := by
  obtain rfl : f = 8 := Option.some.inj ((show Tryd.prog.funcNamed "wherry/wherrylaw.WireSends" = some 8 by kernel_rfl).symm.trans hf) |>.symm
  obtain rfl : fn = Tryd.f8 := (Option.some.inj (Tryd.func8.symm.trans hfn)).symm
  refine ⟨by kernel_rfl, fun j t ht => ?_⟩
  have hall : (Tryd.f8.params.toList.all fun u => !Tryd.prog.wantsStandIn u) = true := by kernel_rfl
  have hm : t ∈ Tryd.f8.params.toList := by simpa using Array.mem_of_getElem? ht
  exact (show Tryd.prog.wantsStandIn t = false by simpa using List.all_eq_true.1 hall t hm)
theorem card : Rows.WireSendsUptoCardSaid :=
  Claim7.holds_tied_plain_at .later [] _ _ _ _ said (fun _ h => by cases h) (by kernel_rfl) (fun _ h => by cases h) wireSendsUpto_row_tie rfl ⟨rfl, rfl⟩ (by kernel_rfl) rfl plain (by kernel_rfl)
end wireSends
end Go.Proofs.YtiooimnlkcpnnaaDoor
