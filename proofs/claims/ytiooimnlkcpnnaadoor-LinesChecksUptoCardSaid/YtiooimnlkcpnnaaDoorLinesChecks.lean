/-
  wherrylaw.LinesChecks returns true for every tree and act, where what it reads is of bulk at most 1048576, and unicode/utf8's two tables are as their text lays them.
-/
import Derived.Test.YtiooimnlkcpnnaaDoorRows
import Derived.Test.YtiooimnlkcpnnaaDoorDoor
import Derived.Test.YtiooimnlkcpnnaaDoorActsB
import Derived.Test.YtiooimnlkcpnnaaDoorActsR
import Derived.Test.YtiooimnlkcpnnaaDoorOpenB
namespace Go.Proofs.YtiooimnlkcpnnaaDoor
open Go.ChangeShapes Go.WideShapes Go.ChangeAt Go.RowKit Go.Joins Go.Deep
set_option maxRecDepth 100000
theorem tree_len {zs : List Int} (h : treeFault zs = 0) : 1 ≤ zs.length ∧ zs.length ≤ 7 := by
  rcases Classical.em (zs.length < 1 ∨ 7 < zs.length) with q | q
  · rw [treeFault_size q] at h
    cases h
  · omega
theorem Lines_c (w : World) (T : Option Addr) (N Nc : Nat) (zs : List Int) (hz : Sl (· < w.heap.size) w 1 T N (zs.map (Value.int .i64))) (hN : N ≤ 9223372036854775807) (a : ActN) (A : Option Addr) (c : Nat) (ps : List PartD) (hT : Tabs w) (hs : OpIn (· < w.heap.size) w A ps) (hm : ps.length ≤ 1048576) (ht : ∀ p ∈ ps, p.text.size ≤ 1048576) :
    Calls Tryd.prog 21 #[.slice T N Nc, actV a A ps.length c] w fun r w' => r = .returned (.int .i64 (actFault zs a ps)) ∧ Below w.heap.size w w' := by
  have hl : zs.length = N := by have := hz.1; simpa using this
  have HC := fun W (hb : Below w.heap.size w W) => CheckTree_c W T N Nc zs (Sl.later hz hb) hN
  have HO := fun W hT hs => Check_c W A c ps hT hs hm ht
  unfold actFault
  by_cases h0 : treeFault zs = 0
  · rw [h0] at HC
    rw [if_neg (fun q => q h0)]
    have h17 := tree_len h0
    by_cases h1 : a.k < 1 ∨ 9 < a.k
    · rw [if_pos h1]
      exact Lines_kind w T N Nc a A c ps h1 HC
    · rw [if_neg h1]
      by_cases h2 : actNums zs.length a
      · rw [if_neg (fun q => q h2)]
        rw [hl] at h2 h17
        by_cases h3 : opFault ps = 0
        · rw [if_neg (fun q => q h3)]
          rw [h3] at HO
          exact Lines_bare w T N Nc a A c ps (by omega) (by omega) h17 h2 hT hs HO HC
        · rw [if_pos h3]
          exact Lines_op w T N Nc a A c ps (by omega) (by omega) h17 h2 hT hs _ (by simpa using h3) HO HC
      · rw [if_pos h2]
        rw [hl] at h2
        exact Lines_nums w T N Nc a A c ps (by omega) (by omega) h2 HC
  · rw [if_pos h0]
    exact Lines_tree w T N Nc a A c ps _ (by simpa using h0) HC
theorem Act_bare (w : World) (T : Option Addr) (N Nc : Nat) (a : ActN) (A : Option Addr) (m c : Nat) (h1 : 1 ≤ a.k) (h2 : a.k ≤ 9) (hN : 1 ≤ N ∧ N ≤ 7) (hn : actNums N a)
    (HO : Hid (∀ W, Below w.heap.size w W → Calls Tryd.prog 68 #[.slice A m c] W fun e w' => e = .returned (.int .i64 0) ∧ Below W.heap.size W w')) (HC : Hid (∀ W, Below w.heap.size w W → Calls Tryd.prog 74 #[.slice T N Nc] W fun e w' => e = .returned (.int .i64 0) ∧ W = w')) :
    Calls Tryd.prog 22 #[.slice T N Nc, actV a A m c] w fun r w' => r = .returned (.int .i64 (if bareOk a m then 0 else 4)) ∧ Below w.heap.size w w' := by
  obtain ⟨⟨b0, d0⟩, ⟨b1, d1⟩, ⟨b2, c2⟩, ⟨b3, c3⟩, ⟨b4, c4⟩, ⟨b5, c5⟩⟩ := hn
  obtain ⟨k, n, tt, pick, keep, an, hd⟩ := a
  try dsimp only at *
  have hk : k = 1 ∨ k = 2 ∨ k = 3 ∨ k = 4 ∨ k = 5 ∨ k = 6 ∨ k = 7 ∨ k = 8 ∨ k = 9 := by omega
  rcases hk with rfl | rfl | rfl | rfl | rfl | rfl | rfl | rfl | rfl
  · exact Act_b1 w T N Nc n tt pick keep an hd A m c b0 (by omega) b1 (by omega) b2 c2 b3 c3 b4 c4 b5 c5 hN HO HC
  · exact Act_b2 w T N Nc n tt pick keep an hd A m c b0 (by omega) b1 (by omega) b2 c2 b3 c3 b4 c4 b5 c5 hN HO HC
  · exact Act_b3 w T N Nc n tt pick keep an hd A m c b0 (by omega) b1 (by omega) b2 c2 b3 c3 b4 c4 b5 c5 hN HO HC
  · exact Act_b4 w T N Nc n tt pick keep an hd A m c b0 (by omega) b1 (by omega) b2 c2 b3 c3 b4 c4 b5 c5 hN HO HC
  · exact Act_b5 w T N Nc n tt pick keep an hd A m c b0 (by omega) b1 (by omega) b2 c2 b3 c3 b4 c4 b5 c5 hN HO HC
  · exact Act_b6 w T N Nc n tt pick keep an hd A m c b0 (by omega) b1 (by omega) b2 c2 b3 c3 b4 c4 b5 c5 hN HO HC
  · exact Act_b7 w T N Nc n tt pick keep an hd A m c b0 (by omega) b1 (by omega) b2 c2 b3 c3 b4 c4 b5 c5 hN HO HC
  · exact Act_b8 w T N Nc n tt pick keep an hd A m c b0 (by omega) b1 (by omega) b2 c2 b3 c3 b4 c4 b5 c5 hN HO HC
  · exact Act_b9 w T N Nc n tt pick keep an hd A m c b0 (by omega) b1 (by omega) b2 c2 b3 c3 b4 c4 b5 c5 hN HO HC
theorem Act_c (w : World) (T : Option Addr) (N Nc : Nat) (zs : List Int) (hz : Sl (· < w.heap.size) w 1 T N (zs.map (Value.int .i64))) (hN : N ≤ 9223372036854775807) (a : ActN) (A : Option Addr) (c : Nat) (ps : List PartD) (hT : Tabs w) (hs : OpIn (· < w.heap.size) w A ps) (hm : ps.length ≤ 1048576) (ht : ∀ p ∈ ps, p.text.size ≤ 1048576) :
    Calls Tryd.prog 22 #[.slice T N Nc, actV a A ps.length c] w fun r w' => r = .returned (.int .i64 (actFault zs a ps)) ∧ Below w.heap.size w w' := by
  have hl : zs.length = N := by have := hz.1; simpa using this
  have HC := fun W (hb : Below w.heap.size w W) => TreeFault_c W T N Nc zs (Sl.later hz hb) hN
  have HO := fun W hT hs => OpFault_c W A c ps hT hs hm ht
  unfold actFault
  by_cases h0 : treeFault zs = 0
  · rw [h0] at HC
    rw [if_neg (fun q => q h0)]
    have h17 := tree_len h0
    rw [hl] at h17
    by_cases h1 : a.k < 1 ∨ 9 < a.k
    · rw [if_pos h1]
      exact Act_kind w T N Nc a A c ps h1 HC
    · rw [if_neg h1]
      by_cases h2 : actNums zs.length a
      · rw [if_neg (fun q => q h2)]
        rw [hl] at h2
        by_cases h3 : opFault ps = 0
        · rw [if_neg (fun q => q h3)]
          rw [h3] at HO
          exact Act_bare w T N Nc a A _ c (by omega) (by omega) h17 h2 (fun W hb => HO W (hT.later hb) (Sl.later hs hb)) HC
        · rw [if_pos h3]
          exact Act_op w T N Nc a A c ps (by omega) (by omega) h17 h2 hT hs _ (by simpa using h3) HO HC
      · rw [if_pos h2]
        rw [hl] at h2
        by_cases q0 : a.n < 0 ∨ (N : Int) - 1 < a.n
        · exact Act_n0 w T N Nc a A c ps (by omega) (by omega) h17.1 h17.2 q0 HC
        by_cases q1 : a.tt < 0 ∨ (N : Int) - 1 < a.tt
        · exact Act_n1 w T N Nc a A c ps (by omega) (by omega) h17.1 h17.2 (by omega) (by omega) q1 HC
        by_cases q2 : a.pick < 0 ∨ 1048576 < a.pick
        · exact Act_n2 w T N Nc a A c ps (by omega) (by omega) h17.1 h17.2 (by omega) (by omega) (by omega) (by omega) q2 HC
        by_cases q3 : a.keep < 0 ∨ 8388608 < a.keep
        · exact Act_n3 w T N Nc a A c ps (by omega) (by omega) h17.1 h17.2 (by omega) (by omega) (by omega) (by omega) (by omega) (by omega) q3 HC
        by_cases q4 : a.an < 0 ∨ 4000 < a.an
        · exact Act_n4 w T N Nc a A c ps (by omega) (by omega) h17.1 h17.2 (by omega) (by omega) (by omega) (by omega) (by omega) (by omega) (by omega) (by omega) q4 HC
        · exact Act_n5 w T N Nc a A c ps (by omega) (by omega) h17.1 h17.2 (by omega) (by omega) (by omega) (by omega) (by omega) (by omega) (by omega) (by omega) (by omega) (by omega) (Lib.hid (by unfold actNums at h2; omega)) HC
  · rw [if_pos h0]
    exact Act_tree w T N Nc a A c ps _ (by simpa using h0) HC
theorem list7 {α : Type} {l : List α} (h : l.length = 7) : ∃ a b c d e f g, l = [a, b, c, d, e, f, g] := by
  match l, h with
  | [a, b, c, d, e, f, g], _ => exact ⟨a, b, c, d, e, f, g, rfl⟩
theorem list8 {α : Type} {l : List α} (h : l.length = 8) : ∃ a b c d e f g i, l = [a, b, c, d, e, f, g, i] := by
  match l, h with
  | [a, b, c, d, e, f, g, i], _ => exact ⟨a, b, c, d, e, f, g, i, rfl⟩
section
variable {H : Type} {enc : TypeId × Value → H} {w : World} {m : Nat}
theorem open_act {cs : List Value} {y : DataW H × List MemPlace} (h : DataW.trod enc Tryd.prog w 0 (fun _ => true) true m 33 cs = some y) (hb : Rows.uptoBulk y.1 ≤ 1048576) :
    ∃ (a : ActN) (A : Option Addr) (c : Nat) (ps : List PartD), cs = [.int .i64 a.k, .int .i64 a.n, .int .i64 a.tt, .int .i64 a.pick, .int .i64 a.keep, .slice A ps.length c, .int .i64 a.an, .int .i64 a.hd] ∧
      OpIn (· < w.heap.size) w A ps ∧ ps.length ≤ 1048576 ∧ ∀ p ∈ ps, p.Fit := by
  obtain ⟨ys, n, _, hy, hlen, hyl, hf⟩ := DataW.trod_struct Tryd.underlying33 h
  rw [show Tryd.prog.cellsOf 33 = 8 by kernel_rfl] at hlen
  obtain ⟨c0, c1, c2, c3, c4, c5, c6, c7, rfl⟩ := list8 hlen
  obtain ⟨y0, y1, y2, y3, y4, y5, y6, rfl⟩ := list7 hyl
  have h0 : DataW.trod enc Tryd.prog w 0 (fun _ => true) true n 3 ((List.drop 0 [c0, c1, c2, c3, c4, c5, c6, c7]).take (Tryd.prog.cellsOf 3)) = some y0 := hf 0 _ rfl
  have h1 : DataW.trod enc Tryd.prog w 0 (fun _ => true) true n 3 ((List.drop 1 [c0, c1, c2, c3, c4, c5, c6, c7]).take (Tryd.prog.cellsOf 3)) = some y1 := hf 1 _ rfl
  have h2 : DataW.trod enc Tryd.prog w 0 (fun _ => true) true n 3 ((List.drop 2 [c0, c1, c2, c3, c4, c5, c6, c7]).take (Tryd.prog.cellsOf 3)) = some y2 := hf 2 _ rfl
  have h3 : DataW.trod enc Tryd.prog w 0 (fun _ => true) true n 3 ((List.drop 3 [c0, c1, c2, c3, c4, c5, c6, c7]).take (Tryd.prog.cellsOf 3)) = some y3 := hf 3 _ rfl
  have h4 : DataW.trod enc Tryd.prog w 0 (fun _ => true) true n 3 ((List.drop 4 [c0, c1, c2, c3, c4, c5, c6, c7]).take (Tryd.prog.cellsOf 3)) = some y4 := hf 4 _ rfl
  have h5 : DataW.trod enc Tryd.prog w 0 (fun _ => true) true n 23 ((List.drop 5 [c0, c1, c2, c3, c4, c5, c6, c7]).take (Tryd.prog.cellsOf 23)) = some y5 := hf 5 _ rfl
  have h6 : DataW.trod enc Tryd.prog w 0 (fun _ => true) true n 31 ((List.drop 6 [c0, c1, c2, c3, c4, c5, c6, c7]).take (Tryd.prog.cellsOf 31)) = some y6 := hf 6 _ rfl
  rw [show Tryd.prog.cellsOf 3 = 1 by kernel_rfl] at h0 h1 h2 h3 h4
  rw [show Tryd.prog.cellsOf 23 = 1 by kernel_rfl] at h5
  rw [show Tryd.prog.cellsOf 31 = 2 by kernel_rfl] at h6
  have h0' : DataW.trod enc Tryd.prog w 0 (fun _ => true) true n 3 [c0] = some y0 := h0
  have h1' : DataW.trod enc Tryd.prog w 0 (fun _ => true) true n 3 [c1] = some y1 := h1
  have h2' : DataW.trod enc Tryd.prog w 0 (fun _ => true) true n 3 [c2] = some y2 := h2
  have h3' : DataW.trod enc Tryd.prog w 0 (fun _ => true) true n 3 [c3] = some y3 := h3
  have h4' : DataW.trod enc Tryd.prog w 0 (fun _ => true) true n 3 [c4] = some y4 := h4
  have h5' : DataW.trod enc Tryd.prog w 0 (fun _ => true) true n 23 [c5] = some y5 := h5
  have h6' : DataW.trod enc Tryd.prog w 0 (fun _ => true) true n 31 [c6, c7] = some y6 := h6
  obtain ⟨k, rfl, _⟩ := open_num Tryd.underlying3 h0'
  obtain ⟨nn, rfl, _⟩ := open_num Tryd.underlying3 h1'
  obtain ⟨tt, rfl, _⟩ := open_num Tryd.underlying3 h2'
  obtain ⟨pick, rfl, _⟩ := open_num Tryd.underlying3 h3'
  obtain ⟨keep, rfl, _⟩ := open_num Tryd.underlying3 h4'
  have hb5 : Rows.uptoBulk y5.1 ≤ 1048576 := by
    rw [hy] at hb
    exact bulk_field (ys := [y0, y1, y2, y3, y4, y5, y6]) rfl hb (j := 5) rfl
  obtain ⟨A, c, ps, rfl, _, _, hs, hpl, hfit⟩ := open_opv h5' hb5
  obtain ⟨zs, n2, _, _, hl2, hf2⟩ := open_struct Tryd.underlying31 (by kernel_rfl) (by kernel_rfl) h6'
  obtain ⟨_, z0, hc0, hz0, ht0⟩ := hf2 0 _ rfl
  obtain ⟨_, z1, hc1, hz1, ht1⟩ := hf2 1 _ rfl
  obtain rfl := Option.some.inj hc0
  obtain rfl := Option.some.inj hc1
  obtain ⟨an, rfl, _⟩ := open_num Tryd.underlying3 ht0
  obtain ⟨hd, rfl, _⟩ := open_num Tryd.underlying3 ht1
  exact ⟨⟨k, nn, tt, pick, keep, an, hd⟩, A, c, ps, rfl, hs, hpl, hfit⟩
end
namespace linesChecks
theorem walk (w : World) (T : Option Addr) (N Nc : Nat) (zs : List Int) (hz : Sl (· < w.heap.size) w 1 T N (zs.map (Value.int .i64))) (hN : N ≤ 9223372036854775807) (a : ActN) (A : Option Addr) (c : Nat) (ps : List PartD) (hT : Tabs w) (hs : OpIn (· < w.heap.size) w A ps) (hm : ps.length ≤ 1048576) (ht : ∀ p ∈ ps, p.Fit) :
    Calls Tryd.prog 4 #[.slice T N Nc, actV a A ps.length c] w fun e w' => e = .returned (.bool true) ∧ Below w.heap.size w w' := by
  have H1 := Lib.hid (fun W hz hT hs => Lines_c W T N Nc zs hz hN a A c ps hT hs hm (fun p hp => (ht p hp).text))
  have H2 := Lib.hid (fun W hz hT hs => Act_c W T N Nc zs hz hN a A c ps hT hs hm (fun p hp => (ht p hp).text))
  have HT := Lib.hid hT
  have HZ := Lib.hid hz
  clear ht hT hz
  generalize actFault zs a ps = er at *
  obtain ⟨k, n, tt, pick, keep, an, hd⟩ := a
  try dsimp only at *
  go_enter Tryd.func4, Tryd.ntmps4
  go_wp2_with fail
  refine (H1.out _ (Sl.later HZ.out (by repeat (first | exact Below.refl _ _ | apply bGrow | apply bAlloc | apply Below.drew | apply bDrewN | apply bIter))) (HT.out.later (by repeat (first | exact Below.refl _ _ | apply bGrow | apply bAlloc | apply Below.drew | apply bDrewN | apply bIter))) (Sl.later hs (by repeat (first | exact Below.refl _ _ | apply bGrow | apply bAlloc | apply Below.drew | apply bDrewN | apply bIter)))).mono ?_
  rintro r w1 ⟨rfl, hb1⟩
  have x0 := box_at' hb1 0
  have x1 := box_at' hb1 1
  have x2 := box_at' hb1 2
  have x3 := box_at' hb1 3
  have x4 := box_at' hb1 4
  have x5 := box_at' hb1 5
  have x6 := box_at' hb1 6
  have x7 := box_at' hb1 7
  simp at x0 x1 x2 x3 x4 x5 x6 x7
  have HB := Lib.hid (box_below' hb1)
  clear hb1
  go_wp2_with fail
  refine (H2.out _ (Sl.later HZ.out HB.out) (HT.out.later HB.out) (Sl.later hs HB.out)).mono ?_
  rintro r w2 ⟨rfl, hb2⟩
  go_wp2_with fail
  go_ret
  exact ⟨by simp, bThen HB.out hb2⟩
theorem contract (H : Type) (enc : TypeId × Value → H) (W : World) (base : Nat) (args : Array Value) (ds gs : List (DataW H)) (before : List MemPlace)
    (hval0 : ∀ (j : Nat) t v, Tryd.f4.params[j]? = some t → args[j]? = some v → Value.okWide Tryd.prog W .any base t v)
    (hW : DataW.Whole enc Tryd.prog Tryd.f4.params.toList Rows.linesChecksSpec.vars false W args.toList ds gs before) (hk : Rows.uptoSmall H (ds ++ gs) = true) (hT : Tabs W) :
    Calls Tryd.prog 4 args W fun e W' => ∃ v, e = .returned v ∧ Rows.linesChecksSpec.post enc Tryd.prog Tryd.f4 false true false false W args v W' := by
  have hval : ∀ (j : Nat) t v, Tryd.f4.params[j]? = some t → args[j]? = some v → Value.okWide Tryd.prog W .any base t v := hval0
  have hW' := hW
  obtain ⟨p, q, hA0, hV, rfl, hfz, hnd⟩ := hW
  have hA : DataW.TrodAll enc Tryd.prog W 0 (fun _ => true) true Tryd.f4.params.toList args.toList ds p := hA0
  rw [Tryd.params4] at hA hval
  obtain ⟨rfl, rfl⟩ := trodVars_none hV
  obtain ⟨v0, vs0, d0, ds0, p0, q0, hargs, rfl, rfl, h0, r0⟩ := trodAll_cons hA
  obtain ⟨v1, vs1, d1, ds1, p1, q1, rfl, rfl, rfl, h1, r1⟩ := trodAll_cons r0
  obtain ⟨rfl, rfl, rfl⟩ := trodAll_nil r1
  obtain rfl : args = #[v0, v1] := by cases args; simp_all
  have hbulk := bulk_small hk
  have hb0 := Nat.le_trans (bulk_mem (show d0 ∈ [d0, d1] ++ [] by simp)) hbulk
  have hb1 := Nat.le_trans (bulk_mem (show d1 ∈ [d0, d1] ++ [] by simp)) hbulk
  obtain ⟨T, N, Nc, zs, rfl, hnc, hcm, hz, _⟩ := sl_ints Tryd.underlying29 Tryd.underlying3 (by kernel_rfl) (hval 0 29 v0 rfl rfl) h0
  have hN : N ≤ 9223372036854775807 := by omega
  obtain ⟨cs, rfl, _⟩ := okWide_struct Tryd.underlying33 (hval 1 33 v1 rfl rfl)
  obtain ⟨m, hm⟩ := h1
  obtain ⟨a, A, c, ps, hv, hs, hpl, ht⟩ := open_act hm hb1
  obtain ⟨l⟩ := cs
  obtain rfl : l = _ := hv
  refine (walk W T N Nc zs hz hN a A c ps hT hs hpl ht).mono fun e W' ⟨he, hg⟩ => ?_
  subst he
  exact ⟨_, rfl, post_law (tb := 4) laidOut (by kernel_rfl) rfl (by kernel_rfl) Tryd.underlying4 rfl hW' hg⟩
theorem reads (os : Os) {H : Type} (enc : TypeId × Value → H) : ∃ places, DataW.whole enc Tryd.prog ((laidWorld os).forCall (fun _ _ => 0) ⟨#[], #[.slice none 0 0, .agg #[.int .i64 0, .int .i64 0, .int .i64 0, .int .i64 0, .int .i64 0, .slice none 0 0, .int .i64 0, .int .i64 0]], []⟩).memory Tryd.f4.params.toList Rows.linesChecksSpec.vars false #[.slice none 0 0, .agg #[.int .i64 0, .int .i64 0, .int .i64 0, .int .i64 0, .int .i64 0, .slice none 0 0, .int .i64 0, .int .i64 0]].toList 8 = some ([.nil, .agg [.lit (.int .i64 0), .lit (.int .i64 0), .lit (.int .i64 0), .lit (.int .i64 0), .lit (.int .i64 0), .nil, .agg [.lit (.int .i64 0), .lit (.int .i64 0)]]], [], places) := by
  have hw : (DataW.whole enc Tryd.prog ((laidWorld os).forCall (fun _ _ => 0) ⟨#[], #[.slice none 0 0, .agg #[.int .i64 0, .int .i64 0, .int .i64 0, .int .i64 0, .int .i64 0, .slice none 0 0, .int .i64 0, .int .i64 0]], []⟩).memory Tryd.f4.params.toList Rows.linesChecksSpec.vars false #[.slice none 0 0, .agg #[.int .i64 0, .int .i64 0, .int .i64 0, .int .i64 0, .int .i64 0, .slice none 0 0, .int .i64 0, .int .i64 0]].toList 8).map (fun x => (x.1, x.2.1)) = some ([.nil, .agg [.lit (.int .i64 0), .lit (.int .i64 0), .lit (.int .i64 0), .lit (.int .i64 0), .lit (.int .i64 0), .nil, .agg [.lit (.int .i64 0), .lit (.int .i64 0)]]], []) := by kernel_rfl
  obtain ⟨⟨x1, x2, x3⟩, hx, hx1⟩ := Option.map_eq_some_iff.1 hw
  simp only [Prod.mk.injEq] at hx1
  obtain ⟨rfl, rfl⟩ := hx1
  exact ⟨x3, hx⟩
theorem lifted (os : Os) (started : os.Started) (H : Type) (enc : TypeId × Value → H) (F : Stop.Interp) :
    ReturnsInHanded {} Tryd.checked os 4 .any ((Rows.OpenSpec.upto Rows.linesChecksSpec).preRow enc Tryd.prog Tryd.f4 Rows.linesChecksUptoRow.domain false Rows.linesChecksUptoRow.laid) (((Rows.OpenSpec.upto Rows.linesChecksSpec).at F).post enc Tryd.prog Tryd.f4 false true false false) := by
  obtain ⟨places, hx⟩ := reads os enc
  refine returnsInHanded_of_row (C := Tryd.checked) (s := Rows.OpenSpec.upto Rows.linesChecksSpec) own started (by kernel_rfl) Tryd.func4
    (witness_row_atRef (enc := enc) (C := Tryd.checked) false (laidWorld os) #[.slice none 0 0, .agg #[.int .i64 0, .int .i64 0, .int .i64 0, .int .i64 0, .int .i64 0, .slice none 0 0, .int .i64 0, .int .i64 0]] rfl (by kernel_rfl) (by kernel_rfl) (by kernel_rfl)
      (OpenSpec.preRow_of_cond 8 hx (by kernel_rfl) (fun k hk => by cases hk; kernel_rfl) (by kernel_rfl) (laid_met os _))) ?_
  intro W base args ds gs before hval hW _ hcond _ hL _ _
  exact contract H enc W base args ds gs before hval hW (hcond _ rfl) (tabs_of hL)
theorem said : Rows.LinesChecksUptoSaid :=
  OpenClaim.holds_of_cond 4 Tryd.f4 rfl rfl rfl rfl rfl rfl rfl ⟨rfl, rfl, rfl, rfl, rfl⟩ rfl rfl rfl rfl rfl (by kernel_rfl) Tryd.func4 (by kernel_rfl)
    (of_decide_eq_true (by kernel_rfl)) (by unfold Func.isWrapper; first | (rw [if_pos (by decide +kernel)]; kernel_rfl) | (rw [if_neg (by decide +kernel)]; exact ⟨rfl, rfl⟩))
    (fun os started H enc _ F => by rw [OpenClaim.pre_eq_preRow]; exact lifted os started H enc F)
theorem plain (f : FuncId) (fn : Func) (hf : Tryd.pinned.checked.prog.funcNamed "wherry/wherrylaw.LinesChecks" = some f) (hfn : Tryd.pinned.checked.prog.funcs[f]? = some fn) :
    false = Tryd.pinned.checked.prog.looks [] ∧ ∀ (j : Nat) t, fn.params[j]? = some t → Tryd.pinned.checked.prog.wantsStandIn t = false := by
  obtain rfl : f = 4 := Option.some.inj ((show Tryd.prog.funcNamed "wherry/wherrylaw.LinesChecks" = some 4 by kernel_rfl).symm.trans hf) |>.symm
  obtain rfl : fn = Tryd.f4 := (Option.some.inj (Tryd.func4.symm.trans hfn)).symm
  refine ⟨by kernel_rfl, fun j t ht => ?_⟩
  have hall : (Tryd.f4.params.toList.all fun u => !Tryd.prog.wantsStandIn u) = true := by kernel_rfl
  have hm : t ∈ Tryd.f4.params.toList := by simpa using Array.mem_of_getElem? ht
  exact (show Tryd.prog.wantsStandIn t = false by simpa using List.all_eq_true.1 hall t hm)
theorem card : Rows.LinesChecksUptoCardSaid :=
  Claim7.holds_tied_plain_at .later [] _ _ _ _ said (fun _ h => by cases h) (by kernel_rfl) (fun _ h => by cases h) linesChecksUpto_row_tie rfl ⟨rfl, rfl⟩ (by kernel_rfl) rfl plain (by kernel_rfl)
end linesChecks
end Go.Proofs.YtiooimnlkcpnnaaDoor
