/-
  Marks, sides and nodes that came in, opened.
  Contracts of node.Check and of the reference's NodeFault: both give nodeFault.
  wherrylaw.NodeChecks returns true for every tree and node, where what it reads is of bulk at most 1048576, and unicode/utf8's two tables are as their text lays them.
-/
import Derived.Test.YtbmdepbmejnlkaaDoorRows
import Derived.Test.YtbmdepbmejnlkaaDoorNodeP
import Derived.Test.YtbmdepbmejnlkaaDoorLinkOpen
import Derived.Test.YtbmdepbmejnlkaaDoorEdgeOpen
import Derived.Test.YtbmdepbmejnlkaaDoorNodeC3
import Derived.Test.YtbmdepbmejnlkaaDoorNodeC4
import Derived.Test.YtbmdepbmejnlkaaDoorNodeC5
import Derived.Test.YtbmdepbmejnlkaaDoorNodeF3
import Derived.Test.YtbmdepbmejnlkaaDoorNodeF4
import Derived.Test.YtbmdepbmejnlkaaDoorNodeF5
import Derived.Test.YtbmdepbmejnlkaaDoorDoor
namespace Go.Proofs.YtbmdepbmejnlkaaDoor
open Go.ChangeShapes Go.WideShapes Go.ChangeAt Go.RowKit Go.Joins Go.Deep
set_option maxRecDepth 100000
theorem list4N {α : Type} {l : List α} (h : l.length = 4) : ∃ a b c d, l = [a, b, c, d] := by
  match l, h with
  | [a, b, c, d], _ => exact ⟨a, b, c, d, rfl⟩
theorem list8N {α : Type} {l : List α} (h : l.length = 8) : ∃ a b c d e f g i, l = [a, b, c, d, e, f, g, i] := by
  match l, h with
  | [a, b, c, d, e, f, g, i], _ => exact ⟨a, b, c, d, e, f, g, i, rfl⟩
theorem list10N {α : Type} {l : List α} (h : l.length = 10) : ∃ a b c d e f g i j k, l = [a, b, c, d, e, f, g, i, j, k] := by
  match l, h with
  | [a, b, c, d, e, f, g, i, j, k], _ => exact ⟨a, b, c, d, e, f, g, i, j, k, rfl⟩
structure SideV.Fit (x : SideV) : Prop where
  len : x.L.length ≤ 1048576
  ops : ∀ o ∈ x.L, o.Fit
  link : x.k.Fit
  cap : x.L.length ≤ x.c ∧ x.c ≤ 9223372036854775807
theorem SideV.Fit.small {x : SideV} (h : x.Fit) : x.Small := ⟨h.len, fun o ho => (h.ops o ho).small, h.link.small⟩
structure NodeV.Fit (n : NodeV) : Prop where
  text : n.t.size ≤ 1048576
  sl : n.S.length ≤ 1048576
  sides : ∀ x ∈ n.S, x.Fit
  ul : n.U.length ≤ 1048576
  undo : ∀ o ∈ n.U, o.Fit
  ml : n.M.length ≤ 1048576
  sc : n.S.length ≤ n.sc ∧ n.sc ≤ 9223372036854775807
  uc : n.U.length ≤ n.uc ∧ n.uc ≤ 9223372036854775807
  mc : n.M.length ≤ n.mc ∧ n.mc ≤ 9223372036854775807
theorem NodeV.Fit.small {n : NodeV} (h : n.Fit) : n.Small := ⟨h.text, h.sl, fun x hx => (h.sides x hx).small, h.ul, fun o ho => (h.undo o ho).small, h.ml⟩
section
variable {H : Type} {enc : TypeId × Value → H} {w : World} {m : Nat}
theorem open_mark {cs : List Value} {y : DataW H × List MemPlace} (h : DataW.trod enc Tryd.prog w 0 (fun _ => true) true m 52 cs = some y) : ∃ q : Int × Int, cs = markCells q := by
  obtain ⟨zs, n2, _, _, hl2, hf2⟩ := open_struct Tryd.underlying52 (by kernel_rfl) (by kernel_rfl) h
  obtain ⟨z0, z1, rfl⟩ := list2 hl2
  obtain ⟨_, y0, hc0, hz0, ht0⟩ := hf2 0 _ rfl
  obtain ⟨_, y1, hc1, hz1, ht1⟩ := hf2 1 _ rfl
  obtain rfl := Option.some.inj hc0
  obtain rfl := Option.some.inj hc1
  obtain ⟨an, rfl, _⟩ := open_num Tryd.underlying3 ht0
  obtain ⟨hd, rfl, _⟩ := open_num Tryd.underlying3 ht1
  exact ⟨(an, hd), rfl⟩
theorem open_side {cs : List Value} {y : DataW H × List MemPlace} (h : DataW.trod enc Tryd.prog w 0 (fun _ => true) true m 65 cs = some y) (hb : Rows.uptoBulk y.1 ≤ 1048576) :
    ∃ x : SideV, cs = x.cells ∧ x.In w ∧ x.Fit := by
  obtain ⟨ys, n, _, hy, hlen, hyl, hf⟩ := DataW.trod_struct Tryd.underlying65 h
  rw [show Tryd.prog.cellsOf 65 = 10 by kernel_rfl] at hlen
  obtain ⟨c0, c1, c2, c3, c4, c5, c6, c7, c8, c9, rfl⟩ := list10N hlen
  obtain ⟨y0, y1, y2, y3, rfl⟩ := list4N hyl
  have h0 : DataW.trod enc Tryd.prog w 0 (fun _ => true) true n 3 ((List.drop 0 [c0, c1, c2, c3, c4, c5, c6, c7, c8, c9]).take (Tryd.prog.cellsOf 3)) = some y0 := hf 0 _ rfl
  have h1 : DataW.trod enc Tryd.prog w 0 (fun _ => true) true n 4 ((List.drop 1 [c0, c1, c2, c3, c4, c5, c6, c7, c8, c9]).take (Tryd.prog.cellsOf 4)) = some y1 := hf 1 _ rfl
  have h2 : DataW.trod enc Tryd.prog w 0 (fun _ => true) true n 41 ((List.drop 2 [c0, c1, c2, c3, c4, c5, c6, c7, c8, c9]).take (Tryd.prog.cellsOf 41)) = some y2 := hf 2 _ rfl
  have h3 : DataW.trod enc Tryd.prog w 0 (fun _ => true) true n 63 ((List.drop 5 [c0, c1, c2, c3, c4, c5, c6, c7, c8, c9]).take (Tryd.prog.cellsOf 63)) = some y3 := hf 3 _ rfl
  rw [show Tryd.prog.cellsOf 3 = 1 by kernel_rfl] at h0
  rw [show Tryd.prog.cellsOf 4 = 1 by kernel_rfl] at h1
  rw [show Tryd.prog.cellsOf 41 = 3 by kernel_rfl] at h2
  rw [show Tryd.prog.cellsOf 63 = 5 by kernel_rfl] at h3
  have h0' : DataW.trod enc Tryd.prog w 0 (fun _ => true) true n 3 [c0] = some y0 := h0
  have h1' : DataW.trod enc Tryd.prog w 0 (fun _ => true) true n 4 [c1] = some y1 := h1
  have h2' : DataW.trod enc Tryd.prog w 0 (fun _ => true) true n 41 [c2, c3, c4] = some y2 := h2
  have h3' : DataW.trod enc Tryd.prog w 0 (fun _ => true) true n 63 [c5, c6, c7, c8, c9] = some y3 := h3
  have hb2 : Rows.uptoBulk y2.1 ≤ 1048576 := by
    rw [hy] at hb
    exact bulk_field (ys := [y0, y1, y2, y3]) rfl hb (j := 2) rfl
  have hb3 : Rows.uptoBulk y3.1 ≤ 1048576 := by
    rw [hy] at hb
    exact bulk_field (ys := [y0, y1, y2, y3]) rfl hb (j := 3) rfl
  obtain ⟨p, rfl, _⟩ := open_num Tryd.underlying3 h0'
  obtain ⟨j, e1, _⟩ := DataW.trod_bool Tryd.underlying4 h1'
  have e1' : c1 = .bool j := by simpa using e1
  subst e1'
  obtain ⟨s, hd, A, c, L, hcs, _, _, g1, g2, g3, g4, g5⟩ := open_edge h2' hb2
  obtain ⟨k, hcs2, g6, g7⟩ := open_link h3' hb3
  refine ⟨⟨p, j, s, hd, A, c, L, k⟩, ?_, ⟨g3, g6⟩, ⟨g4, g5, g7, g1, g2⟩⟩
  have e : [Value.int .i64 p, .bool j] ++ [c2, c3, c4] ++ [c5, c6, c7, c8, c9] = [Value.int .i64 p, .bool j] ++ [.int .i64 s, .int .i64 hd, .slice A L.length c] ++ [.int .i64 k.e, .int .i64 k.n, .slice k.sA k.s.length k.sc, .slice k.qA k.q.length k.qc, .int .i64 k.h] := by rw [hcs, hcs2]
  exact e
theorem open_node {cs : List Value} {y : DataW H × List MemPlace} (h : DataW.trod enc Tryd.prog w 0 (fun _ => true) true m 28 cs = some y) (hb : Rows.uptoBulk y.1 ≤ 1048576) :
    ∃ n : NodeV, cs = [.int .i64 n.me, .int .i64 n.ep, .int .i64 n.up, .bool n.rd, .string n.t, .slice n.sA n.S.length n.sc, .slice n.uA n.U.length n.uc, .slice n.mA n.M.length n.mc] ∧ n.In w ∧ n.Fit := by
  obtain ⟨ys, n, hx, _, hl, hf⟩ := open_struct Tryd.underlying28 (by kernel_rfl) (by kernel_rfl) h
  obtain ⟨v0, v1, v2, v3, v4, v5, v6, v7, rfl⟩ := list8N hl
  obtain ⟨_, y0, hc0, hy0, ht0⟩ := hf 0 _ rfl
  obtain ⟨_, y1, hc1, hy1, ht1⟩ := hf 1 _ rfl
  obtain ⟨_, y2, hc2, hy2, ht2⟩ := hf 2 _ rfl
  obtain ⟨_, y3, hc3, hy3, ht3⟩ := hf 3 _ rfl
  obtain ⟨_, y4, hc4, hy4, ht4⟩ := hf 4 _ rfl
  obtain ⟨_, y5, hc5, hy5, ht5⟩ := hf 5 _ rfl
  obtain ⟨_, y6, hc6, hy6, ht6⟩ := hf 6 _ rfl
  obtain ⟨_, y7, hc7, hy7, ht7⟩ := hf 7 _ rfl
  obtain rfl := Option.some.inj hc0
  obtain rfl := Option.some.inj hc1
  obtain rfl := Option.some.inj hc2
  obtain rfl := Option.some.inj hc3
  obtain rfl := Option.some.inj hc4
  obtain rfl := Option.some.inj hc5
  obtain rfl := Option.some.inj hc6
  obtain rfl := Option.some.inj hc7
  obtain ⟨me, rfl, _⟩ := open_num Tryd.underlying3 ht0
  obtain ⟨ep, rfl, _⟩ := open_num Tryd.underlying3 ht1
  obtain ⟨up, rfl, _⟩ := open_num Tryd.underlying3 ht2
  obtain ⟨rd, e3, _⟩ := DataW.trod_bool Tryd.underlying4 ht3
  have e3' : v3 = .bool rd := by simpa using e3
  subst e3'
  obtain ⟨t, rfl, q4⟩ := open_text Tryd.underlying9 ht4 (bulk_field hx hb hy4)
  obtain ⟨sA, sc, S, rfl, s1, s2, s3, s4, s5⟩ := open_rows SideV.cells 10 SideV.cells_len (by decide) (fun x => x.In w ∧ x.Fit) Tryd.underlying24 (by kernel_rfl) (fun m cs y h hb => open_side h hb) ht5 (bulk_field hx hb hy5)
  obtain ⟨uA, uc, U, rfl, u1, u2, u3, u4, u5⟩ := open_ops Tryd.underlying25 ht6 (bulk_field hx hb hy6)
  obtain ⟨mA, mc, M, rfl, m1, m2, m3, m4, _⟩ := open_rows markCells 2 markCells_len (by decide) (fun _ => True) Tryd.underlying26 (by kernel_rfl) (fun m cs y h _ => by obtain ⟨q, hq⟩ := open_mark h; exact ⟨q, hq, trivial⟩) ht7 (bulk_field hx hb hy7)
  exact ⟨⟨me, ep, up, rd, t, sA, sc, S, uA, uc, U, mA, mc, M⟩, rfl, ⟨⟨s3, fun x hx => (s5 x hx).1⟩, u3, m3⟩, ⟨q4, Nat.le_trans s4 (bulk_field hx hb hy5), fun x hx => (s5 x hx).2, u4, u5, Nat.le_trans m4 (bulk_field hx hb hy7), ⟨s1, s2⟩, ⟨u1, u2⟩, ⟨m1, m2⟩⟩⟩
end
end Go.Proofs.YtbmdepbmejnlkaaDoor
namespace Go.Proofs.YtbmdepbmejnlkaaDoor
open Go.ChangeShapes Go.WideShapes Go.ChangeAt Go.RowKit
set_option maxRecDepth 100000
theorem nloop_len (s : ByteArray) : ∀ (n i : Nat) (r : List UInt8), s.size - i = n → (ByteArray.toList.loop s i r).length = r.length + n
  | 0, i, r, h => by
    unfold ByteArray.toList.loop
    rw [if_neg (by omega)]
    simp
  | n + 1, i, r, h => by
    unfold ByteArray.toList.loop
    rw [if_pos (by omega), nloop_len s n (i + 1) _ (by omega)]
    simp only [List.length_cons]
    omega
theorem nlen (s : ByteArray) : s.toList.length = s.size := by
  unfold ByteArray.toList
  rw [nloop_len s s.size 0 [] (by omega)]
  simp
theorem size_nil {s : ByteArray} : s.toList = [] ↔ s.size = 0 := by
  rw [← nlen s]
  exact ⟨fun h => by rw [h]; rfl, fun h => List.eq_nil_of_length_eq_zero h⟩
theorem peers_pos {zs : List Int} {me : Int} (h : 0 < me) : 0 < (peers zs me).length := by
  unfold peers peerHead
  rw [if_pos h]
  simp
theorem peers_le {zs : List Int} {me : Int} (h : zs.length ≤ 7) : (peers zs me).length ≤ 8 := by
  have := upK_len zs me zs.length
  show (upK zs me zs.length).length ≤ 8
  omega
theorem wrap_um {a b : Nat} (h1 : a ≤ 1048576) (h2 : b ≤ 1048576) : wrap64 ((a : Int) + (b : Int)) = ((a + b : Nat) : Int) := by
  unfold wrap64
  omega
/-- What is left when numbers, lengths and readiness are as they must be. -/
def nodeRest (zs : List Int) (n : NodeV) : Prop := undoOk (runesI n.t) (n.U.map OpV.ps).reverse ∧ sidesOk zs n ∧ parentOk n ∧ ∀ m ∈ n.M, markOk (runesI n.t) m
theorem nodeMay_rest {zs : List Int} {n : NodeV} (h1 : nodeNums zs n) (h2 : nodeLens zs n) : nodeMay zs n ↔ nodeRest zs n :=
  ⟨fun h => h.2.2, fun h => ⟨h1, h2, h⟩⟩
theorem NodeCheck_c (w : World) (T : Option Addr) (N Nc : Nat) (zs : List Int) (n : NodeV) (hT : Tabs w) (hi : n.In w) (hm : n.Small) (hz : Sl (· < w.heap.size) w 1 T N (zs.map (Value.int .i64))) (hN : N ≤ 9223372036854775807) :
    Calls Tryd.prog 8 #[.slice T N Nc, n.val] w fun r w' => r = .returned (.int .i64 (nodeFault zs n)) ∧ Below w.heap.size w w' := by
  have hl : zs.length = N := by have := hz.1; simpa using this
  have HC : ∀ W, Below w.heap.size w W → Calls Tryd.prog 24 #[.slice T N Nc] W fun e w' => e = .returned (.int .i64 (treeFault zs)) ∧ W = w' := fun W hb => CheckTree_c W T N Nc zs (Sl.later hz hb) hN
  have HX := fun W hT => CheckText_c n.t W hT hm.text
  by_cases h0 : treeFault zs = 0
  · rw [h0] at HC
    obtain ⟨t1, t2, _⟩ := tree_root h0
    by_cases hn : nodeNums zs n
    · obtain ⟨⟨a1, a2⟩, ⟨a3, a4⟩, ⟨a5, a6⟩, a7, a8⟩ := hn
      rw [a8] at HX
      have HL := fun W (hb : Below w.heap.size w W) => neighbours_c W T N Nc zs (Sl.later hz hb) h0 n.me a1 a2
      have HU0 := fun W (hb : Below w.heap.size w W) => undo_c W n (hT.later hb) (hi.undo.later hb) hm.ul hm.undo hm.text
      have b1 : decide (n.me < 0) = false := by simpa using a1
      have b2 : decide ((N : Int) ≤ n.me) = false := by simp; omega
      have b3 : decide (n.ep < 1) = false := by simp; omega
      have b4 : decide (1048576 ≤ n.ep) = false := by simp; omega
      have b5 : decide (n.up < 0) = false := by simp; omega
      have b6 : decide (1048576 < n.up) = false := by simp; omega
      have hwu := wrap_um hm.ul hm.ml
      have hund : nodeMay zs n → undoOk (runesI n.t) (n.U.map OpV.ps).reverse := fun h => h.2.2.1
      by_cases hln : nodeLens zs n ∧ undoOk (runesI n.t) (n.U.map OpV.ps).reverse
      · have hr := nodeMay_rest (zs := zs) (n := n) ⟨⟨a1, a2⟩, ⟨a3, a4⟩, ⟨a5, a6⟩, a7, a8⟩ hln.1
        obtain ⟨⟨l1, l2, l3, l4⟩, hu⟩ := hln
        have HU : ∀ W, Below w.heap.size w W → Calls Tryd.prog 27 #[n.val] W fun e w' => e = .returned (.bool true) ∧ Below W.heap.size W w' := fun W hb => (HU0 W hb).mono fun _ _ ⟨⟨b, e, k⟩, h⟩ => ⟨by rw [e, k.2 ⟨hu, l2⟩], h⟩
        have HSD : ∀ W x, Tabs W → x ∈ n.S → x.In W → Calls Tryd.prog 28 #[n.val, x.val] W fun r w' => (∃ b : Bool, r = .returned (.bool b) ∧ (b = true ↔ sideMay n.rd (runesI n.t) x)) ∧ Below W.heap.size W w' := fun W x hT hx hi => side_c W n x hT hi (hm.sides x hx) hm.text
        have HRC := fun W => runeCount_c n.t W hm.text
        have hg : nodeMay zs n ↔ ((∀ i (h : i < n.S.length), n.S[i].p = (peers zs n.me).getD i 0 ∧ sideMay n.rd (runesI n.t) n.S[i]) ∧ (0 < n.me → ∀ x, n.S.head? = some x → x.j = n.rd) ∧ ∀ m ∈ n.M, markOk (runesI n.t) m) :=
          hr.trans ⟨fun k => k.2, fun k => ⟨hu, k⟩⟩
        have hs8 : n.S.length ≤ 8 := by rw [← l1]; exact peers_le t2
        have h9 : ¬ ((∀ i (h : i < n.S.length), n.S[i].p = (peers zs n.me).getD i 0 ∧ sideMay n.rd (runesI n.t) n.S[i]) ∧ (0 < n.me → ∀ x, n.S.head? = some x → x.j = n.rd) ∧ ∀ m ∈ n.M, markOk (runesI n.t) m) → nodeFault zs n = 9 := fun k => nodeFault_no h0 (fun q => k (hg.1 q))
        have hz0 : ((∀ i (h : i < n.S.length), n.S[i].p = (peers zs n.me).getD i 0 ∧ sideMay n.rd (runesI n.t) n.S[i]) ∧ (0 < n.me → ∀ x, n.S.head? = some x → x.j = n.rd) ∧ ∀ m ∈ n.M, markOk (runesI n.t) m) → nodeFault zs n = 0 := fun k => nodeFault_ok h0 (hg.2 k)
        by_cases hme : 0 < n.me
        · have hpp : 0 < n.S.length := by rw [← l1]; exact peers_pos hme
          cases hrd : n.rd with
          | true => exact NodeCheck_go_pt w T N Nc zs n hT hi hz hN (peers zs n.me) b1 b2 b3 b4 b5 b6 (by simp; omega) (by simpa using hme) hrd hwu l1 l3 hs8 hpp _ h9 hz0 HC HX HL HU HSD HRC
          | false =>
            obtain ⟨_, q2, q3, q4⟩ := l4 hrd
            exact NodeCheck_go_pf w T N Nc zs n hT hi hz hN (peers zs n.me) b1 b2 b3 b4 b5 b6 (by simp; omega) (by simpa using hme) hrd (size_nil.2 q2) hwu l1 l3 (by show _ = _; omega) hs8 hpp _ h9 hz0 HC HX HL HU HSD HRC
        · have hme0 : n.me = 0 := by omega
          cases hrd : n.rd with
          | true => exact NodeCheck_go_zt w T N Nc zs n hT hi hz hN (peers zs n.me) b1 b2 b3 b4 b5 b6 (by simpa using hme0) (by simp; omega) (by simp; omega) hrd hwu l1 l3 hs8 _ h9 hz0 HC HX HL HU HSD HRC
          | false => exact absurd hme0 (l4 hrd).1
      · rw [nodeFault_no h0 (fun k => hln ⟨k.2.1, hund k⟩)]
        have HU : ∃ ub : Bool, (ub = true ↔ undoOk (runesI n.t) (n.U.map OpV.ps).reverse ∧ n.U.length ≤ 12) ∧ ∀ W, Below w.heap.size w W → Calls Tryd.prog 27 #[n.val] W fun e w' => e = .returned (.bool ub) ∧ Below W.heap.size W w' := by
          by_cases hu : undoOk (runesI n.t) (n.U.map OpV.ps).reverse ∧ n.U.length ≤ 12
          · exact ⟨true, by simp [hu], fun W hb => (HU0 W hb).mono fun _ _ ⟨⟨b, e, k⟩, h⟩ => ⟨by rw [e, k.2 hu], h⟩⟩
          · exact ⟨false, by simpa using hu, fun W hb => (HU0 W hb).mono fun _ _ ⟨⟨b, e, k⟩, h⟩ => ⟨by rw [e]; cases b; rfl; exact absurd (k.1 rfl) hu, h⟩⟩
        obtain ⟨ub, hub, HU⟩ := HU
        have H : ¬ ((peers zs n.me).length = n.S.length ∧ ub = true ∧ n.M.length ≤ 1 ∧ (n.rd = false → n.me ≠ 0 ∧ n.t.toList = [] ∧ n.U.length = 0 ∧ n.M.length = 0)) := fun ⟨k1, k2, k3, k4⟩ =>
          hln ⟨⟨k1, (hub.1 k2).2, k3, fun q => ⟨(k4 q).1, size_nil.1 (k4 q).2.1, (k4 q).2.2⟩⟩, (hub.1 k2).1⟩
        by_cases hme : 0 < n.me
        · exact NodeCheck_lens_p w T N Nc zs n hT hi hz hN (peers zs n.me) ub b1 b2 b3 b4 b5 b6 (by simp; omega) (by simpa using hme) hwu H HC HX HL HU
        · have hme0 : n.me = 0 := by omega
          exact NodeCheck_lens_z w T N Nc zs n hT hi hz hN (peers zs n.me) ub b1 b2 b3 b4 b5 b6 (by simpa using hme0) (by simp; omega) (by simp; omega) hwu H HC HX HL HU
    · rw [nodeFault_no h0 (fun k => hn k.1)]
      exact NodeCheck_nums w T N Nc zs n hT hi hz hN (textFault n.t) (by unfold nodeNums at hn; rwa [hl] at hn) HC HX
  · rw [nodeFault_tree h0]
    exact NodeCheck_tree w T N Nc zs n hT hi hz hN _ (by simpa using h0) HC
set_option maxHeartbeats 1000000 in
theorem NodeFault_treeF (w : World) (T : Option Addr) (N Nc : Nat) (n : NodeV) (er : Int) (_he : (er != 0) = true) (HC : Hid (∀ W, Below w.heap.size w W → Calls Tryd.prog 30 #[.slice T N Nc] W fun e w' => e = .returned (.int .i64 er) ∧ W = w')) :
    Calls Tryd.prog 9 #[.slice T N Nc, n.val] w fun r w' => r = .returned (.int .i64 er) ∧ Below w.heap.size w w' := by
  have HA := Lib.hid (OneAt.new w n)
  obtain ⟨WA, hWA⟩ : ∃ WA, WA = w.alloc (.cells #[.int .i64 n.me, .int .i64 n.ep, .int .i64 n.up, .bool n.rd, .string n.t, .slice n.sA n.S.length n.sc, .slice n.uA n.U.length n.uc, .slice n.mA n.M.length n.mc] 28) := ⟨_, rfl⟩
  rw [← hWA] at HA
  have HW := Lib.hid hWA.symm
  clear hWA
  go_enter Tryd.func9, Tryd.ntmps9
  go_wp2_with fail
  rw [HW.out]
  refine (HC.out _ HA.out.b).mono ?_
  rintro e w1 ⟨rfl, rfl⟩
  obtain ⟨n0, n1, n2, n3, n4, n5, n6, n7, nz⟩ := node_cell HA.out.nd
  go_wp2_with fail
  go_ret
  exact ⟨rfl, HA.out.b⟩
theorem NodeFault_c (w : World) (T : Option Addr) (N Nc : Nat) (zs : List Int) (n : NodeV) (hT : Tabs w) (hi : n.In w) (hm : n.Small) (hz : Sl (· < w.heap.size) w 1 T N (zs.map (Value.int .i64))) (hN : N ≤ 9223372036854775807) :
    Calls Tryd.prog 9 #[.slice T N Nc, n.val] w fun r w' => r = .returned (.int .i64 (nodeFault zs n)) ∧ Below w.heap.size w w' := by
  have hl : zs.length = N := by have := hz.1; simpa using this
  have HC : ∀ W, Below w.heap.size w W → Calls Tryd.prog 30 #[.slice T N Nc] W fun e w' => e = .returned (.int .i64 (treeFault zs)) ∧ W = w' := fun W hb => TreeFault_c W T N Nc zs (Sl.later hz hb) hN
  have HX := fun W hT => TextFault_c n.t W hT hm.text
  by_cases h0 : treeFault zs = 0
  · rw [h0] at HC
    obtain ⟨t1, t2, _⟩ := tree_root h0
    have hN0 : 0 < N := by omega
    have hN7 : N ≤ 7 := by omega
    have hne : ∀ {P : Prop}, (nodeMay zs n → P) → ¬ P → nodeFault zs n = 9 := fun k q => nodeFault_no h0 (fun h => q (k h))
    by_cases m1 : ¬ (0 ≤ n.me ∧ n.me ≤ (N : Int) - 1)
    · rw [hne (fun h => ⟨h.1.1.1, by have := h.1.1.2; omega⟩) m1]
      exact NodeFault_me w T N Nc n hT hi hN0 hN7 (by show n.me < 0 ∨ _; omega) HC
    replace m1 := Classical.not_not.1 m1
    by_cases m2 : ¬ (1 ≤ n.ep ∧ n.ep ≤ 1048575)
    · rw [hne (fun h => ⟨h.1.2.1.1, by have := h.1.2.1.2; omega⟩) m2]
      exact NodeFault_ep w T N Nc n hT hi hN0 hN7 m1 (by show n.ep < 1 ∨ _; omega) HC
    replace m2 := Classical.not_not.1 m2
    by_cases m3 : ¬ (0 ≤ n.up ∧ n.up ≤ 1048576)
    · rw [hne (fun h => h.1.2.2.1) m3]
      exact NodeFault_up w T N Nc n hT hi hN0 hN7 m1 m2 (by show n.up < 0 ∨ _; omega) HC
    replace m3 := Classical.not_not.1 m3
    by_cases m4 : n.me = 0 ∧ 0 < n.up
    · rw [nodeFault_no h0 (fun h => h.1.2.2.2.1 m4)]
      exact NodeFault_zu w T N Nc n hT hi hN0 hN7 m1 m2 m3 (by simpa using m4.1) (by simp; omega) HC
    by_cases m5 : ¬ textFault n.t = 0
    · rw [nodeFault_no h0 (fun h => m5 h.1.2.2.2.2)]
      by_cases hme : 0 < n.me
      · exact NodeFault_tx_p w T N Nc n hT hi hN0 hN7 m1 m2 m3 (by simp; omega) (by simpa using hme) _ (by simpa using m5) HC HX
      · exact NodeFault_tx_z w T N Nc n hT hi hN0 hN7 m1 m2 m3 (by simp; omega) (by simp; omega) (by simp; omega) _ (by simpa using m5) HC HX
    replace m5 := Classical.not_not.1 m5
    rw [m5] at HX
    have hn : nodeNums zs n := ⟨⟨m1.1, by omega⟩, ⟨m2.1, by omega⟩, m3, m4, m5⟩
    have HL := fun W (hb : Below w.heap.size w W) => peersOf_c W T N Nc zs (Sl.later hz hb) h0 n.me m1.1 (by omega)
    by_cases hln : nodeLens zs n
    · have hr := nodeMay_rest (zs := zs) (n := n) hn hln
      obtain ⟨l1, l2, l3, l4⟩ := hln
      have HSD : ∀ W x, Tabs W → x ∈ n.S → x.In W → Calls Tryd.prog 37 #[n.val, x.val] W fun r w' => (∃ b : Bool, r = .returned (.bool b) ∧ (b = true ↔ sideMay n.rd (runesI n.t) x)) ∧ Below W.heap.size W w' := fun W x hT hx hi => sideMay_c W n x hT hi (hm.sides x hx) hm.text
      have HRC := fun W => runes_c n.t W hm.text
      have HMK := fun W m => markMay_c W n.t m hm.text
      have HLO : ∀ W (q : OpV), q ∈ n.U → OpIn (· < W.heap.size) W q.A q.ps → Calls Tryd.prog 35 #[.slice q.A q.ps.length q.c] W fun e w' => e = .returned (.tuple #[.int .i64 (lens q.ps).1, .int .i64 (lens q.ps).2]) ∧ Below W.heap.size W w' := fun W q hq hs => LengthsOf_c W q.A q.c q.ps hs (hm.undo q hq).len (hm.undo q hq).text
      have HOF : ∀ W (q : OpV), Tabs W → q ∈ n.U → OpIn (· < W.heap.size) W q.A q.ps → Calls Tryd.prog 36 #[.slice q.A q.ps.length q.c] W fun r w' => r = .returned (.int .i64 (opFault q.ps)) ∧ Below W.heap.size W w' := fun W q hT hq hs => OpFault_c W q.A q.c q.ps hT hs (hm.undo q hq).len (hm.undo q hq).text
      have hs8 : n.S.length ≤ 8 := by rw [← l1]; exact peers_le t2
      have h9 : ¬ nodeRest zs n → nodeFault zs n = 9 := fun k => nodeFault_no h0 (fun q => k (hr.1 q))
      have hz0 : nodeRest zs n → nodeFault zs n = 0 := fun k => nodeFault_ok h0 (hr.2 k)
      by_cases hme : 0 < n.me
      · have hpp : 0 < n.S.length := by rw [← l1]; exact peers_pos hme
        cases hrd : n.rd with
        | true => exact NodeFault_go_pt w T N Nc n hT hi hN0 hN7 (peers zs n.me) m1 m2 m3 (by simp; omega) (by simpa using hme) hrd l1 l3 l2 hs8 hpp _ h9 hz0 HC HX HL HSD HRC HMK HLO HOF
        | false =>
          obtain ⟨_, q2, q3, q4⟩ := l4 hrd
          exact NodeFault_go_pf w T N Nc n hT hi hN0 hN7 (peers zs n.me) m1 m2 m3 (by simp; omega) (by simpa using hme) hrd (size_nil.2 q2) l1 l3 l2 ⟨q3, q4⟩ hs8 hpp _ h9 hz0 HC HX HL HSD HRC HMK HLO HOF
      · have hme0 : n.me = 0 := by omega
        cases hrd : n.rd with
        | true => exact NodeFault_go_zt w T N Nc n hT hi hN0 hN7 (peers zs n.me) m1 m2 m3 (by simpa using hme0) (by simp; omega) (by simp; omega) hrd l1 l3 l2 hs8 _ h9 hz0 HC HX HL HSD HRC HMK HLO HOF
        | false => exact absurd hme0 (l4 hrd).1
    · rw [nodeFault_no h0 (fun k => hln k.2.1)]
      have H : ¬ ((peers zs n.me).length = n.S.length ∧ n.U.length ≤ 12 ∧ n.M.length ≤ 1 ∧ (n.rd = false → n.me ≠ 0 ∧ n.t.toList = [] ∧ n.U.length = 0 ∧ n.M.length = 0)) := fun ⟨k1, k2, k3, k4⟩ =>
        hln ⟨k1, k2, k3, fun q => ⟨(k4 q).1, size_nil.1 (k4 q).2.1, (k4 q).2.2⟩⟩
      by_cases hme : 0 < n.me
      · exact NodeFault_lens_p w T N Nc n hT hi hN0 hN7 (peers zs n.me) m1 m2 m3 (by simp; omega) (by simpa using hme) H HC HX HL
      · exact NodeFault_lens_z w T N Nc n hT hi hN0 hN7 (peers zs n.me) m1 m2 m3 (by simp; omega) (by simp; omega) (by simp; omega) H HC HX HL
  · rw [nodeFault_tree h0]
    exact NodeFault_treeF w T N Nc n _ (by simpa using h0) HC
end Go.Proofs.YtbmdepbmejnlkaaDoor
namespace Go.Proofs.YtbmdepbmejnlkaaDoor
open Go.ChangeShapes Go.WideShapes Go.ChangeAt Go.RowKit
set_option maxRecDepth 100000
namespace nodeChecks
theorem walk (w : World) (T : Option Addr) (N Nc : Nat) (zs : List Int) (hz : Sl (· < w.heap.size) w 1 T N (zs.map (Value.int .i64))) (hN : N ≤ 9223372036854775807) (n : NodeV) (hT : Tabs w) (hi : n.In w) (hm : n.Small) :
    Calls Tryd.prog 3 #[.slice T N Nc, n.val] w fun e w' => e = .returned (.bool true) ∧ Below w.heap.size w w' := by
  have H1 := Lib.hid (fun W hT (hi : n.In W) hz => NodeCheck_c W T N Nc zs n hT hi hm hz hN)
  have H2 := Lib.hid (fun W hT (hi : n.In W) hz => NodeFault_c W T N Nc zs n hT hi hm hz hN)
  have HT := Lib.hid hT
  have HZ := Lib.hid hz
  have HI := Lib.hid hi
  clear hT hz hi hm
  generalize nodeFault zs n = er at *
  have HA := Lib.hid (OneAt.new w n)
  obtain ⟨WA, hWA⟩ : ∃ WA, WA = w.alloc (.cells #[.int .i64 n.me, .int .i64 n.ep, .int .i64 n.up, .bool n.rd, .string n.t, .slice n.sA n.S.length n.sc, .slice n.uA n.U.length n.uc, .slice n.mA n.M.length n.mc] 28) := ⟨_, rfl⟩
  rw [← hWA] at HA
  have HW := Lib.hid hWA.symm
  clear hWA
  go_enter Tryd.func3, Tryd.ntmps3
  go_wp2_with fail
  rw [HW.out]
  refine (H1.out _ (HT.out.later HA.out.b) (HI.out.later HA.out.b) (Sl.later HZ.out HA.out.b)).mono ?_
  rintro r w1 ⟨rfl, hb1⟩
  have HB := Lib.hid (HA.out.later hb1)
  obtain ⟨n0, n1, n2, n3, n4, n5, n6, n7, nz⟩ := node_cell HB.out.nd
  clear hb1
  go_wp2_with fail
  refine (H2.out _ (HT.out.later HB.out.b) (HI.out.later HB.out.b) (Sl.later HZ.out HB.out.b)).mono ?_
  rintro r w2 ⟨rfl, hb2⟩
  go_wp2_with fail
  go_ret
  exact ⟨by simp, bThen HB.out.b hb2⟩
theorem contract (H : Type) (enc : TypeId × Value → H) (W : World) (base : Nat) (args : Array Value) (ds gs : List (DataW H)) (before : List MemPlace)
    (hval0 : ∀ (j : Nat) t v, Tryd.f3.params[j]? = some t → args[j]? = some v → Value.okWide Tryd.prog W .any base t v)
    (hW : DataW.Whole enc Tryd.prog Tryd.f3.params.toList Rows.nodeChecksSpec.vars false W args.toList ds gs before) (hk : Rows.uptoSmall H (ds ++ gs) = true) (hT : Tabs W) :
    Calls Tryd.prog 3 args W fun e W' => ∃ v, e = .returned v ∧ Rows.nodeChecksSpec.post enc Tryd.prog Tryd.f3 false true false false W args v W' := by
  have hval : ∀ (j : Nat) t v, Tryd.f3.params[j]? = some t → args[j]? = some v → Value.okWide Tryd.prog W .any base t v := hval0
  have hW' := hW
  obtain ⟨p, q, hA0, hV, rfl, hfz, hnd⟩ := hW
  have hA : DataW.TrodAll enc Tryd.prog W 0 (fun _ => true) true Tryd.f3.params.toList args.toList ds p := hA0
  rw [Tryd.params3] at hA hval
  obtain ⟨rfl, rfl⟩ := trodVars_none hV
  obtain ⟨v0, vs0, d0, ds0, p0, q0, hargs, rfl, rfl, h0, r0⟩ := trodAll_cons hA
  obtain ⟨v1, vs1, d1, ds1, p1, q1, rfl, rfl, rfl, h1, r1⟩ := trodAll_cons r0
  obtain ⟨rfl, rfl, rfl⟩ := trodAll_nil r1
  obtain rfl : args = #[v0, v1] := by cases args; simp_all
  have hbulk := bulk_small hk
  have hb0 := Nat.le_trans (bulk_mem (show d0 ∈ [d0, d1] ++ [] by simp)) hbulk
  have hb1 := Nat.le_trans (bulk_mem (show d1 ∈ [d0, d1] ++ [] by simp)) hbulk
  obtain ⟨T, N, Nc, zs, rfl, hnc, hcm, hz, _⟩ := sl_ints Tryd.underlying23 Tryd.underlying3 (by kernel_rfl) (hval 0 23 v0 rfl rfl) h0
  have hN : N ≤ 9223372036854775807 := by omega
  obtain ⟨cs, rfl, _⟩ := okWide_struct Tryd.underlying28 (hval 1 28 v1 rfl rfl)
  obtain ⟨m, hm⟩ := h1
  obtain ⟨n, hv, hi, hfit⟩ := open_node hm hb1
  obtain ⟨l⟩ := cs
  obtain rfl : l = _ := hv
  refine (walk W T N Nc zs hz hN n hT hi hfit.small).mono fun e W' ⟨he, hg⟩ => ?_
  subst he
  exact ⟨_, rfl, post_law (tb := 4) laidOut (by kernel_rfl) rfl (by kernel_rfl) Tryd.underlying4 rfl hW' hg⟩
theorem reads (os : Os) {H : Type} (enc : TypeId × Value → H) : ∃ places, DataW.whole enc Tryd.prog ((laidWorld os).forCall (fun _ _ => 0) ⟨#[], #[.slice none 0 0, .agg #[.int .i64 0, .int .i64 0, .int .i64 0, .bool false, .string ⟨#[]⟩, .slice none 0 0, .slice none 0 0, .slice none 0 0]], []⟩).memory Tryd.f3.params.toList Rows.nodeChecksSpec.vars false #[.slice none 0 0, .agg #[.int .i64 0, .int .i64 0, .int .i64 0, .bool false, .string ⟨#[]⟩, .slice none 0 0, .slice none 0 0, .slice none 0 0]].toList 8 = some ([.nil, .agg [.lit (.int .i64 0), .lit (.int .i64 0), .lit (.int .i64 0), .lit (.bool false), .lit (.string []), .nil, .nil, .nil]], [], places) := by
  have hw : (DataW.whole enc Tryd.prog ((laidWorld os).forCall (fun _ _ => 0) ⟨#[], #[.slice none 0 0, .agg #[.int .i64 0, .int .i64 0, .int .i64 0, .bool false, .string ⟨#[]⟩, .slice none 0 0, .slice none 0 0, .slice none 0 0]], []⟩).memory Tryd.f3.params.toList Rows.nodeChecksSpec.vars false #[.slice none 0 0, .agg #[.int .i64 0, .int .i64 0, .int .i64 0, .bool false, .string ⟨#[]⟩, .slice none 0 0, .slice none 0 0, .slice none 0 0]].toList 8).map (fun x => (x.1, x.2.1)) = some ([.nil, .agg [.lit (.int .i64 0), .lit (.int .i64 0), .lit (.int .i64 0), .lit (.bool false), .lit (.string []), .nil, .nil, .nil]], []) := by kernel_rfl
  obtain ⟨⟨x1, x2, x3⟩, hx, hx1⟩ := Option.map_eq_some_iff.1 hw
  simp only [Prod.mk.injEq] at hx1
  obtain ⟨rfl, rfl⟩ := hx1
  exact ⟨x3, hx⟩
theorem lifted (os : Os) (started : os.Started) (H : Type) (enc : TypeId × Value → H) (F : Stop.Interp) :
    ReturnsInHanded {} Tryd.checked os 3 .any ((Rows.OpenSpec.upto Rows.nodeChecksSpec).preRow enc Tryd.prog Tryd.f3 Rows.nodeChecksUptoRow.domain false Rows.nodeChecksUptoRow.laid) (((Rows.OpenSpec.upto Rows.nodeChecksSpec).at F).post enc Tryd.prog Tryd.f3 false true false false) := by
  obtain ⟨places, hx⟩ := reads os enc
  refine returnsInHanded_of_row (C := Tryd.checked) (s := Rows.OpenSpec.upto Rows.nodeChecksSpec) own started (by kernel_rfl) Tryd.func3
    (witness_row_atRef (enc := enc) (C := Tryd.checked) false (laidWorld os) #[.slice none 0 0, .agg #[.int .i64 0, .int .i64 0, .int .i64 0, .bool false, .string ⟨#[]⟩, .slice none 0 0, .slice none 0 0, .slice none 0 0]] rfl (by kernel_rfl) (by kernel_rfl) (by kernel_rfl)
      (OpenSpec.preRow_of_cond 8 hx (by kernel_rfl) (fun k hk => by cases hk; kernel_rfl) (by kernel_rfl) (laid_met os _))) ?_
  intro W base args ds gs before hval hW _ hcond _ hL _ _
  exact contract H enc W base args ds gs before hval hW (hcond _ rfl) (tabs_of hL)
theorem said : Rows.NodeChecksUptoSaid :=
  OpenClaim.holds_of_cond 3 Tryd.f3 rfl rfl rfl rfl rfl rfl rfl ⟨rfl, rfl, rfl, rfl, rfl⟩ rfl rfl rfl rfl rfl (by kernel_rfl) Tryd.func3 (by kernel_rfl)
    (of_decide_eq_true (by kernel_rfl)) (by unfold Func.isWrapper; first | (rw [if_pos (by decide +kernel)]; kernel_rfl) | (rw [if_neg (by decide +kernel)]; exact ⟨rfl, rfl⟩))
    (fun os started H enc _ F => by rw [OpenClaim.pre_eq_preRow]; exact lifted os started H enc F)
theorem plain (f : FuncId) (fn : Func) (hf : Tryd.pinned.checked.prog.funcNamed "wherry/wherrylaw.NodeChecks" = some f) (hfn : Tryd.pinned.checked.prog.funcs[f]? = some fn) :
    false = Tryd.pinned.checked.prog.looks [] ∧ ∀ (j : Nat) t, fn.params[j]? = some t → Tryd.pinned.checked.prog.wantsStandIn t = false := by
  obtain rfl : f = 3 := Option.some.inj ((show Tryd.prog.funcNamed "wherry/wherrylaw.NodeChecks" = some 3 by kernel_rfl).symm.trans hf) |>.symm
  obtain rfl : fn = Tryd.f3 := (Option.some.inj (Tryd.func3.symm.trans hfn)).symm
  refine ⟨by kernel_rfl, fun j t ht => ?_⟩
  have hall : (Tryd.f3.params.toList.all fun u => !Tryd.prog.wantsStandIn u) = true := by kernel_rfl
  have hm : t ∈ Tryd.f3.params.toList := by simpa using Array.mem_of_getElem? ht
  exact (show Tryd.prog.wantsStandIn t = false by simpa using List.all_eq_true.1 hall t hm)
theorem card : Rows.NodeChecksUptoCardSaid :=
  Claim7.holds_tied_plain_at .later [] _ _ _ _ said (fun _ h => by cases h) (by kernel_rfl) (fun _ h => by cases h) nodeChecksUpto_row_tie rfl ⟨rfl, rfl⟩ (by kernel_rfl) rfl plain (by kernel_rfl)
end nodeChecks
end Go.Proofs.YtbmdepbmejnlkaaDoor
