/- A part of the proof of NodeUndoes. -/
import Derived.Test.YtacacoklddogmaaGreatDoorKFB
import Derived.Test.YtacacoklddogmaaGreatDoorKFC
import Derived.Test.YtacacoklddogmaaGreatDoorKFA
namespace Go.Proofs.YtacacoklddogmaaGreatDoor
set_option maxHeartbeats 4000000
open Go.ChangeShapes Go.WideShapes Go.ChangeAt Go.RowKit
set_option maxRecDepth 100000
theorem nl_ (s : ByteArray) : ∀ (n i : Nat) (r : List UInt8), s.size - i = n → (ByteArray.toList.loop s i r).length = r.length + n
 | 0, i, r, h => by
  unfold ByteArray.toList.loop
  rw [if_neg (by omega)]
  simp
 | n + 1, i, r, h => by
  unfold ByteArray.toList.loop
  rw [if_pos (by omega), nl_ s n (i + 1) _ (by omega)]
  simp only [List.length_cons]
  omega
theorem nlen (s : ByteArray) : s.toList.length = s.size := by
 unfold ByteArray.toList
 rw [nl_ s s.size 0 [] (by omega)]
 simp
theorem hd_ {s : ByteArray} : s.toList = [] ↔ s.size = 0 := by
 rw [← nlen s]
 exact ⟨fun h => by rw [h]; rfl, fun h => List.eq_nil_of_length_eq_zero h⟩
theorem ny_ {zs : List Int} {me : Int} (h : 0 < me) : 0 < (peers zs me).length := by
 unfold peers peerHead
 rw [if_pos h]
 simp
theorem qt_ {zs : List Int} {me : Int} (h : zs.length ≤ 7) : (peers zs me).length ≤ 8 := by
 have := gs_ zs me zs.length
 show (upK zs me zs.length).length ≤ 8
 omega
theorem zp_ {a b : Nat} (h1 : a ≤ 1048576) (h2 : b ≤ 1048576) : wrap64 ((a : Int) + (b : Int)) = ((a + b : Nat) : Int) := by
 unfold wrap64
 omega
def nodeRest (zs : List Int) (n : NodeV) : Prop := undoOk (runesI n.t) (n.U.map OpV.ps).reverse ∧ sidesOk zs n ∧ parentOk n ∧ ∀ m ∈ n.M, markOk (runesI n.t) m
theorem hy_ {zs : List Int} {n : NodeV} (h1 : nodeNums zs n) (h2 : nodeLens zs n) : nodeMay zs n ↔ nodeRest zs n :=
 ⟨fun h => h.2.2, fun h => ⟨h1, h2, h⟩⟩
theorem iu_ (w : World) (T : Option Addr) (N Nc : Nat) (zs : List Int) (n : NodeV) (hT : Tabs w) (hi : n.In w) (hm : n.Small) (hz : Sl (· < w.heap.size) w 1 T N (zs.map (Value.int .i64))) (hN : N ≤ 9223372036854775807) :
 Calls Tryz.prog 43 #[.slice T N Nc, n.val] w (R_ w (.int .i64 (nodeFault zs n))) := by
 have hl : zs.length = N := by have := hz.1; simpa using this
 have HC : ∀ W, Below w.heap.size w W → Calls Tryz.prog 83 #[.slice T N Nc] W fun e w' => e = .returned (.int .i64 (treeFault zs)) ∧ W = w' := fun W hb => rh_ W T N Nc zs (Sl.later hz hb) hN
 have HX := fun W hT => bd_ n.t W hT hm.text
 by_cases h0 : treeFault zs = 0
 · rw [h0] at HC
   obtain ⟨t1, t2, _⟩ := gc_ h0
   by_cases hn : nodeNums zs n
   · obtain ⟨⟨a1, a2⟩, ⟨a3, a4⟩, ⟨a5, a6⟩, a7, a8⟩ := hn
     rw [a8] at HX
     have HL := fun W (hb : Below w.heap.size w W) => qq_ W T N Nc zs (Sl.later hz hb) h0 n.me a1 a2
     have HU0 := fun W (hb : Below w.heap.size w W) => baf_ W n (hT.later hb) (hi.undo.later hb) hm.ul hm.undo hm.text
     have b1 : decide (n.me < 0) = false := by simpa using a1
     have b2 : decide ((N : Int) ≤ n.me) = false := by simp; omega
     have b3 : decide (n.ep < 1) = false := by simp; omega
     have b4 : decide (1048576 ≤ n.ep) = false := by simp; omega
     have b5 : decide (n.up < 0) = false := by simp; omega
     have b6 : decide (1048576 < n.up) = false := by simp; omega
     have hwu := zp_ hm.ul hm.ml
     have hund : nodeMay zs n → undoOk (runesI n.t) (n.U.map OpV.ps).reverse := fun h => h.2.2.1
     by_cases hln : nodeLens zs n ∧ undoOk (runesI n.t) (n.U.map OpV.ps).reverse
     · have hr := hy_ (zs := zs) (n := n) ⟨⟨a1, a2⟩, ⟨a3, a4⟩, ⟨a5, a6⟩, a7, a8⟩ hln.1
       obtain ⟨⟨l1, l2, l3, l4⟩, hu⟩ := hln
       have HU : ∀ W, Below w.heap.size w W → Calls Tryz.prog 86 #[n.val] W (R_ W (.bool true)) := fun W hb => (HU0 W hb).mono fun _ _ ⟨⟨b, e, k⟩, h⟩ => ⟨by rw [e, k.2 ⟨hu, l2⟩], h⟩
       have HSD : ∀ W x, Tabs W → x ∈ n.S → x.In W → Calls Tryz.prog 87 #[n.val, x.val] W fun r w' => (∃ b : Bool, r = .returned (.bool b) ∧ (b = true ↔ sideMay n.rd (runesI n.t) x)) ∧ Below W.heap.size W w' := fun W x hT hx hi => bae_ W n x hT hi (hm.sides x hx) hm.text
       have HRC := fun W => cg_ n.t W hm.text
       have hg : nodeMay zs n ↔ ((∀ i (h : i < n.S.length), n.S[i].p = (peers zs n.me).getD i 0 ∧ sideMay n.rd (runesI n.t) n.S[i]) ∧ (0 < n.me → ∀ x, n.S.head? = some x → x.j = n.rd) ∧ ∀ m ∈ n.M, markOk (runesI n.t) m) :=
        hr.trans ⟨fun k => k.2, fun k => ⟨hu, k⟩⟩
       have hs8 : n.S.length ≤ 8 := by rw [← l1]; exact qt_ t2
       have h9 : ¬ ((∀ i (h : i < n.S.length), n.S[i].p = (peers zs n.me).getD i 0 ∧ sideMay n.rd (runesI n.t) n.S[i]) ∧ (0 < n.me → ∀ x, n.S.head? = some x → x.j = n.rd) ∧ ∀ m ∈ n.M, markOk (runesI n.t) m) → nodeFault zs n = 9 := fun k => br_ h0 (fun q => k (hg.1 q))
       have hz0 : ((∀ i (h : i < n.S.length), n.S[i].p = (peers zs n.me).getD i 0 ∧ sideMay n.rd (runesI n.t) n.S[i]) ∧ (0 < n.me → ∀ x, n.S.head? = some x → x.j = n.rd) ∧ ∀ m ∈ n.M, markOk (runesI n.t) m) → nodeFault zs n = 0 := fun k => eh_ h0 (hg.2 k)
       by_cases hme : 0 < n.me
       · have hpp : 0 < n.S.length := by rw [← l1]; exact ny_ hme
         cases hrd : n.rd with
         | true => exact kx_ w T N Nc zs n hT hi hz hN (peers zs n.me) b1 b2 b3 b4 b5 b6 (by simp; omega) (by simpa using hme) hrd hwu l1 l3 hs8 hpp _ h9 hz0 HC HX HL HU HSD HRC
         | false =>
          obtain ⟨_, q2, q3, q4⟩ := l4 hrd
          exact kw_ w T N Nc zs n hT hi hz hN (peers zs n.me) b1 b2 b3 b4 b5 b6 (by simp; omega) (by simpa using hme) hrd (hd_.2 q2) hwu l1 l3 (by show _ = _; omega) hs8 hpp _ h9 hz0 HC HX HL HU HSD HRC
       · have hme0 : n.me = 0 := by omega
         cases hrd : n.rd with
         | true => exact ky_ w T N Nc zs n hT hi hz hN (peers zs n.me) b1 b2 b3 b4 b5 b6 (by simpa using hme0) (by simp; omega) (by simp; omega) hrd hwu l1 l3 hs8 _ h9 hz0 HC HX HL HU HSD HRC
         | false => exact absurd hme0 (l4 hrd).1
     · rw [br_ h0 (fun k => hln ⟨k.2.1, hund k⟩)]
       have HU : ∃ ub : Bool, (ub = true ↔ undoOk (runesI n.t) (n.U.map OpV.ps).reverse ∧ n.U.length ≤ 12) ∧ ∀ W, Below w.heap.size w W → Calls Tryz.prog 86 #[n.val] W (R_ W (.bool ub)) := by
        by_cases hu : undoOk (runesI n.t) (n.U.map OpV.ps).reverse ∧ n.U.length ≤ 12
        · exact ⟨true, by simp [hu], fun W hb => (HU0 W hb).mono fun _ _ ⟨⟨b, e, k⟩, h⟩ => ⟨by rw [e, k.2 hu], h⟩⟩
        · exact ⟨false, by simpa using hu, fun W hb => (HU0 W hb).mono fun _ _ ⟨⟨b, e, k⟩, h⟩ => ⟨by rw [e]; cases b; rfl; exact absurd (k.1 rfl) hu, h⟩⟩
       obtain ⟨ub, hub, HU⟩ := HU
       have H : ¬ ((peers zs n.me).length = n.S.length ∧ ub = true ∧ n.M.length ≤ 1 ∧ (n.rd = false → n.me ≠ 0 ∧ n.t.toList = [] ∧ n.U.length = 0 ∧ n.M.length = 0)) := fun ⟨k1, k2, k3, k4⟩ =>
        hln ⟨⟨k1, (hub.1 k2).2, k3, fun q => ⟨(k4 q).1, hd_.1 (k4 q).2.1, (k4 q).2.2⟩⟩, (hub.1 k2).1⟩
       by_cases hme : 0 < n.me
       · exact kg_ w T N Nc zs n hT hi hz hN (peers zs n.me) ub b1 b2 b3 b4 b5 b6 (by simp; omega) (by simpa using hme) hwu H HC HX HL HU
       · have hme0 : n.me = 0 := by omega
         exact kh_ w T N Nc zs n hT hi hz hN (peers zs n.me) ub b1 b2 b3 b4 b5 b6 (by simpa using hme0) (by simp; omega) (by simp; omega) hwu H HC HX HL HU
   · rw [br_ h0 (fun k => hn k.1)]
     exact mi_ w T N Nc zs n hT hi hz hN (textFault n.t) (by unfold nodeNums at hn; rwa [hl] at hn) HC HX
 · rw [dg_ h0]
   exact mj_ w T N Nc zs n hT hi hz hN _ (by simpa using h0) HC
theorem lc_ (w : World) (T : Option Addr) (N Nc : Nat) (n : NodeV) (er : Int) (_he : (er != 0) = true) (HC : Hid (∀ W, Below w.heap.size w W → Calls Tryz.prog 54 #[.slice T N Nc] W fun e w' => e = .returned (.int .i64 er) ∧ W = w')) :
 Calls Tryz.prog 22 #[.slice T N Nc, n.val] w (R_ w (.int .i64 er)) := by
 have HA := h_ (OneAt.new w n)
 obtain ⟨WA, hWA⟩ : ∃ WA, WA = w.alloc (.cells #[.int .i64 n.me, .int .i64 n.ep, .int .i64 n.up, .bool n.rd, .string n.t, .slice n.sA n.S.length n.sc, .slice n.uA n.U.length n.uc, .slice n.mA n.M.length n.mc] 28) := ⟨_, rfl⟩
 rw [← hWA] at HA
 have HW := h_ hWA.symm
 clear hWA
 go_enter Tryz.func22, Tryz.ntmps22
 go_wp2_with fail
 rw [HW.out]
 refine (HC.out _ HA.out.b).mono ?_
 rintro e w1 ⟨rfl, rfl⟩
 obtain ⟨n0, n1, n2, n3, n4, n5, n6, n7, nz⟩ := d_ HA.out.nd
 go_wp2_with fail
 go_ret
 exact ⟨rfl, HA.out.b⟩
theorem dj_ (w : World) (T : Option Addr) (N Nc : Nat) (zs : List Int) (n : NodeV) (hT : Tabs w) (hi : n.In w) (hm : n.Small) (hz : Sl (· < w.heap.size) w 1 T N (zs.map (Value.int .i64))) (hN : N ≤ 9223372036854775807) :
 Calls Tryz.prog 22 #[.slice T N Nc, n.val] w (R_ w (.int .i64 (nodeFault zs n))) := by
 have hl : zs.length = N := by have := hz.1; simpa using this
 have HC : ∀ W, Below w.heap.size w W → Calls Tryz.prog 54 #[.slice T N Nc] W fun e w' => e = .returned (.int .i64 (treeFault zs)) ∧ W = w' := fun W hb => rr_ W T N Nc zs (Sl.later hz hb) hN
 have HX := fun W hT => be_ n.t W hT hm.text
 by_cases h0 : treeFault zs = 0
 · rw [h0] at HC
   obtain ⟨t1, t2, _⟩ := gc_ h0
   have hN0 : 0 < N := by omega
   have hN7 : N ≤ 7 := by omega
   have hne : ∀ {P : Prop}, (nodeMay zs n → P) → ¬ P → nodeFault zs n = 9 := fun k q => br_ h0 (fun h => q (k h))
   by_cases m1 : ¬ (0 ≤ n.me ∧ n.me ≤ (N : Int) - 1)
   · rw [hne (fun h => ⟨h.1.1.1, by have := h.1.1.2; omega⟩) m1]
     exact po_ w T N Nc n hT hi hN0 hN7 (by show n.me < 0 ∨ _; omega) HC
   replace m1 := Classical.not_not.1 m1
   by_cases m2 : ¬ (1 ≤ n.ep ∧ n.ep ≤ 1048575)
   · rw [hne (fun h => ⟨h.1.2.1.1, by have := h.1.2.1.2; omega⟩) m2]
     exact pn_ w T N Nc n hT hi hN0 hN7 m1 (by show n.ep < 1 ∨ _; omega) HC
   replace m2 := Classical.not_not.1 m2
   by_cases m3 : ¬ (0 ≤ n.up ∧ n.up ≤ 1048576)
   · rw [hne (fun h => h.1.2.2.1) m3]
     exact pp_ w T N Nc n hT hi hN0 hN7 m1 m2 (by show n.up < 0 ∨ _; omega) HC
   replace m3 := Classical.not_not.1 m3
   by_cases m4 : n.me = 0 ∧ 0 < n.up
   · rw [br_ h0 (fun h => h.1.2.2.2.1 m4)]
     exact pq_ w T N Nc n hT hi hN0 hN7 m1 m2 m3 (by simpa using m4.1) (by simp; omega) HC
   by_cases m5 : ¬ textFault n.t = 0
   · rw [br_ h0 (fun h => m5 h.1.2.2.2.2)]
     by_cases hme : 0 < n.me
     · exact mk_ w T N Nc n hT hi hN0 hN7 m1 m2 m3 (by simp; omega) (by simpa using hme) _ (by simpa using m5) HC HX
     · exact ml_ w T N Nc n hT hi hN0 hN7 m1 m2 m3 (by simp; omega) (by simp; omega) (by simp; omega) _ (by simpa using m5) HC HX
   replace m5 := Classical.not_not.1 m5
   rw [m5] at HX
   have hn : nodeNums zs n := ⟨⟨m1.1, by omega⟩, ⟨m2.1, by omega⟩, m3, m4, m5⟩
   have HL := fun W (hb : Below w.heap.size w W) => wq_ W T N Nc zs (Sl.later hz hb) h0 n.me m1.1 (by omega)
   by_cases hln : nodeLens zs n
   · have hr := hy_ (zs := zs) (n := n) hn hln
     obtain ⟨l1, l2, l3, l4⟩ := hln
     have HSD : ∀ W x, Tabs W → x ∈ n.S → x.In W → Calls Tryz.prog 61 #[n.val, x.val] W fun r w' => (∃ b : Bool, r = .returned (.bool b) ∧ (b = true ↔ sideMay n.rd (runesI n.t) x)) ∧ Below W.heap.size W w' := fun W x hT hx hi => xc_ W n x hT hi (hm.sides x hx) hm.text
     have HRC := fun W => gq_ n.t W hm.text
     have HMK := fun W m => we_ W n.t m hm.text
     have HLO : ∀ W (q : OpV), q ∈ n.U → OpIn (· < W.heap.size) W q.A q.ps → Calls Tryz.prog 59 #[.slice q.A q.ps.length q.c] W (R_ W (.tuple #[.int .i64 (lens q.ps).1, .int .i64 (lens q.ps).2])) := fun W q hq hs => bi_ W q.A q.c q.ps hs (hm.undo q hq).len (hm.undo q hq).text
     have HOF : ∀ W (q : OpV), Tabs W → q ∈ n.U → OpIn (· < W.heap.size) W q.A q.ps → Calls Tryz.prog 60 #[.slice q.A q.ps.length q.c] W (R_ W (.int .i64 (opFault q.ps))) := fun W q hT hq hs => bc_ W q.A q.c q.ps hT hs (hm.undo q hq).len (hm.undo q hq).text
     have hs8 : n.S.length ≤ 8 := by rw [← l1]; exact qt_ t2
     have h9 : ¬ nodeRest zs n → nodeFault zs n = 9 := fun k => br_ h0 (fun q => k (hr.1 q))
     have hz0 : nodeRest zs n → nodeFault zs n = 0 := fun k => eh_ h0 (hr.2 k)
     by_cases hme : 0 < n.me
     · have hpp : 0 < n.S.length := by rw [← l1]; exact ny_ hme
       cases hrd : n.rd with
       | true => exact la_ w T N Nc n hT hi hN0 hN7 (peers zs n.me) m1 m2 m3 (by simp; omega) (by simpa using hme) hrd l1 l3 l2 hs8 hpp _ h9 hz0 HC HX HL HSD HRC HMK HLO HOF
       | false =>
        obtain ⟨_, q2, q3, q4⟩ := l4 hrd
        exact kz_ w T N Nc n hT hi hN0 hN7 (peers zs n.me) m1 m2 m3 (by simp; omega) (by simpa using hme) hrd (hd_.2 q2) l1 l3 l2 ⟨q3, q4⟩ hs8 hpp _ h9 hz0 HC HX HL HSD HRC HMK HLO HOF
     · have hme0 : n.me = 0 := by omega
       cases hrd : n.rd with
       | true => exact lb_ w T N Nc n hT hi hN0 hN7 (peers zs n.me) m1 m2 m3 (by simpa using hme0) (by simp; omega) (by simp; omega) hrd l1 l3 l2 hs8 _ h9 hz0 HC HX HL HSD HRC HMK HLO HOF
       | false => exact absurd hme0 (l4 hrd).1
   · rw [br_ h0 (fun k => hln k.2.1)]
     have H : ¬ ((peers zs n.me).length = n.S.length ∧ n.U.length ≤ 12 ∧ n.M.length ≤ 1 ∧ (n.rd = false → n.me ≠ 0 ∧ n.t.toList = [] ∧ n.U.length = 0 ∧ n.M.length = 0)) := fun ⟨k1, k2, k3, k4⟩ =>
      hln ⟨k1, k2, k3, fun q => ⟨(k4 q).1, hd_.1 (k4 q).2.1, (k4 q).2.2⟩⟩
     by_cases hme : 0 < n.me
     · exact ki_ w T N Nc n hT hi hN0 hN7 (peers zs n.me) m1 m2 m3 (by simp; omega) (by simpa using hme) H HC HX HL
     · exact kj_ w T N Nc n hT hi hN0 hN7 (peers zs n.me) m1 m2 m3 (by simp; omega) (by simp; omega) (by simp; omega) H HC HX HL
 · rw [dg_ h0]
   exact lc_ w T N Nc n _ (by simpa using h0) HC
theorem mapLen {α β : Type} {f : α → β} {L L' : List α} (h : L'.map f = L.map f) : L'.length = L.length := by rw [← List.length_map (f := f), h, List.length_map]
theorem ps_at {L L' : List OpV} (h : L'.map OpV.ps = L.map OpV.ps) (i : Nat) : L'[i]?.map OpV.ps = L[i]?.map OpV.ps := by
 have := congrArg (fun l => l[i]?) h
 simpa using this
theorem yy_ {L L' : List OpV} (h : L'.map OpV.ps = L.map OpV.ps) (i : Nat) : badOp L' i = badOp L i := by
 have h1 := ps_at h i
 have hl := mapLen h
 unfold badOp
 by_cases hi : i < L.length
 · have hi' : i < L'.length := by omega
   rw [List.getElem?_eq_getElem hi, List.getElem?_eq_getElem hi'] at h1
   simp only [Option.map_some, Option.some.injEq] at h1
   rw [List.getElem?_eq_getElem hi, List.getElem?_eq_getElem hi']
   dsimp only
   rw [h1]
   rcases i with _ | i
   · rfl
   · have h2 := ps_at h i
     have hj : i < L.length := by omega
     have hj' : i < L'.length := by omega
     rw [List.getElem?_eq_getElem hj, List.getElem?_eq_getElem hj'] at h2
     simp only [Option.map_some, Option.some.injEq] at h2
     dsimp only
     rw [List.getElem?_eq_getElem hj, List.getElem?_eq_getElem hj']
     dsimp only
     rw [h2]
 · rw [List.getElem?_eq_none (by omega), List.getElem?_eq_none (by omega)]
theorem hp_ {s h : Int} {L L' : List OpV} (hd : L'.map OpV.ps = L.map OpV.ps) (hk : edgeMay s h L) : edgeMay s h L' := by
 obtain ⟨k1, k2, k3⟩ := hk
 have hl := mapLen hd
 exact ⟨k1, by omega, fun i hi => by rw [yy_ hd]; exact k3 i (by omega)⟩
theorem tz_ {r : Int} {L L' : List OpV} (hd : L'.map OpV.ps = L.map OpV.ps) (hk : lastFits r L) : lastFits r L' := by
 intro o ho
 have h1 := congrArg List.getLast? hd
 rw [List.getLast?_map, List.getLast?_map, ho] at h1
 rcases hq : L.getLast? with _ | q
 · rw [hq] at h1
   cases h1
 · rw [hq] at h1
   simp only [Option.map_some, Option.some.injEq] at h1
   rw [h1]
   exact hk q hq
theorem xd_ {rd : Bool} {r : Int} {x x' : SideV} (h : x'.d = x.d) (hk : sideMay rd r x) : sideMay rd r x' := by
 obtain ⟨p, j, s, hh, A, c, L, k⟩ := x
 obtain ⟨p', j', s', hh', A', c', L', k'⟩ := x'
 simp only [SideV.d, SideD.mk.injEq] at h
 obtain ⟨rfl, rfl, rfl, rfl, h5, h6⟩ := h
 obtain ⟨⟨k1, k2⟩, k3⟩ := hk
 refine ⟨⟨hp_ h5 k1, hv_ h6 k2⟩, ?_⟩
 dsimp only at k3 ⊢
 have he : k'.e = k.e := by
  have := congrArg LinkD.e h6
  exact this
 by_cases hj : j' = false
 · rw [if_pos hj] at k3 ⊢
   exact k3
 · rw [if_neg hj] at k3 ⊢
   exact ⟨tz_ h5 k3.1, k3.2.1, by rw [he]; exact k3.2.2⟩
theorem nm_ {zs : List Int} {n n' : NodeV} (h : n'.d = n.d) (hk : nodeMay zs n) : nodeMay zs n' := by
 obtain ⟨me, ep, up, rd, t, sA, sc, S, uA, uc, U, mA, mc, M⟩ := n
 obtain ⟨me', ep', up', rd', t', sA', sc', S', uA', uc', U', mA', mc', M'⟩ := n'
 simp only [NodeV.d, NodeD.mk.injEq] at h
 obtain ⟨rfl, rfl, rfl, rfl, rfl, h6, h7, rfl⟩ := h
 have l6 := mapLen h6
 have l7 := mapLen h7
 obtain ⟨k1, k2, k3, k4, k5, k6⟩ := hk
 refine ⟨k1, ?_, ?_, ?_, ?_, k6⟩
 · unfold nodeLens at k2 ⊢
   dsimp only at k2 ⊢
   rw [l6, l7]
   exact k2
 · dsimp only at k3 ⊢
   rw [h7]
   exact k3
 · intro i hi
   have hi' : i < S.length := by (try dsimp only at hi); omega
   have h1 := k4 i hi'
   have h2 := sd_at h6 hi' hi
   dsimp only at h1 ⊢
   have hp : S'[i].p = S[i].p := congrArg SideD.p h2
   exact ⟨by rw [hp]; exact h1.1, xd_ h2 h1.2⟩
 · intro hm x hx
   dsimp only at hx ⊢
   have h1 := congrArg List.head? h6
   rw [List.head?_map, List.head?_map, hx] at h1
   rcases hq : S.head? with _ | q
   · rw [hq] at h1
     cases h1
   · rw [hq] at h1
     simp only [Option.map_some, Option.some.injEq] at h1
     have hj : x.j = q.j := congrArg SideD.j h1
     rw [hj]
     exact k5 hm q hq
theorem jg_ {zs : List Int} {n n' : NodeV} (h : n'.d = n.d) : nodeFault zs n' = nodeFault zs n := by
 by_cases ht : treeFault zs = 0
 · by_cases hk : nodeMay zs n
   · rw [eh_ ht hk, eh_ ht (nm_ h hk)]
   · rw [br_ ht hk, br_ ht (fun q => hk (nm_ h.symm q))]
 · rw [dg_ ht, dg_ ht]
theorem fc_ {L L' : List OpV} (h : L'.map OpV.ps = L.map OpV.ps) (hk : ∀ o ∈ L, o.Small) : ∀ o ∈ L', o.Small := by
 intro o ho
 have : o.ps ∈ L.map OpV.ps := by rw [← h]; exact List.mem_map.2 ⟨o, ho, rfl⟩
 obtain ⟨q, hq, e⟩ := List.mem_map.1 this
 obtain ⟨o1, o2⟩ := hk q hq
 exact ⟨e ▸ o1, e ▸ o2⟩
theorem SideV.Small.of_d {x x' : SideV} (h : x'.d = x.d) (hk : x.Small) : x'.Small := by
 have h5 : x'.L.map OpV.ps = x.L.map OpV.ps := congrArg SideD.L h
 exact ⟨by rw [mapLen h5]; exact hk.len, fc_ h5 hk.ops, LinkV.Small.of_d (congrArg SideD.k h) hk.link⟩
theorem NodeV.Small.of_d {n n' : NodeV} (h : n'.d = n.d) (hk : n.Small) : n'.Small := by
 have h6 : n'.S.map SideV.d = n.S.map SideV.d := congrArg NodeD.S h
 have h7 : n'.U.map OpV.ps = n.U.map OpV.ps := congrArg NodeD.U h
 have h8 : n'.M = n.M := congrArg NodeD.M h
 have h4 : n'.t = n.t := congrArg NodeD.t h
 refine ⟨by rw [h4]; exact hk.text, by rw [mapLen h6]; exact hk.sl, fun x hx => ?_, by rw [mapLen h7]; exact hk.ul, fc_ h7 hk.undo, by rw [h8]; exact hk.ml⟩
 have : x.d ∈ n.S.map SideV.d := by rw [← h6]; exact List.mem_map.2 ⟨x, hx, rfl⟩
 obtain ⟨q, hq, e⟩ := List.mem_map.1 this
 exact SideV.Small.of_d e.symm (hk.sides q hq)
abbrev turnCells (n : NodeV) (P R : Value) : Array Value := #[.int .i64 n.me, .int .i64 n.ep, .int .i64 n.up, .bool n.rd, .string n.t, .slice n.sA n.S.length n.sc, .slice n.uA n.U.length n.uc, .slice n.mA n.M.length n.mc, P, R]
theorem xt_ (w : World) (T : Option Addr) (N Nc : Nat) (zs : List Int) (n : NodeV) (hT : Tabs w) (hi : n.In w) (hm : n.Small) (hz : Sl (· < w.heap.size) w 1 T N (zs.map (Value.int .i64))) (hN : N ≤ 9223372036854775807) (er : Int) (h0 : nodeFault zs n = er) (hne : (er == 0) = false) :
 Calls Tryz.prog 19 #[.slice T N Nc, n.val] w (R_ w (.tuple #[.pointer none, .int .i64 er])) := by
 have H1 := h_ (fun W hT (hi : n.In W) hz => iu_ W T N Nc zs n hT hi hm hz hN)
 rw [h0] at H1
 have HT := h_ hT
 have HZ := h_ hz
 have HI := h_ hi
 have hne' : (er != 0) = true := by simp [bne, hne]
 clear hT hz hi hm h0
 have HA := h_ (OneAt.new w n)
 obtain ⟨WA, hWA⟩ : ∃ WA, WA = w.alloc (.cells #[.int .i64 n.me, .int .i64 n.ep, .int .i64 n.up, .bool n.rd, .string n.t, .slice n.sA n.S.length n.sc, .slice n.uA n.U.length n.uc, .slice n.mA n.M.length n.mc] 28) := ⟨_, rfl⟩
 rw [← hWA] at HA
 have HW := h_ hWA.symm
 clear hWA
 go_enter Tryz.func19, Tryz.ntmps19
 go_wp2_with fail
 rw [HW.out]
 refine (H1.out _ (HT.out.later HA.out.b) (HI.out.later HA.out.b) (Sl.later HZ.out HA.out.b)).mono ?_
 rintro r w1 ⟨rfl, hb1⟩
 have HB := h_ (HA.out.later hb1)
 clear hb1
 go_wp2_with fail
 refine bodyPost_ret (v := (.tuple #[.pointer none, .int .i64 er])) (by simp [results, Tryz.results19, go_sem]) rfl ?_
 exact ⟨rfl, HB.out.b⟩
def zeroN : NodeV := ⟨0, 0, 0, false, ⟨#[]⟩, none, 0, [], none, 0, [], none, 0, []⟩
end Go.Proofs.YtacacoklddogmaaGreatDoor
