/- A part of the proof of NodeUndoes. -/
import Derived.Test.YtacacoklddogmaaGreatDoorKEdMove
import Derived.Test.YtacacoklddogmaaGreatDoorKGB
import Derived.Test.YtacacoklddogmaaGreatDoorKGC
namespace Go.Proofs.YtacacoklddogmaaGreatDoor
set_option maxHeartbeats 4000000
open Go.ChangeShapes Go.WideShapes Go.ChangeAt Go.RowKit
set_option maxRecDepth 100000
theorem vk_ (w : World) (base X : Nat) (s : EdV) (but : Int) (pA : Option Addr) (pc : Nat) (ps : List PartD) (hT : ∀ W, Below base w W → Tabs W) (h : EdAt 71 w base X s) (hop : OpIn (Off w X s) w pA ps) (hm : ps.length ≤ 1048576) (ht : ∀ p ∈ ps, p.text.size ≤ 1048576) (hSL : s.n.S.length ≤ 1048576) (hS : ∀ x ∈ s.n.S, x.Small) (hL : s.L.length ≤ 1000000000) (hR : s.RL.length ≤ 1048576) :
 Calls Tryz.prog 53 #[.pointer (some ⟨X, 0, none⟩), .slice pA ps.length pc, .int .i64 but] w (Goes 71 base X w s (spreadD ps but s.d)) := by
 by_cases hme : s.n.me = 0
 · exact tt_ w base X s but pA pc ps hT h hop hm ht hSL hS hL hR hme
 · exact tu_ w base X s but pA pc ps hT h hop hm ht hSL hS hL hme
theorem vd_ (w : World) (base X : Nat) (s : EdV) (pA : Option Addr) (pc : Nat) (ps : List PartD) (h : EdAt 71 w base X s) (hrd : s.n.rd = false) : Calls Tryz.prog 20 #[.pointer (some ⟨X, 0, none⟩), .slice pA ps.length pc] w (R_ w (.tuple #[.slice none 0 0, .int .i64 12])) := by
 obtain ⟨_, _, _, x3, _, _, _, _, _, _, xz⟩ := f_ h.busy.blk
 rw [hrd] at x3
 clear h hrd
 go_enter Tryz.func20, Tryz.ntmps20
 go_wp2_with fail
 refine (bo_ _ X).mono ?_
 rintro r w1 ⟨rfl, rfl⟩
 go_wp2_with fail
 go_ret2
 exact ⟨rfl, bz_⟩
theorem xw_ (w : World) (base X : Nat) (s : EdV) (pA : Option Addr) (pc : Nat) (ps : List PartD) (hT : ∀ W, Below base w W → Tabs W) (h : EdAt 71 w base X s) (hop : OpIn (Off w X s) w pA ps) (hm : ps.length ≤ 1048576) (ht : ∀ p ∈ ps, p.text.size ≤ 1048576) (hS : s.n.Small) (hrd : s.n.rd = true) (he : applyErr s.n.t ps ≠ 0) : Calls Tryz.prog 20 #[.pointer (some ⟨X, 0, none⟩), .slice pA ps.length pc] w (R_ w (.tuple #[.slice none 0 0, .int .i64 (applyErr s.n.t ps)])) := by
 obtain ⟨_, _, _, x3, x4, _, _, _, _, _, xz⟩ := f_ h.busy.blk
 rw [hrd] at x3
 have HIV := h_ (fun W hT hs => kf_ W s.n.t pA pc ps hT hs hm ht hS.text)
 have HT := h_ (hT w (Below.refl _ _))
 have HOP := h_ (hop.moved (S' := (· < w.heap.size)) fun b hb => ⟨hb.lt, rfl⟩)
 have hne : (applyErr s.n.t ps != 0) = true := by simpa using he
 rw [show invOut s.n.t ps = [] by unfold invOut; rw [if_neg he]] at HIV
 generalize applyErr s.n.t ps = er at *
 clear hT h hop hm ht hS hrd he
 go_enter Tryz.func20, Tryz.ntmps20
 go_wp2_with fail
 refine (bo_ _ X).mono ?_
 rintro r w1 ⟨rfl, rfl⟩
 go_wp2_with fail
 refine (HIV.out w HT.out HOP.out).mono ?_
 rintro r w2 ⟨bA, bc, rfl, hown, hb2⟩
 have HB2 := h_ hb2
 clear hown hb2
 go_wp2_with fail
 go_ret2
 exact ⟨rfl, bThen HB2.out bz_⟩
theorem ve_ (w : World) (base X : Nat) (s : EdV) (pA : Option Addr) (pc : Nat) (ps : List PartD) (hT : ∀ W, Below base w W → Tabs W) (h : EdAt 71 w base X s) (hop : OpIn (Off w X s) w pA ps) (hm : ps.length ≤ 1048576) (ht : ∀ p ∈ ps, p.text.size ≤ 1048576) (hS : s.n.Small) (hrd : s.n.rd = true) (he : applyErr s.n.t ps = 0) (hf : (ps.any isIns && decide (300 < (lens ps).2) || s.n.S.any isFull) = true) : Calls Tryz.prog 20 #[.pointer (some ⟨X, 0, none⟩), .slice pA ps.length pc] w (R_ w (.tuple #[.slice none 0 0, .int .i64 8])) := by
 obtain ⟨_, _, _, x3, x4, x5, _, _, _, _, xz⟩ := f_ h.busy.blk
 rw [hrd] at x3
 have HIV := h_ (fun W hT hs => kf_ W s.n.t pA pc ps hT hs hm ht hS.text)
 rw [he] at HIV
 have HLN := h_ (fun W hs => bt_ W pA pc ps hs hm ht)
 have HIA := h_ (fun W hs => gl_ W pA pc ps hs hm)
 have HFA := h_ (fun W hs => fj_ W s.n.sA s.n.sc s.n.S hs hS.sl)
 have HT := h_ hT
 have HB := h_ h
 have HOP := h_ hop
 have hbw := h.base_le
 generalize lens ps = L at *
 obtain ⟨L1, L2⟩ := L
 generalize ps.any isIns = a at *
 generalize s.n.S.any isFull = b at *
 generalize invOut s.n.t ps = iv at *
 clear hT h hop hm ht hS hrd he
 dsimp only at hf HLN
 by_cases q : 300 < L2
 all_goals (
  cases a <;> cases b <;> simp [q] at hf <;> clear hf
  all_goals (
   go_enter Tryz.func20, Tryz.ntmps20
   go_wp2_with fail
   refine (bo_ _ X).mono ?_
   rintro r w1 ⟨rfl, rfl⟩
   go_wp2_with fail
   refine (HIV.out w (HT.out w (Below.refl _ _)) (HOP.out.moved fun b hb => ⟨hb.lt, rfl⟩)).mono ?_
   rintro r w2 ⟨bA, bc, rfl, hown, hb2⟩
   have HB2 := h_ hb2
   clear hown hb2
   go_wp2_with fail
   refine (HLN.out w2 ((HOP.out.moved fun b hb => ⟨hb.lt, rfl⟩).later HB2.out)).mono ?_
   rintro r w3 ⟨rfl, hb3⟩
   have HB3 := h_ (bThen HB2.out hb3)
   clear hb3
   go_wp2_with fail
   refine (HIA.out w3 ((HOP.out.moved fun b hb => ⟨hb.lt, rfl⟩).later HB3.out)).mono ?_
   rintro r w4 ⟨rfl, hb4⟩
   have HB4 := h_ (bThen HB3.out hb4)
   have y5 := (World.cell?_of_block (a := ⟨X, 5, none⟩) (HB4.out.block X xz)).trans x5
   clear hb4
   go_wp2_with fail
   refine (HFA.out w4 (SidesIn.later ⟨(Sl.of_own _ HB.out.busy.srow).moved fun _ hb => ⟨hb.2, rfl⟩, fun x hx => (HB.out.busy.side x hx).in_ fun _ hb => hb.1.2⟩ HB4.out)).mono ?_
   rintro r w5 ⟨rfl, hb5⟩
   have HB5 := h_ (bThen HB4.out hb5)
   clear hb5
   go_wp2_with fail
   go_ret2
   exact ⟨rfl, bThen HB5.out bz_⟩))
theorem za_ (w : World) (base X : Nat) (s : EdV) (pA : Option Addr) (pc : Nat) (ps : List PartD) (hT : ∀ W, Below base w W → Tabs W) (h : EdAt 71 w base X s) (hop : OpIn (Off w X s) w pA ps) (hm : ps.length ≤ 1048576) (ht : ∀ p ∈ ps, p.text.size ≤ 1048576) (hS : s.n.Small) (hL : s.L.length ≤ 1000000000) (hR : s.RL.length ≤ 1048576) (hrd : s.n.rd = true) (he : applyErr s.n.t ps = 0) (hf : (ps.any isIns && decide (300 < (lens ps).2) || s.n.S.any isFull) = false) : Calls Tryz.prog 20 #[.pointer (some ⟨X, 0, none⟩), .slice pA ps.length pc] w (RetEdit 71 base X w s ps) := by
 obtain ⟨_, _, _, x3, x4, x5, _, _, _, _, xz⟩ := f_ h.busy.blk
 rw [hrd] at x3
 have HIV := h_ (fun W hT hs => kf_ W s.n.t pA pc ps hT hs hm ht hS.text)
 rw [he] at HIV
 have HLN := h_ (fun W hs => bt_ W pA pc ps hs hm ht)
 have HIA := h_ (fun W hs => gl_ W pA pc ps hs hm)
 have HFA := h_ (fun W hs => fj_ W s.n.sA s.n.sc s.n.S hs hS.sl)
 have HT := h_ hT
 have HB := h_ h
 have HOP := h_ hop
 have hbw := h.base_le
 have HAP := h_ (fun W hT hs => me_ W s.n.t pA pc ps hT hs hm ht hS.text)
 unfold RetApply at HAP
 rw [he] at HAP
 have HMG : Hid (∀ W (s1 : EdV), (∀ W', Below base W W' → Tabs W') → EdAt 71 W base X s1 → OpIn (Off W X s1) W pA ps → s1.n.M.length ≤ 1048576 → Calls Tryz.prog 52 #[.pointer (some ⟨X, 0, none⟩), .slice pA ps.length pc, .bool true] W (Goes 71 base X W s1 (shiftD true ps s1.d))) := h_ (fun W s1 a b c d => zv_ W base X s1 pA pc ps true a b c hm ht d)
 have HFG : Hid (∀ W (s1 : EdV), (∀ W', Below base W W' → Tabs W') → EdAt 71 W base X s1 → OpIn (Off W X s1) W pA ps → s1.n.S.length ≤ 1048576 → (∀ x ∈ s1.n.S, x.Small) → s1.L.length ≤ 1000000000 → s1.RL.length ≤ 1048576 → Calls Tryz.prog 53 #[.pointer (some ⟨X, 0, none⟩), .slice pA ps.length pc, .int .i64 (-1)] W (Goes 71 base X W s1 (spreadD ps (-1) s1.d))) := h_ (fun W s1 a b c d e f g => vk_ W base X s1 (-1) pA pc ps a b c hm ht d e f g)
 have HML := h_ hS.ml
 have HSS := h_ hS
 have HLL := h_ (And.intro hL hR)
 clear hT h hop hm ht hS hL hR hrd he
 by_cases q : 300 < (lens ps).2
 all_goals (
  have hq : decide (300 < (lens ps).2) = decide (300 < (lens ps).2) := rfl
  generalize lens ps = LL at *
  obtain ⟨L1, L2⟩ := LL
  generalize hab : ps.any isIns = a at *
  generalize hbb : s.n.S.any isFull = b at *
  clear hab hbb hq
  dsimp only at hf HLN q
  cases a <;> cases b <;> simp [q] at hf <;> (try clear hf)
  all_goals (
   go_enter Tryz.func20, Tryz.ntmps20
   go_wp2_with fail
   refine (bo_ _ X).mono ?_
   rintro r w1 ⟨rfl, rfl⟩
   go_wp2_with fail
   refine (HIV.out w (HT.out w (Below.refl _ _)) (HOP.out.moved fun b hb => ⟨hb.lt, rfl⟩)).mono ?_
   rintro r w2 ⟨bA, bc, rfl, hown, hb2⟩
   have HB2 := h_ hb2
   have HOW := h_ ((Sl.of_own _ hown).moved (S' := fun b => w.heap.size ≤ b ∧ Off w2 X s b) (w' := w2) fun b hb => ⟨⟨hb.1, HB.out.fresh hb.1 hb.2⟩, rfl⟩)
   clear hown hb2
   go_wp2_with fail
   refine (HLN.out w2 ((HOP.out.moved fun b hb => ⟨hb.lt, rfl⟩).later HB2.out)).mono ?_
   rintro r w3 ⟨rfl, hb3⟩
   have HB3 := h_ (bThen HB2.out hb3)
   have HOW := h_ (HOW.out.moved (S' := fun b => w.heap.size ≤ b ∧ Off w3 X s b) (w' := w3) fun b hb => ⟨⟨hb.1, (Stay.of_below hb3 b hb.2).1⟩, (Stay.of_below hb3 b hb.2).2⟩)
   clear hb3
   go_wp2_with fail
   refine (HIA.out w3 ((HOP.out.moved fun b hb => ⟨hb.lt, rfl⟩).later HB3.out)).mono ?_
   rintro r w4 ⟨rfl, hb4⟩
   have HB4 := h_ (bThen HB3.out hb4)
   have y5 := (World.cell?_of_block (a := ⟨X, 5, none⟩) (HB4.out.block X xz)).trans x5
   have HOW := h_ (HOW.out.moved (S' := fun b => w.heap.size ≤ b ∧ Off w4 X s b) (w' := w4) fun b hb => ⟨⟨hb.1, (Stay.of_below hb4 b hb.2).1⟩, (Stay.of_below hb4 b hb.2).2⟩)
   clear hb4
   go_wp2_with fail
   refine (HFA.out w4 (SidesIn.later ⟨(Sl.of_own _ HB.out.busy.srow).moved fun _ hb => ⟨hb.2, rfl⟩, fun x hx => (HB.out.busy.side x hx).in_ fun _ hb => hb.1.2⟩ HB4.out)).mono ?_
   rintro r w5 ⟨rfl, hb5⟩
   have HB5 := h_ (bThen HB4.out hb5)
   have y4 := (World.cell?_of_block (a := ⟨X, 4, none⟩) (HB5.out.block X xz)).trans x4
   have HOW := h_ (HOW.out.moved (S' := fun b => w.heap.size ≤ b ∧ Off w5 X s b) (w' := w5) fun b hb => ⟨⟨hb.1, (Stay.of_below hb5 b hb.2).1⟩, (Stay.of_below hb5 b hb.2).2⟩)
   clear hb5
   go_wp2_with fail
   refine (HAP.out w5 (HT.out _ (HB5.out.mono hbw)) ((HOP.out.moved fun b hb => ⟨hb.lt, rfl⟩).later HB5.out)).mono ?_
   rintro r w6 ⟨rfl, hb6⟩
   have HB6 := h_ (bThen HB5.out hb6)
   have hX6 := (HB6.out.block X xz).trans HB.out.busy.blk
   obtain ⟨_, _, _, _, z4, _, _, _, _, _, zz⟩ := f_ hX6
   have g4 := tenF hX6 4
   obtain ⟨p1, p2, p3⟩ := EdAt.setText cn_ (HB.out.later HB6.out) (applyText s.n.t ps)
   have HP1 := h_ p1
   have HP2 := h_ ((HB6.out.mono hbw).trans p2)
   have HP3 := h_ ((Stay.of_below HB6.out).trans p3)
   have HO6 := h_ (HOW.out.moved fun b hb => (fun (q : Stay w5 X s _ _) => (⟨⟨hb.1, (q b hb.2).1⟩, (q b hb.2).2⟩ : (w.heap.size ≤ b ∧ Off _ X _ b) ∧ _)) ((Stay.of_below hb6).trans p3))
   clear hb6 hX6 p1 p2 p3
   go_wp2_with fail
   clear z4 g4 zz
   refine (HMG.out _ _ (fun W hb => HT.out W (HP2.out.trans hb)) HP1.out (HOP.out.moved fun b hb => HP3.out b hb) HML.out).mono ?_
   rintro r w8 ⟨rfl, s2, k1, k2, k3, k4⟩
   have HK1 := h_ k1
   have HK2 := h_ k2
   have HK3 := h_ (HP2.out.trans k3)
   have HK4 := h_ (HP3.out.trans k4)
   have HO8 := h_ (HO6.out.moved fun b hb => (⟨⟨hb.1, (k4 b hb.2).1⟩, (k4 b hb.2).2⟩ : (w.heap.size ≤ b ∧ Off _ X _ b) ∧ _))
   obtain ⟨e1, e2, e3, e4⟩ := ma_ k2
   have HE := h_ (And.intro e1 (And.intro e2 (And.intro e3 e4)))
   clear k1 k2 k3 k4 e1 e2 e3 e4
   go_wp2_with fail
   refine (HFG.out w8 s2 (fun W hb => HT.out W (HK3.out.trans hb)) HK1.out (HOP.out.moved fun b hb => HK4.out b hb) (by rw [HE.out.2.2.2]; exact HSS.out.sl) (jm_ HE.out.1 HSS.out.sides) (by rw [HE.out.2.1]; exact HLL.out.1) (by rw [HE.out.2.2.1]; exact HLL.out.2)).mono ?_
   rintro r w9 ⟨rfl, s3, m1, m2, m3, m4⟩
   have HM1 := h_ m1
   have HM2 := h_ (show s3.d = editDD ps s.d by rw [m2, HK2.out]; rfl)
   have HM3 := h_ (HK3.out.trans m3)
   have HM4 := h_ (HK4.out.trans m4)
   have HBK := h_ (show OpIn (fun b => w.heap.size ≤ b ∧ Off w9 X s3 b) w9 bA (invOut s.n.t ps) from HO8.out.moved fun b hb => ⟨⟨hb.1, (m4 b hb.2).1⟩, (m4 b hb.2).2⟩)
   clear m1 m2 m3 m4
   go_wp2_with fail
   go_ret2
   exact ⟨s3, bA, bc, rfl, HM1.out, HM2.out, HM3.out, HM4.out, HBK.out⟩
))
theorem yr_ (w : World) (base X : Nat) (s : EdV) (but : Int) (pA : Option Addr) (pc : Nat) (ps : List PartD) (hT : ∀ W, Below base w W → Tabs W) (h : EdAt 35 w base X s) (hop : OpIn (Off w X s) w pA ps) (hm : ps.length ≤ 1048576) (ht : ∀ p ∈ ps, p.text.size ≤ 1048576) (hSL : s.n.S.length ≤ 1048576) (hS : ∀ x ∈ s.n.S, x.Small) (hL : s.L.length ≤ 1000000000) (hR : s.RL.length ≤ 1048576) :
 Calls Tryz.prog 66 #[.pointer (some ⟨X, 0, none⟩), .slice pA ps.length pc, .int .i64 but] w (Goes 35 base X w s (spreadD ps but s.d)) := by
 by_cases hme : s.n.me = 0
 · exact xf_ w base X s but pA pc ps hT h hop hm ht hSL hS hL hR hme
 · exact xg_ w base X s but pA pc ps hT h hop hm ht hSL hS hL hme
theorem ru_ (w : World) (base X : Nat) (s : EdV) (pA : Option Addr) (pc : Nat) (ps : List PartD) (h : EdAt 35 w base X s) (hrd : s.n.rd = false) : Calls Tryz.prog 23 #[.pointer (some ⟨X, 0, none⟩), .slice pA ps.length pc] w (R_ w (.tuple #[.slice none 0 0, .int .i64 12])) := by
 obtain ⟨_, _, _, x3, _, _, _, _, _, _, xz⟩ := f_ h.busy.blk
 rw [hrd] at x3
 clear h hrd
 go_enter Tryz.func23, Tryz.ntmps23
 go_wp2_with fail
 go_ret2
 exact ⟨rfl, bz_⟩
theorem tp_ (w : World) (base X : Nat) (s : EdV) (pA : Option Addr) (pc : Nat) (ps : List PartD) (hT : ∀ W, Below base w W → Tabs W) (h : EdAt 35 w base X s) (hop : OpIn (Off w X s) w pA ps) (hm : ps.length ≤ 1048576) (ht : ∀ p ∈ ps, p.text.size ≤ 1048576) (hS : s.n.Small) (hrd : s.n.rd = true) (he : applyErr s.n.t ps ≠ 0) : Calls Tryz.prog 23 #[.pointer (some ⟨X, 0, none⟩), .slice pA ps.length pc] w (R_ w (.tuple #[.slice none 0 0, .int .i64 (applyErr s.n.t ps)])) := by
 obtain ⟨_, _, _, x3, x4, _, _, _, _, _, xz⟩ := f_ h.busy.blk
 rw [hrd] at x3
 have HIV := h_ (fun W hT hs => ey_ W s.n.t pA pc ps hT hs hm ht hS.text)
 have HT := h_ (hT w (Below.refl _ _))
 have HOP := h_ (hop.moved (S' := (· < w.heap.size)) fun b hb => ⟨hb.lt, rfl⟩)
 have hne : (applyErr s.n.t ps != 0) = true := by simpa using he
 rw [show invOut s.n.t ps = [] by unfold invOut; rw [if_neg he]] at HIV
 generalize applyErr s.n.t ps = er at *
 clear hT h hop hm ht hS hrd he
 go_enter Tryz.func23, Tryz.ntmps23
 go_wp2_with fail
 refine (HIV.out w HT.out HOP.out).mono ?_
 rintro r w2 ⟨bA, bc, rfl, hown, hb2⟩
 have HB2 := h_ hb2
 clear hown hb2
 go_wp2_with fail
 go_ret2
 exact ⟨rfl, bThen HB2.out bz_⟩
theorem qa_ (w : World) (base X : Nat) (s : EdV) (pA : Option Addr) (pc : Nat) (ps : List PartD) (hT : ∀ W, Below base w W → Tabs W) (h : EdAt 35 w base X s) (hop : OpIn (Off w X s) w pA ps) (hm : ps.length ≤ 1048576) (ht : ∀ p ∈ ps, p.text.size ≤ 1048576) (hS : s.n.Small) (hrd : s.n.rd = true) (he : applyErr s.n.t ps = 0) (ha : ps.any isIns = true) (hq : 300 < (lens ps).2) : Calls Tryz.prog 23 #[.pointer (some ⟨X, 0, none⟩), .slice pA ps.length pc] w (R_ w (.tuple #[.slice none 0 0, .int .i64 8])) := by
 obtain ⟨_, _, _, x3, x4, x5, _, _, _, _, xz⟩ := f_ h.busy.blk
 rw [hrd] at x3
 have HIV := h_ (fun W hT hs => ey_ W s.n.t pA pc ps hT hs hm ht hS.text)
 rw [he] at HIV
 have HLN := h_ (fun W hs => bi_ W pA pc ps hs hm ht)
 have HIA := h_ (fun W hs => gl_ W pA pc ps hs hm)
 have HFA := h_ (fun W hs => fj_ W s.n.sA s.n.sc s.n.S hs hS.sl)
 have HT := h_ hT
 have HB := h_ h
 have HOP := h_ hop
 have hbw := h.base_le
 have HAA := h_ ha
 generalize lens ps = L at *
 obtain ⟨L1, L2⟩ := L
 have hq' : decide (300 < L2) = true := by simpa using hq
 clear hq ha
 have hsl := hS.sl
 clear hT h hop ht hS hrd he
 dsimp only at HLN
 go_enter Tryz.func23, Tryz.ntmps23
 go_wp2_with fail
 refine (HIV.out w (HT.out w (Below.refl _ _)) (HOP.out.moved fun b hb => ⟨hb.lt, rfl⟩)).mono ?_
 rintro r w2 ⟨bA, bc, rfl, hown, hb2⟩
 have HB2 := h_ hb2
 have HOW := h_ ((Sl.of_own _ hown).moved (S' := fun b => w.heap.size ≤ b ∧ Off w2 X s b) (w' := w2) fun b hb => ⟨⟨hb.1, HB.out.fresh hb.1 hb.2⟩, rfl⟩)
 clear hown hb2
 go_wp2_with fail
 refine (HLN.out w2 ((HOP.out.moved fun b hb => ⟨hb.lt, rfl⟩).later HB2.out)).mono ?_
 rintro r w3 ⟨rfl, hb3⟩
 have HB3 := h_ (bThen HB2.out hb3)
 have HOW := h_ (HOW.out.moved (S' := fun b => w.heap.size ≤ b ∧ Off w3 X s b) (w' := w3) fun b hb => ⟨⟨hb.1, (Stay.of_below hb3 b hb.2).1⟩, (Stay.of_below hb3 b hb.2).2⟩)
 have hO3 := ((HOP.out.moved fun b hb => ⟨hb.lt, rfl⟩).later HB3.out)
 have HO3 := h_ hO3
 obtain ⟨_, _, _, y3, y4, y5, _, _, _, _, yz⟩ := f_ ((HB3.out.block X xz).trans HB.out.busy.blk)
 clear hb3 x3 x4 x5 hO3
 go_wp2_with fail
 clear y3 y4 y5 yz
 go_loopw [10] (fun i wr => ∃ k : Nat, k ≤ ps.length ∧ i = .int .i64 k ∧ Hid (∀ j (hj : j < ps.length), j < k → isIns ps[j] = false) ∧ Hid (w3 = wr)) (fun i _ => ps.length - (intOf i).toNat)
 case atStart => exact ⟨0, Nat.zero_le _, rfl, fun j hj h => absurd h (by omega), h_ rfl⟩
 case round =>
  obtain ⟨k, hk, rfl, hg, hw⟩ := hrel
  obtain rfl := hw.out
  clear hw
  by_cases hlt : k < ps.length
  · obtain ⟨b, o, rfl, hbs, g0, g1, g2⟩ := OpIn.at_ (ps := ps) HO3.out hlt

    have hki : (k : Int) < (ps.length : Int) := by omega
    have HLT := h_ hlt
    by_cases hf1 : isIns ps[k] = true
    · have hkd : (ps[k].kind == 2) = true := hf1
      clear hf1 hg
      generalize ps[k] = p at *
      go_wp2_with fail
      go_ret2
      exact ⟨rfl, bThen HB3.out bz_⟩
    · have hf2 : isIns ps[k] = false := by simpa using hf1
      have hkd : (ps[k].kind == 2) = false := hf2
      have HG := h_ (show ∀ j (hj : j < ps.length), j < k + 1 → isIns ps[j] = false by
       intro j hj hjk
       rcases Nat.lt_or_ge j k with q' | q'
       · exact hg.out j hj q'
       · obtain rfl : j = k := by omega
         exact hf2)
      clear hf1 hf2 hg
      generalize ps[k] = p at *
      go_wp2_with fail
      go_roundw
      case rel => exact ⟨k + 1, by have := HLT.out; omega, by go_num, HG, (by first | exact h_ rfl | exact h_ trivial)⟩
      case measure => have := HLT.out; simp [intOf]; omega
  · obtain rfl : k = ps.length := by omega
    exfalso
    obtain ⟨p, hp, hp2⟩ := List.any_eq_true.1 HAA.out
    obtain ⟨j, hj, rfl⟩ := List.getElem_of_mem hp
    rw [hg.out j hj hj] at hp2
    cases hp2
theorem qb_ (w : World) (base X : Nat) (s : EdV) (pA : Option Addr) (pc : Nat) (ps : List PartD) (hT : ∀ W, Below base w W → Tabs W) (h : EdAt 35 w base X s) (hop : OpIn (Off w X s) w pA ps) (hm : ps.length ≤ 1048576) (ht : ∀ p ∈ ps, p.text.size ≤ 1048576) (hS : s.n.Small) (hrd : s.n.rd = true) (he : applyErr s.n.t ps = 0) (hnb : ∀ p ∈ ps, isIns p = false ∨ decide (300 < (lens ps).2) = false) (hb : s.n.S.any isFull = true) : Calls Tryz.prog 23 #[.pointer (some ⟨X, 0, none⟩), .slice pA ps.length pc] w (R_ w (.tuple #[.slice none 0 0, .int .i64 8])) := by
 obtain ⟨_, _, _, x3, x4, x5, _, _, _, _, xz⟩ := f_ h.busy.blk
 rw [hrd] at x3
 have HIV := h_ (fun W hT hs => ey_ W s.n.t pA pc ps hT hs hm ht hS.text)
 rw [he] at HIV
 have HLN := h_ (fun W hs => bi_ W pA pc ps hs hm ht)
 have HIA := h_ (fun W hs => gl_ W pA pc ps hs hm)
 have HFA := h_ (fun W hs => fj_ W s.n.sA s.n.sc s.n.S hs hS.sl)
 have HT := h_ hT
 have HB := h_ h
 have HOP := h_ hop
 have hbw := h.base_le
 have HAA := h_ hb
 have HNB := h_ hnb
 generalize lens ps = L at *
 obtain ⟨L1, L2⟩ := L
 dsimp only at HNB
 clear hnb hb
 have hsl := hS.sl
 clear hT h hop ht hS hrd he
 dsimp only at HLN
 go_enter Tryz.func23, Tryz.ntmps23
 go_wp2_with fail
 refine (HIV.out w (HT.out w (Below.refl _ _)) (HOP.out.moved fun b hb => ⟨hb.lt, rfl⟩)).mono ?_
 rintro r w2 ⟨bA, bc, rfl, hown, hb2⟩
 have HB2 := h_ hb2
 have HOW := h_ ((Sl.of_own _ hown).moved (S' := fun b => w.heap.size ≤ b ∧ Off w2 X s b) (w' := w2) fun b hb => ⟨⟨hb.1, HB.out.fresh hb.1 hb.2⟩, rfl⟩)
 clear hown hb2
 go_wp2_with fail
 refine (HLN.out w2 ((HOP.out.moved fun b hb => ⟨hb.lt, rfl⟩).later HB2.out)).mono ?_
 rintro r w3 ⟨rfl, hb3⟩
 have HB3 := h_ (bThen HB2.out hb3)
 have HOW := h_ (HOW.out.moved (S' := fun b => w.heap.size ≤ b ∧ Off w3 X s b) (w' := w3) fun b hb => ⟨⟨hb.1, (Stay.of_below hb3 b hb.2).1⟩, (Stay.of_below hb3 b hb.2).2⟩)
 have hO3 := ((HOP.out.moved fun b hb => ⟨hb.lt, rfl⟩).later HB3.out)
 have HO3 := h_ hO3
 obtain ⟨_, _, _, y3, y4, y5, _, _, _, _, yz⟩ := f_ ((HB3.out.block X xz).trans HB.out.busy.blk)
 clear hb3 x3 x4 x5 hO3
 go_wp2_with fail
 have HSI := h_ (SidesIn.later ⟨(Sl.of_own _ HB.out.busy.srow).moved fun _ hb => ⟨hb.2, rfl⟩, fun x hx => (HB.out.busy.side x hx).in_ fun _ hb => hb.1.2⟩ HB3.out)
 go_loopw [10] (fun i wr => ∃ k : Nat, k ≤ ps.length ∧ i = .int .i64 k ∧ Hid (w3 = wr)) (fun i _ => ps.length - (intOf i).toNat)
 case atStart => exact ⟨0, Nat.zero_le _, rfl, h_ rfl⟩
 case round =>
  obtain ⟨k, hk, rfl, hw⟩ := hrel
  obtain rfl := hw.out
  clear hw
  by_cases hlt : k < ps.length
  · obtain ⟨b, o, rfl, hbs, g0, g1, g2⟩ := OpIn.at_ (ps := ps) HO3.out hlt
    have hnb := HNB.out _ (List.getElem_mem hlt)
    have hki : (k : Int) < (ps.length : Int) := by omega
    have HLT := h_ hlt
    have hnb' : (ps[k].kind == 2) = false ∨ decide (300 < L2) = false := hnb
    clear hnb
    generalize ps[k] = p at *
    by_cases hkd : (p.kind == 2) = false
    · clear hnb'
      go_wp2_with fail
      go_roundw
      case rel => exact ⟨k + 1, by have := HLT.out; omega, by go_num, (by first | exact h_ rfl | exact h_ trivial)⟩
      case measure => have := HLT.out; simp [intOf]; omega
    · have hq : decide (300 < L2) = false := hnb'.resolve_left hkd
      have hkd' : (p.kind == 2) = true := by simpa using hkd
      clear hnb' hkd
      go_wp2_with fail
      go_roundw
      case rel => exact ⟨k + 1, by have := HLT.out; omega, by go_num, (by first | exact h_ rfl | exact h_ trivial)⟩
      case measure => have := HLT.out; simp [intOf]; omega
  · obtain rfl : k = ps.length := by omega
    go_wp2_with fail
    go_loopw [11] (fun i wr => ∃ k : Nat, k ≤ s.n.S.length ∧ i = .int .i64 k ∧ Hid (∀ j (hj : j < s.n.S.length), j < k → isFull s.n.S[j] = false) ∧ Hid (w3 = wr)) (fun i _ => s.n.S.length - (intOf i).toNat)
    case atStart => exact ⟨0, Nat.zero_le _, rfl, fun j hj h => absurd h (by omega), h_ rfl⟩
    case round =>
     obtain ⟨k, hk, rfl, hg, hw⟩ := hrel
     obtain rfl := hw.out
     clear hw
     by_cases hlt : k < s.n.S.length
     · obtain ⟨b, o, hA, hbs, hc⟩ := x_ SideV.cells 10 SideV.cells_len HSI.out.row hlt
       have c4 := hc 4 _ rfl
       rw [hA] at y5

       have hki : (k : Int) < (s.n.S.length : Int) := by omega
       have HLT := h_ hlt
       clear hc hA
       by_cases hf1 : isFull s.n.S[k] = true
       · have hkd : decide (40 ≤ (s.n.S[k].L.length : Int)) = true := by simp [isFull] at hf1; simp; omega
         clear hf1 hg
         generalize s.n.S[k] = p at *
         go_wp2_with fail
         go_ret2
         exact ⟨rfl, bThen HB3.out bz_⟩
       · have hf2 : isFull s.n.S[k] = false := by simpa using hf1
         have hkd : decide (40 ≤ (s.n.S[k].L.length : Int)) = false := by simp [isFull] at hf2; simp; omega
         have HG := h_ (show ∀ j (hj : j < s.n.S.length), j < k + 1 → isFull s.n.S[j] = false by
          intro j hj hjk
          rcases Nat.lt_or_ge j k with q' | q'
          · exact hg.out j hj q'
          · obtain rfl : j = k := by omega
            exact hf2)
         clear hf1 hf2 hg
         generalize s.n.S[k] = p at *
         go_wp2_with fail
         go_roundw
         case rel => exact ⟨k + 1, by have := HLT.out; omega, by go_num, HG, (by first | exact h_ rfl | exact h_ trivial)⟩
         case measure => have := HLT.out; simp [intOf]; omega
     · obtain rfl : k = s.n.S.length := by omega
       exfalso
       obtain ⟨p, hp, hp2⟩ := List.any_eq_true.1 HAA.out
       obtain ⟨j, hj, rfl⟩ := List.getElem_of_mem hp
       rw [hg.out j hj hj] at hp2
       cases hp2
theorem vg_ (w : World) (base X : Nat) (s : EdV) (pA : Option Addr) (pc : Nat) (ps : List PartD) (hT : ∀ W, Below base w W → Tabs W) (h : EdAt 35 w base X s) (hop : OpIn (Off w X s) w pA ps) (hm : ps.length ≤ 1048576) (ht : ∀ p ∈ ps, p.text.size ≤ 1048576) (hS : s.n.Small) (hL : s.L.length ≤ 1000000000) (hR : s.RL.length ≤ 1048576) (hrd : s.n.rd = true) (he : applyErr s.n.t ps = 0) (hnb : ∀ p ∈ ps, isIns p = false ∨ decide (300 < (lens ps).2) = false) (hb : ∀ x ∈ s.n.S, isFull x = false) : Calls Tryz.prog 23 #[.pointer (some ⟨X, 0, none⟩), .slice pA ps.length pc] w (RetEdit 35 base X w s ps) := by
 obtain ⟨_, _, _, x3, x4, x5, _, _, _, _, xz⟩ := f_ h.busy.blk
 rw [hrd] at x3
 have HIV := h_ (fun W hT hs => ey_ W s.n.t pA pc ps hT hs hm ht hS.text)
 rw [he] at HIV
 have HLN := h_ (fun W hs => bi_ W pA pc ps hs hm ht)
 have HIA := h_ (fun W hs => gl_ W pA pc ps hs hm)
 have HFA := h_ (fun W hs => fj_ W s.n.sA s.n.sc s.n.S hs hS.sl)
 have HT := h_ hT
 have HB := h_ h
 have HOP := h_ hop
 have hbw := h.base_le
 have HAP := h_ (fun W hT hs => hl_ W s.n.t pA pc ps hT hs hm ht hS.text)
 unfold RetApply at HAP
 rw [he] at HAP
 have HMG : Hid (∀ W (s1 : EdV), (∀ W', Below base W W' → Tabs W') → EdAt 35 W base X s1 → OpIn (Off W X s1) W pA ps → s1.n.M.length ≤ 1048576 → Calls Tryz.prog 65 #[.pointer (some ⟨X, 0, none⟩), .slice pA ps.length pc, .bool true] W (Goes 35 base X W s1 (shiftD true ps s1.d))) := h_ (fun W s1 a b c d => wv_ W base X s1 pA pc ps true a b c hm ht d)
 have HFG : Hid (∀ W (s1 : EdV), (∀ W', Below base W W' → Tabs W') → EdAt 35 W base X s1 → OpIn (Off W X s1) W pA ps → s1.n.S.length ≤ 1048576 → (∀ x ∈ s1.n.S, x.Small) → s1.L.length ≤ 1000000000 → s1.RL.length ≤ 1048576 → Calls Tryz.prog 66 #[.pointer (some ⟨X, 0, none⟩), .slice pA ps.length pc, .int .i64 (-1)] W (Goes 35 base X W s1 (spreadD ps (-1) s1.d))) := h_ (fun W s1 a b c d e f g => yr_ W base X s1 (-1) pA pc ps a b c hm ht d e f g)
 have HML := h_ hS.ml
 have HSS := h_ hS
 have HLL := h_ (And.intro hL hR)
 have HNB := h_ hnb
 have HNS := h_ hb
 generalize lens ps = L at *
 obtain ⟨L1, L2⟩ := L
 dsimp only at HNB
 clear hnb hb hL hR
 have hsl := hS.sl
 clear hT h hop ht hS hrd he
 dsimp only at HLN
 go_enter Tryz.func23, Tryz.ntmps23
 go_wp2_with fail
 refine (HIV.out w (HT.out w (Below.refl _ _)) (HOP.out.moved fun b hb => ⟨hb.lt, rfl⟩)).mono ?_
 rintro r w2 ⟨bA, bc, rfl, hown, hb2⟩
 have HB2 := h_ hb2
 have HOW := h_ ((Sl.of_own _ hown).moved (S' := fun b => w.heap.size ≤ b ∧ Off w2 X s b) (w' := w2) fun b hb => ⟨⟨hb.1, HB.out.fresh hb.1 hb.2⟩, rfl⟩)
 clear hown hb2
 go_wp2_with fail
 refine (HLN.out w2 ((HOP.out.moved fun b hb => ⟨hb.lt, rfl⟩).later HB2.out)).mono ?_
 rintro r w3 ⟨rfl, hb3⟩
 have HB3 := h_ (bThen HB2.out hb3)
 have HOW := h_ (HOW.out.moved (S' := fun b => w.heap.size ≤ b ∧ Off w3 X s b) (w' := w3) fun b hb => ⟨⟨hb.1, (Stay.of_below hb3 b hb.2).1⟩, (Stay.of_below hb3 b hb.2).2⟩)
 have hO3 := ((HOP.out.moved fun b hb => ⟨hb.lt, rfl⟩).later HB3.out)
 have HO3 := h_ hO3
 obtain ⟨_, _, _, y3, y4, y5, _, _, _, _, yz⟩ := f_ ((HB3.out.block X xz).trans HB.out.busy.blk)
 clear hb3 x3 x4 x5 hO3
 go_wp2_with fail
 have HSI := h_ (SidesIn.later ⟨(Sl.of_own _ HB.out.busy.srow).moved fun _ hb => ⟨hb.2, rfl⟩, fun x hx => (HB.out.busy.side x hx).in_ fun _ hb => hb.1.2⟩ HB3.out)
 go_loopw [10] (fun i wr => ∃ k : Nat, k ≤ ps.length ∧ i = .int .i64 k ∧ Hid (w3 = wr)) (fun i _ => ps.length - (intOf i).toNat)
 case atStart => exact ⟨0, Nat.zero_le _, rfl, h_ rfl⟩
 case round =>
  obtain ⟨k, hk, rfl, hw⟩ := hrel
  obtain rfl := hw.out
  clear hw
  by_cases hlt : k < ps.length
  · obtain ⟨b, o, rfl, hbs, g0, g1, g2⟩ := OpIn.at_ (ps := ps) HO3.out hlt
    have hnb := HNB.out _ (List.getElem_mem hlt)
    have hki : (k : Int) < (ps.length : Int) := by omega
    have HLT := h_ hlt
    have hnb' : (ps[k].kind == 2) = false ∨ decide (300 < L2) = false := hnb
    clear hnb
    generalize ps[k] = p at *
    by_cases hkd : (p.kind == 2) = false
    · clear hnb'
      go_wp2_with fail
      go_roundw
      case rel => exact ⟨k + 1, by have := HLT.out; omega, by go_num, (by first | exact h_ rfl | exact h_ trivial)⟩
      case measure => have := HLT.out; simp [intOf]; omega
    · have hq : decide (300 < L2) = false := hnb'.resolve_left hkd
      have hkd' : (p.kind == 2) = true := by simpa using hkd
      clear hnb' hkd
      go_wp2_with fail
      go_roundw
      case rel => exact ⟨k + 1, by have := HLT.out; omega, by go_num, (by first | exact h_ rfl | exact h_ trivial)⟩
      case measure => have := HLT.out; simp [intOf]; omega
  · obtain rfl : k = ps.length := by omega
    go_wp2_with fail
    go_loopw [11] (fun i wr => ∃ k : Nat, k ≤ s.n.S.length ∧ i = .int .i64 k ∧ Hid (w3 = wr)) (fun i _ => s.n.S.length - (intOf i).toNat)
    case atStart => exact ⟨0, Nat.zero_le _, rfl, h_ rfl⟩
    case round =>
     obtain ⟨k, hk, rfl, hw⟩ := hrel
     obtain rfl := hw.out
     clear hw
     by_cases hlt : k < s.n.S.length
     · obtain ⟨b, o, hA, hbs, hc⟩ := x_ SideV.cells 10 SideV.cells_len HSI.out.row hlt
       have c4 := hc 4 _ rfl
       rw [hA] at y5
       have hnb := HNS.out _ (List.getElem_mem hlt)
       have hki : (k : Int) < (s.n.S.length : Int) := by omega
       have HLT := h_ hlt
       clear hc hA
       have hkd : decide (40 ≤ (s.n.S[k].L.length : Int)) = false := by simp [isFull] at hnb; simp; omega
       clear hnb
       generalize s.n.S[k] = p at *
       go_wp2_with fail
       go_roundw
       case rel => exact ⟨k + 1, by have := HLT.out; omega, by go_num, (by first | exact h_ rfl | exact h_ trivial)⟩
       case measure => have := HLT.out; simp [intOf]; omega
     · obtain rfl : k = s.n.S.length := by omega
       go_wp2_with fail
       refine (HAP.out w3 (HT.out _ (HB3.out.mono hbw)) ((HOP.out.moved fun b hb => ⟨hb.lt, rfl⟩).later HB3.out)).mono ?_
       rintro r w6 ⟨rfl, hb6⟩
       have HB6 := h_ (bThen HB3.out hb6)
       have hX6 := (HB6.out.block X xz).trans HB.out.busy.blk
       obtain ⟨_, _, _, _, z4, _, _, _, _, _, zz⟩ := f_ hX6
       have g4 := tenF hX6 4
       obtain ⟨p1, p2, p3⟩ := EdAt.setText cm_ (HB.out.later HB6.out) (applyText s.n.t ps)
       have HP1 := h_ p1
       have HP2 := h_ ((HB6.out.mono hbw).trans p2)
       have HP3 := h_ ((Stay.of_below HB6.out).trans p3)
       have HO6 := h_ (HOW.out.moved fun b hb => (fun (q : Stay w3 X s _ _) => (⟨⟨hb.1, (q b hb.2).1⟩, (q b hb.2).2⟩ : (w.heap.size ≤ b ∧ Off _ X _ b) ∧ _)) ((Stay.of_below hb6).trans p3))
       clear hb6 hX6 p1 p2 p3
       go_wp2_with fail
       clear z4 g4 zz
       refine (HMG.out _ _ (fun W hb => HT.out W (HP2.out.trans hb)) HP1.out (HOP.out.moved fun b hb => HP3.out b hb) HML.out).mono ?_
       rintro r w8 ⟨rfl, s2, k1, k2, k3, k4⟩
       have HK1 := h_ k1
       have HK2 := h_ k2
       have HK3 := h_ (HP2.out.trans k3)
       have HK4 := h_ (HP3.out.trans k4)
       have HO8 := h_ (HO6.out.moved fun b hb => (⟨⟨hb.1, (k4 b hb.2).1⟩, (k4 b hb.2).2⟩ : (w.heap.size ≤ b ∧ Off _ X _ b) ∧ _))
       obtain ⟨e1, e2, e3, e4⟩ := ma_ k2
       have HE := h_ (And.intro e1 (And.intro e2 (And.intro e3 e4)))
       clear k1 k2 k3 k4 e1 e2 e3 e4
       go_wp2_with fail
       refine (HFG.out w8 s2 (fun W hb => HT.out W (HK3.out.trans hb)) HK1.out (HOP.out.moved fun b hb => HK4.out b hb) (by rw [HE.out.2.2.2]; exact HSS.out.sl) (jm_ HE.out.1 HSS.out.sides) (by rw [HE.out.2.1]; exact HLL.out.1) (by rw [HE.out.2.2.1]; exact HLL.out.2)).mono ?_
       rintro r w9 ⟨rfl, s3, m1, m2, m3, m4⟩
       have HM1 := h_ m1
       have HM2 := h_ (show s3.d = editDD ps s.d by rw [m2, HK2.out]; rfl)
       have HM3 := h_ (HK3.out.trans m3)
       have HM4 := h_ (HK4.out.trans m4)
       have HBK := h_ (show OpIn (fun b => w.heap.size ≤ b ∧ Off w9 X s3 b) w9 bA (invOut s.n.t ps) from HO8.out.moved fun b hb => ⟨⟨hb.1, (m4 b hb.2).1⟩, (m4 b hb.2).2⟩)
       clear m1 m2 m3 m4
       go_wp2_with fail
       go_ret2
       exact ⟨s3, bA, bc, rfl, HM1.out, HM2.out, HM3.out, HM4.out, HBK.out⟩
theorem ez_ {s : EdV} {ps : List PartD} {er : Int} (h : editErr s.d.n ps = er) : (s.n.rd = false ∧ er = 12) ∨ (s.n.rd = true ∧ applyErr s.n.t ps ≠ 0 ∧ er = applyErr s.n.t ps) ∨ (s.n.rd = true ∧ applyErr s.n.t ps = 0 ∧ (ps.any isIns && decide (300 < (lens ps).2) || s.n.S.any isFull) = true ∧ er = 8) ∨ (s.n.rd = true ∧ applyErr s.n.t ps = 0 ∧ (ps.any isIns && decide (300 < (lens ps).2) || s.n.S.any isFull) = false ∧ er = 0) := by
 subst h
 unfold editErr
 have hf : fullD s.d.n.S = s.n.S.any isFull := zd_ s.n.S
 rw [hf]
 by_cases h1 : s.n.rd = false
 · exact .inl ⟨h1, if_pos h1⟩
 · have h1' : s.n.rd = true := by simpa using h1
   rw [if_neg (show ¬ s.d.n.rd = false from h1)]
   by_cases h2 : applyErr s.n.t ps = 0
   · rw [if_neg (show ¬ applyErr s.d.n.t ps ≠ 0 from not_not_intro h2)]
     by_cases h3 : (ps.any isIns && decide (300 < (lens ps).2) || s.n.S.any isFull) = true
     · exact .inr (.inr (.inl ⟨h1', h2, h3, if_pos h3⟩))
     · exact .inr (.inr (.inr ⟨h1', h2, by simpa using h3, if_neg h3⟩))
   · rw [if_pos (show applyErr s.d.n.t ps ≠ 0 from h2)]
     exact .inr (.inl ⟨h1', h2, rfl⟩)
theorem yz_ (w : World) (base X : Nat) (s : EdV) (pA : Option Addr) (pc : Nat) (ps : List PartD) (hT : ∀ W, Below base w W → Tabs W) (h : EdAt 71 w base X s) (hop : OpIn (Off w X s) w pA ps) (hm : ps.length ≤ 1048576) (ht : ∀ p ∈ ps, p.text.size ≤ 1048576) (hS : s.n.Small) (er : Int) (hE : editErr s.d.n ps = er) (hne : er ≠ 0) : Calls Tryz.prog 20 #[.pointer (some ⟨X, 0, none⟩), .slice pA ps.length pc] w (R_ w (.tuple #[.slice none 0 0, .int .i64 er])) := by
 rcases ez_ hE with ⟨h1, rfl⟩ | ⟨h1, h2, rfl⟩ | ⟨h1, h2, h3, rfl⟩ | ⟨h1, h2, h3, rfl⟩
 · exact vd_ w base X s pA pc ps h h1
 · exact xw_ w base X s pA pc ps hT h hop hm ht hS h1 h2
 · exact ve_ w base X s pA pc ps hT h hop hm ht hS h1 h2 h3
 · exact absurd rfl hne
theorem xx_ (w : World) (base X : Nat) (s : EdV) (pA : Option Addr) (pc : Nat) (ps : List PartD) (hT : ∀ W, Below base w W → Tabs W) (h : EdAt 71 w base X s) (hop : OpIn (Off w X s) w pA ps) (hm : ps.length ≤ 1048576) (ht : ∀ p ∈ ps, p.text.size ≤ 1048576) (hS : s.n.Small) (hL : s.L.length ≤ 1000000000) (hR : s.RL.length ≤ 1048576) (hE : editErr s.d.n ps = 0) : Calls Tryz.prog 20 #[.pointer (some ⟨X, 0, none⟩), .slice pA ps.length pc] w (RetEdit 71 base X w s ps) := by
 rcases ez_ hE with ⟨h1, h9⟩ | ⟨h1, h2, h9⟩ | ⟨h1, h2, h3, h9⟩ | ⟨h1, h2, h3, h9⟩
 · cases h9
 · exact absurd h9.symm h2
 · cases h9
 · exact za_ w base X s pA pc ps hT h hop hm ht hS hL hR h1 h2 h3
theorem vf_ (w : World) (base X : Nat) (s : EdV) (pA : Option Addr) (pc : Nat) (ps : List PartD) (hT : ∀ W, Below base w W → Tabs W) (h : EdAt 35 w base X s) (hop : OpIn (Off w X s) w pA ps) (hm : ps.length ≤ 1048576) (ht : ∀ p ∈ ps, p.text.size ≤ 1048576) (hS : s.n.Small) (er : Int) (hE : editErr s.d.n ps = er) (hne : er ≠ 0) : Calls Tryz.prog 23 #[.pointer (some ⟨X, 0, none⟩), .slice pA ps.length pc] w (R_ w (.tuple #[.slice none 0 0, .int .i64 er])) := by
 rcases ez_ hE with ⟨h1, rfl⟩ | ⟨h1, h2, rfl⟩ | ⟨h1, h2, h3, rfl⟩ | ⟨h1, h2, h3, rfl⟩
 · exact ru_ w base X s pA pc ps h h1
 · exact tp_ w base X s pA pc ps hT h hop hm ht hS h1 h2
 · by_cases ha : ps.any isIns = true ∧ 300 < (lens ps).2
   · exact qa_ w base X s pA pc ps hT h hop hm ht hS h1 h2 ha.1 ha.2
   · have hb : s.n.S.any isFull = true := by
      rcases Bool.or_eq_true _ _ ▸ h3 with q | q
      · rw [Bool.and_eq_true] at q
        exact absurd ⟨q.1, of_decide_eq_true q.2⟩ ha
      · exact q
     refine qb_ w base X s pA pc ps hT h hop hm ht hS h1 h2 (fun p hp => ?_) hb
     by_cases hq : 300 < (lens ps).2
     · refine .inl ?_
       have hna : ¬ ps.any isIns = true := fun q => ha ⟨q, hq⟩
       cases hi : isIns p
       · rfl
       · exact absurd (List.any_eq_true.2 ⟨p, hp, hi⟩) hna
     · exact .inr (decide_eq_false hq)
 · exact absurd rfl hne
theorem tq_ (w : World) (base X : Nat) (s : EdV) (pA : Option Addr) (pc : Nat) (ps : List PartD) (hT : ∀ W, Below base w W → Tabs W) (h : EdAt 35 w base X s) (hop : OpIn (Off w X s) w pA ps) (hm : ps.length ≤ 1048576) (ht : ∀ p ∈ ps, p.text.size ≤ 1048576) (hS : s.n.Small) (hL : s.L.length ≤ 1000000000) (hR : s.RL.length ≤ 1048576) (hE : editErr s.d.n ps = 0) : Calls Tryz.prog 23 #[.pointer (some ⟨X, 0, none⟩), .slice pA ps.length pc] w (RetEdit 35 base X w s ps) := by
 rcases ez_ hE with ⟨h1, h9⟩ | ⟨h1, h2, h9⟩ | ⟨h1, h2, h3, h9⟩ | ⟨h1, h2, h3, h9⟩
 · cases h9
 · exact absurd h9.symm h2
 · cases h9
 · rw [Bool.or_eq_false_iff, Bool.and_eq_false_iff] at h3
   refine vg_ w base X s pA pc ps hT h hop hm ht hS hL hR h1 h2 (fun p hp => ?_) (fun x hx => ?_)
   · rcases h3.1 with q | q
     · refine .inl ?_
       cases hi : isIns p
       · rfl
       · rw [List.any_eq_true.2 ⟨p, hp, hi⟩] at q
         cases q
     · exact .inr q
   · cases hi : isFull x
     · rfl
     · rw [List.any_eq_true.2 ⟨x, hx, hi⟩] at h3
       cases h3.2
end Go.Proofs.YtacacoklddogmaaGreatDoor
