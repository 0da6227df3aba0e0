/- A part of the proof of NodeUndoes. -/
import Derived.Test.YtacacoklddogmaaGreatDoorKBB
namespace Go.Proofs.YtacacoklddogmaaGreatDoor
set_option maxHeartbeats 4000000
open Go.ChangeShapes Go.WideShapes Go.ChangeAt Go.RowKit
set_option maxRecDepth 100000
structure FrameD where
 kind : Int
 heard : Int
 epoch : Int
 op : List PartD
 text : ByteArray
def formOk (f : FrameD) : Prop :=
 if f.kind = 1 then f.epoch = 0 ∧ f.text.toList = [] else if f.kind = 2 then f.epoch ≠ 0 ∧ f.op = [] ∧ f.text.toList = [] else f.epoch ≠ 0 ∧ f.op = [] ∧ f.heard = 0
instance (f : FrameD) : Decidable (formOk f) := by
 unfold formOk
 exact inferInstance
def frameFault (f : FrameD) : Int :=
 if f.kind < 1 ∨ 3 < f.kind then 3
 else if (f.heard < 0 ∨ 1048576 < f.heard) ∨ (f.epoch < 0 ∨ 1048576 < f.epoch) then 2
 else if opFault f.op ≠ 0 then opFault f.op
 else if textFault f.text ≠ 0 then textFault f.text
 else if formOk f then 0 else 4
abbrev frameV (k h e : Int) (A : Option Addr) (n c : Nat) (s : ByteArray) : Value := .agg #[.int .i64 k, .int .i64 h, .int .i64 e, .slice A n c, .string s]
theorem jn_ (w : World) (h : Int) (A : Option Addr) (c : Nat) (ps : List PartD) (s : ByteArray) (hT : Tabs w) (hs : OpIn (· < w.heap.size) w A ps) (hm : ps.length ≤ 1048576) (ht : ∀ p ∈ ps, p.text.size ≤ 1048576) (hst : s.size ≤ 1048576) (hh1 : 0 ≤ h) (hh2 : h ≤ 1048576) (hop0 : opFault ps = 0) (htf0 : textFault s = 0) (_t1 : s.toList.isEmpty = true) :
 Calls Tryz.prog 72 #[frameV 1 h 0 A ps.length c s] w (R_ w (.int .i64 0)) := by
 have HTX := h_ ht
 have HT := h_ hT
 have HO := h_ (fun W => bj_ W A c ps)
 rw [hop0] at HO
 have HX := h_ (bd_ s)
 rw [htf0] at HX
 clear ht hT hop0 htf0
 go_enter Tryz.func72, Tryz.ntmps72
 go_wp2_with fail
 refine (u_ _ _ (by omega) (by omega)).mono ?_
 rintro e w1 ⟨rfl, rfl⟩
 go_wp2_with fail
 refine (u_ _ _ (by omega) (by omega)).mono ?_
 rintro e w1 ⟨rfl, rfl⟩
 go_wp2_with fail
 refine (HO.out _ (HT.out.later bz_) (Sl.later hs bz_) hm HTX.out).mono ?_
 rintro e w1 ⟨rfl, hb1⟩
 obtain ⟨⟨d1, os1⟩, rfl⟩ := a_ hb1
 go_wp2_with fail
 refine (HX.out _ (HT.out.later bz_) hst).mono ?_
 rintro e w2 ⟨rfl, hb2⟩
 obtain ⟨⟨d2, os2⟩, rfl⟩ := a_ hb2
 go_wp2_with fail
 go_ret
 exact ⟨rfl, bz_⟩
theorem jo_ (w : World) (h : Int) (A : Option Addr) (c : Nat) (ps : List PartD) (s : ByteArray) (hT : Tabs w) (hs : OpIn (· < w.heap.size) w A ps) (hm : ps.length ≤ 1048576) (ht : ∀ p ∈ ps, p.text.size ≤ 1048576) (hst : s.size ≤ 1048576) (hh1 : 0 ≤ h) (hh2 : h ≤ 1048576) (hop0 : opFault ps = 0) (htf0 : textFault s = 0) (_t1 : s.toList.isEmpty = false) :
 Calls Tryz.prog 72 #[frameV 1 h 0 A ps.length c s] w (R_ w (.int .i64 4)) := by
 have HTX := h_ ht
 have HT := h_ hT
 have HO := h_ (fun W => bj_ W A c ps)
 rw [hop0] at HO
 have HX := h_ (bd_ s)
 rw [htf0] at HX
 clear ht hT hop0 htf0
 go_enter Tryz.func72, Tryz.ntmps72
 go_wp2_with fail
 refine (u_ _ _ (by omega) (by omega)).mono ?_
 rintro e w1 ⟨rfl, rfl⟩
 go_wp2_with fail
 refine (u_ _ _ (by omega) (by omega)).mono ?_
 rintro e w1 ⟨rfl, rfl⟩
 go_wp2_with fail
 refine (HO.out _ (HT.out.later bz_) (Sl.later hs bz_) hm HTX.out).mono ?_
 rintro e w1 ⟨rfl, hb1⟩
 obtain ⟨⟨d1, os1⟩, rfl⟩ := a_ hb1
 go_wp2_with fail
 refine (HX.out _ (HT.out.later bz_) hst).mono ?_
 rintro e w2 ⟨rfl, hb2⟩
 obtain ⟨⟨d2, os2⟩, rfl⟩ := a_ hb2
 go_wp2_with fail
 go_ret
 exact ⟨rfl, bz_⟩
theorem jp_ (w : World) (h e : Int) (A : Option Addr) (c : Nat) (ps : List PartD) (s : ByteArray) (hT : Tabs w) (hs : OpIn (· < w.heap.size) w A ps) (hm : ps.length ≤ 1048576) (ht : ∀ p ∈ ps, p.text.size ≤ 1048576) (hst : s.size ≤ 1048576) (hh1 : 0 ≤ h) (hh2 : h ≤ 1048576) (he1 : 0 ≤ e) (he2 : e ≤ 1048576) (hop0 : opFault ps = 0) (htf0 : textFault s = 0) (_p1 : decide (0 < e) = true) (_p2 : (e == 0) = false) (_p3 : (e != 0) = true) :
 Calls Tryz.prog 72 #[frameV 1 h e A ps.length c s] w (R_ w (.int .i64 4)) := by
 have HTX := h_ ht
 have HT := h_ hT
 have HO := h_ (fun W => bj_ W A c ps)
 rw [hop0] at HO
 have HX := h_ (bd_ s)
 rw [htf0] at HX
 clear ht hT hop0 htf0
 go_enter Tryz.func72, Tryz.ntmps72
 go_wp2_with fail
 refine (u_ _ _ (by omega) (by omega)).mono ?_
 rintro e w1 ⟨rfl, rfl⟩
 go_wp2_with fail
 refine (u_ _ _ (by omega) (by omega)).mono ?_
 rintro e w1 ⟨rfl, rfl⟩
 go_wp2_with fail
 refine (HO.out _ (HT.out.later bz_) (Sl.later hs bz_) hm HTX.out).mono ?_
 rintro e w1 ⟨rfl, hb1⟩
 obtain ⟨⟨d1, os1⟩, rfl⟩ := a_ hb1
 go_wp2_with fail
 refine (HX.out _ (HT.out.later bz_) hst).mono ?_
 rintro e w2 ⟨rfl, hb2⟩
 obtain ⟨⟨d2, os2⟩, rfl⟩ := a_ hb2
 go_wp2_with fail
 go_ret
 exact ⟨rfl, bz_⟩
theorem jq_ (w : World) (h : Int) (A : Option Addr) (c : Nat) (ps : List PartD) (s : ByteArray) (hT : Tabs w) (hs : OpIn (· < w.heap.size) w A ps) (hm : ps.length ≤ 1048576) (ht : ∀ p ∈ ps, p.text.size ≤ 1048576) (hst : s.size ≤ 1048576) (hh1 : 0 ≤ h) (hh2 : h ≤ 1048576) (hop0 : opFault ps = 0) (htf0 : textFault s = 0)  :
 Calls Tryz.prog 72 #[frameV 2 h 0 A ps.length c s] w (R_ w (.int .i64 4)) := by
 have HTX := h_ ht
 have HT := h_ hT
 have HO := h_ (fun W => bj_ W A c ps)
 rw [hop0] at HO
 have HX := h_ (bd_ s)
 rw [htf0] at HX
 clear ht hT hop0 htf0
 go_enter Tryz.func72, Tryz.ntmps72
 go_wp2_with fail
 refine (u_ _ _ (by omega) (by omega)).mono ?_
 rintro e w1 ⟨rfl, rfl⟩
 go_wp2_with fail
 refine (u_ _ _ (by omega) (by omega)).mono ?_
 rintro e w1 ⟨rfl, rfl⟩
 go_wp2_with fail
 refine (HO.out _ (HT.out.later bz_) (Sl.later hs bz_) hm HTX.out).mono ?_
 rintro e w1 ⟨rfl, hb1⟩
 obtain ⟨⟨d1, os1⟩, rfl⟩ := a_ hb1
 go_wp2_with fail
 refine (HX.out _ (HT.out.later bz_) hst).mono ?_
 rintro e w2 ⟨rfl, hb2⟩
 obtain ⟨⟨d2, os2⟩, rfl⟩ := a_ hb2
 go_wp2_with fail
 go_ret
 exact ⟨rfl, bz_⟩
theorem jr_ (w : World) (h e : Int) (A : Option Addr) (c : Nat) (ps : List PartD) (s : ByteArray) (hT : Tabs w) (hs : OpIn (· < w.heap.size) w A ps) (hm : ps.length ≤ 1048576) (ht : ∀ p ∈ ps, p.text.size ≤ 1048576) (hst : s.size ≤ 1048576) (hh1 : 0 ≤ h) (hh2 : h ≤ 1048576) (he1 : 0 ≤ e) (he2 : e ≤ 1048576) (hop0 : opFault ps = 0) (htf0 : textFault s = 0) (_p1 : decide (0 < e) = true) (_p2 : (e == 0) = false) (_p3 : (e != 0) = true) (_q0 : decide (0 < ps.length) = false) (_t1 : s.toList.isEmpty = true) :
 Calls Tryz.prog 72 #[frameV 2 h e A ps.length c s] w (R_ w (.int .i64 0)) := by
 have HTX := h_ ht
 have HT := h_ hT
 have HO := h_ (fun W => bj_ W A c ps)
 rw [hop0] at HO
 have HX := h_ (bd_ s)
 rw [htf0] at HX
 clear ht hT hop0 htf0
 go_enter Tryz.func72, Tryz.ntmps72
 go_wp2_with fail
 refine (u_ _ _ (by omega) (by omega)).mono ?_
 rintro e w1 ⟨rfl, rfl⟩
 go_wp2_with fail
 refine (u_ _ _ (by omega) (by omega)).mono ?_
 rintro e w1 ⟨rfl, rfl⟩
 go_wp2_with fail
 refine (HO.out _ (HT.out.later bz_) (Sl.later hs bz_) hm HTX.out).mono ?_
 rintro e w1 ⟨rfl, hb1⟩
 obtain ⟨⟨d1, os1⟩, rfl⟩ := a_ hb1
 go_wp2_with fail
 refine (HX.out _ (HT.out.later bz_) hst).mono ?_
 rintro e w2 ⟨rfl, hb2⟩
 obtain ⟨⟨d2, os2⟩, rfl⟩ := a_ hb2
 go_wp2_with fail
 go_ret
 exact ⟨rfl, bz_⟩
theorem js_ (w : World) (h e : Int) (A : Option Addr) (c : Nat) (ps : List PartD) (s : ByteArray) (hT : Tabs w) (hs : OpIn (· < w.heap.size) w A ps) (hm : ps.length ≤ 1048576) (ht : ∀ p ∈ ps, p.text.size ≤ 1048576) (hst : s.size ≤ 1048576) (hh1 : 0 ≤ h) (hh2 : h ≤ 1048576) (he1 : 0 ≤ e) (he2 : e ≤ 1048576) (hop0 : opFault ps = 0) (htf0 : textFault s = 0) (_p1 : decide (0 < e) = true) (_p2 : (e == 0) = false) (_p3 : (e != 0) = true) (_q0 : decide (0 < ps.length) = false) (_t1 : s.toList.isEmpty = false) :
 Calls Tryz.prog 72 #[frameV 2 h e A ps.length c s] w (R_ w (.int .i64 4)) := by
 have HTX := h_ ht
 have HT := h_ hT
 have HO := h_ (fun W => bj_ W A c ps)
 rw [hop0] at HO
 have HX := h_ (bd_ s)
 rw [htf0] at HX
 clear ht hT hop0 htf0
 go_enter Tryz.func72, Tryz.ntmps72
 go_wp2_with fail
 refine (u_ _ _ (by omega) (by omega)).mono ?_
 rintro e w1 ⟨rfl, rfl⟩
 go_wp2_with fail
 refine (u_ _ _ (by omega) (by omega)).mono ?_
 rintro e w1 ⟨rfl, rfl⟩
 go_wp2_with fail
 refine (HO.out _ (HT.out.later bz_) (Sl.later hs bz_) hm HTX.out).mono ?_
 rintro e w1 ⟨rfl, hb1⟩
 obtain ⟨⟨d1, os1⟩, rfl⟩ := a_ hb1
 go_wp2_with fail
 refine (HX.out _ (HT.out.later bz_) hst).mono ?_
 rintro e w2 ⟨rfl, hb2⟩
 obtain ⟨⟨d2, os2⟩, rfl⟩ := a_ hb2
 go_wp2_with fail
 go_ret
 exact ⟨rfl, bz_⟩
theorem jt_ (w : World) (h e : Int) (A : Option Addr) (c : Nat) (ps : List PartD) (s : ByteArray) (hT : Tabs w) (hs : OpIn (· < w.heap.size) w A ps) (hm : ps.length ≤ 1048576) (ht : ∀ p ∈ ps, p.text.size ≤ 1048576) (hst : s.size ≤ 1048576) (hh1 : 0 ≤ h) (hh2 : h ≤ 1048576) (he1 : 0 ≤ e) (he2 : e ≤ 1048576) (hop0 : opFault ps = 0) (htf0 : textFault s = 0) (_p1 : decide (0 < e) = true) (_p2 : (e == 0) = false) (_p3 : (e != 0) = true) (_q1 : decide (0 < ps.length) = true) :
 Calls Tryz.prog 72 #[frameV 2 h e A ps.length c s] w (R_ w (.int .i64 4)) := by
 have HTX := h_ ht
 have HT := h_ hT
 have HO := h_ (fun W => bj_ W A c ps)
 rw [hop0] at HO
 have HX := h_ (bd_ s)
 rw [htf0] at HX
 clear ht hT hop0 htf0
 go_enter Tryz.func72, Tryz.ntmps72
 go_wp2_with fail
 refine (u_ _ _ (by omega) (by omega)).mono ?_
 rintro e w1 ⟨rfl, rfl⟩
 go_wp2_with fail
 refine (u_ _ _ (by omega) (by omega)).mono ?_
 rintro e w1 ⟨rfl, rfl⟩
 go_wp2_with fail
 refine (HO.out _ (HT.out.later bz_) (Sl.later hs bz_) hm HTX.out).mono ?_
 rintro e w1 ⟨rfl, hb1⟩
 obtain ⟨⟨d1, os1⟩, rfl⟩ := a_ hb1
 go_wp2_with fail
 refine (HX.out _ (HT.out.later bz_) hst).mono ?_
 rintro e w2 ⟨rfl, hb2⟩
 obtain ⟨⟨d2, os2⟩, rfl⟩ := a_ hb2
 go_wp2_with fail
 go_ret
 exact ⟨rfl, bz_⟩
theorem ju_ (w : World) (h : Int) (A : Option Addr) (c : Nat) (ps : List PartD) (s : ByteArray) (hT : Tabs w) (hs : OpIn (· < w.heap.size) w A ps) (hm : ps.length ≤ 1048576) (ht : ∀ p ∈ ps, p.text.size ≤ 1048576) (hst : s.size ≤ 1048576) (hh1 : 0 ≤ h) (hh2 : h ≤ 1048576) (hop0 : opFault ps = 0) (htf0 : textFault s = 0)  :
 Calls Tryz.prog 72 #[frameV 3 h 0 A ps.length c s] w (R_ w (.int .i64 4)) := by
 have HTX := h_ ht
 have HT := h_ hT
 have HO := h_ (fun W => bj_ W A c ps)
 rw [hop0] at HO
 have HX := h_ (bd_ s)
 rw [htf0] at HX
 clear ht hT hop0 htf0
 go_enter Tryz.func72, Tryz.ntmps72
 go_wp2_with fail
 refine (u_ _ _ (by omega) (by omega)).mono ?_
 rintro e w1 ⟨rfl, rfl⟩
 go_wp2_with fail
 refine (u_ _ _ (by omega) (by omega)).mono ?_
 rintro e w1 ⟨rfl, rfl⟩
 go_wp2_with fail
 refine (HO.out _ (HT.out.later bz_) (Sl.later hs bz_) hm HTX.out).mono ?_
 rintro e w1 ⟨rfl, hb1⟩
 obtain ⟨⟨d1, os1⟩, rfl⟩ := a_ hb1
 go_wp2_with fail
 refine (HX.out _ (HT.out.later bz_) hst).mono ?_
 rintro e w2 ⟨rfl, hb2⟩
 obtain ⟨⟨d2, os2⟩, rfl⟩ := a_ hb2
 go_wp2_with fail
 go_ret
 exact ⟨rfl, bz_⟩
theorem jv_ (w : World) (e : Int) (A : Option Addr) (c : Nat) (ps : List PartD) (s : ByteArray) (hT : Tabs w) (hs : OpIn (· < w.heap.size) w A ps) (hm : ps.length ≤ 1048576) (ht : ∀ p ∈ ps, p.text.size ≤ 1048576) (hst : s.size ≤ 1048576) (he1 : 0 ≤ e) (he2 : e ≤ 1048576) (hop0 : opFault ps = 0) (htf0 : textFault s = 0) (_p1 : decide (0 < e) = true) (_p2 : (e == 0) = false) (_p3 : (e != 0) = true) (_q0 : decide (0 < ps.length) = false) :
 Calls Tryz.prog 72 #[frameV 3 0 e A ps.length c s] w (R_ w (.int .i64 0)) := by
 have HTX := h_ ht
 have HT := h_ hT
 have HO := h_ (fun W => bj_ W A c ps)
 rw [hop0] at HO
 have HX := h_ (bd_ s)
 rw [htf0] at HX
 clear ht hT hop0 htf0
 go_enter Tryz.func72, Tryz.ntmps72
 go_wp2_with fail
 refine (u_ _ _ (by omega) (by omega)).mono ?_
 rintro e w1 ⟨rfl, rfl⟩
 go_wp2_with fail
 refine (u_ _ _ (by omega) (by omega)).mono ?_
 rintro e w1 ⟨rfl, rfl⟩
 go_wp2_with fail
 refine (HO.out _ (HT.out.later bz_) (Sl.later hs bz_) hm HTX.out).mono ?_
 rintro e w1 ⟨rfl, hb1⟩
 obtain ⟨⟨d1, os1⟩, rfl⟩ := a_ hb1
 go_wp2_with fail
 refine (HX.out _ (HT.out.later bz_) hst).mono ?_
 rintro e w2 ⟨rfl, hb2⟩
 obtain ⟨⟨d2, os2⟩, rfl⟩ := a_ hb2
 go_wp2_with fail
 go_ret
 exact ⟨rfl, bz_⟩
theorem ik_ (w : World) (h e : Int) (A : Option Addr) (c : Nat) (ps : List PartD) (s : ByteArray) (hT : Tabs w) (hs : OpIn (· < w.heap.size) w A ps) (hm : ps.length ≤ 1048576) (ht : ∀ p ∈ ps, p.text.size ≤ 1048576) (hst : s.size ≤ 1048576) (hh1 : 0 ≤ h) (hh2 : h ≤ 1048576) (he1 : 0 ≤ e) (he2 : e ≤ 1048576) (hop0 : opFault ps = 0) (htf0 : textFault s = 0) (_p1 : decide (0 < e) = true) (_p2 : (e == 0) = false) (_p3 : (e != 0) = true) (_q0 : decide (0 < ps.length) = false) (_g1 : decide (0 < h) = true) (_g2 : (h != 0) = true) :
 Calls Tryz.prog 72 #[frameV 3 h e A ps.length c s] w (R_ w (.int .i64 4)) := by
 have HTX := h_ ht
 have HT := h_ hT
 have HO := h_ (fun W => bj_ W A c ps)
 rw [hop0] at HO
 have HX := h_ (bd_ s)
 rw [htf0] at HX
 clear ht hT hop0 htf0
 go_enter Tryz.func72, Tryz.ntmps72
 go_wp2_with fail
 refine (u_ _ _ (by omega) (by omega)).mono ?_
 rintro e w1 ⟨rfl, rfl⟩
 go_wp2_with fail
 refine (u_ _ _ (by omega) (by omega)).mono ?_
 rintro e w1 ⟨rfl, rfl⟩
 go_wp2_with fail
 refine (HO.out _ (HT.out.later bz_) (Sl.later hs bz_) hm HTX.out).mono ?_
 rintro e w1 ⟨rfl, hb1⟩
 obtain ⟨⟨d1, os1⟩, rfl⟩ := a_ hb1
 go_wp2_with fail
 refine (HX.out _ (HT.out.later bz_) hst).mono ?_
 rintro e w2 ⟨rfl, hb2⟩
 obtain ⟨⟨d2, os2⟩, rfl⟩ := a_ hb2
 go_wp2_with fail
 go_ret
 exact ⟨rfl, bz_⟩
theorem il_ (w : World) (h e : Int) (A : Option Addr) (c : Nat) (ps : List PartD) (s : ByteArray) (hT : Tabs w) (hs : OpIn (· < w.heap.size) w A ps) (hm : ps.length ≤ 1048576) (ht : ∀ p ∈ ps, p.text.size ≤ 1048576) (hst : s.size ≤ 1048576) (hh1 : 0 ≤ h) (hh2 : h ≤ 1048576) (he1 : 0 ≤ e) (he2 : e ≤ 1048576) (hop0 : opFault ps = 0) (htf0 : textFault s = 0) (_p1 : decide (0 < e) = true) (_p2 : (e == 0) = false) (_p3 : (e != 0) = true) (_q1 : decide (0 < ps.length) = true) :
 Calls Tryz.prog 72 #[frameV 3 h e A ps.length c s] w (R_ w (.int .i64 4)) := by
 have HTX := h_ ht
 have HT := h_ hT
 have HO := h_ (fun W => bj_ W A c ps)
 rw [hop0] at HO
 have HX := h_ (bd_ s)
 rw [htf0] at HX
 clear ht hT hop0 htf0
 go_enter Tryz.func72, Tryz.ntmps72
 go_wp2_with fail
 refine (u_ _ _ (by omega) (by omega)).mono ?_
 rintro e w1 ⟨rfl, rfl⟩
 go_wp2_with fail
 refine (u_ _ _ (by omega) (by omega)).mono ?_
 rintro e w1 ⟨rfl, rfl⟩
 go_wp2_with fail
 refine (HO.out _ (HT.out.later bz_) (Sl.later hs bz_) hm HTX.out).mono ?_
 rintro e w1 ⟨rfl, hb1⟩
 obtain ⟨⟨d1, os1⟩, rfl⟩ := a_ hb1
 go_wp2_with fail
 refine (HX.out _ (HT.out.later bz_) hst).mono ?_
 rintro e w2 ⟨rfl, hb2⟩
 obtain ⟨⟨d2, os2⟩, rfl⟩ := a_ hb2
 go_wp2_with fail
 go_ret
 exact ⟨rfl, bz_⟩
theorem dz_ (w : World) (k h e : Int) (A : Option Addr) (c : Nat) (ps : List PartD) (s : ByteArray) (hT : Tabs w) (hs : OpIn (· < w.heap.size) w A ps) (hm : ps.length ≤ 1048576) (ht : ∀ p ∈ ps, p.text.size ≤ 1048576) (hst : s.size ≤ 1048576) :
 Calls Tryz.prog 72 #[frameV k h e A ps.length c s] w (R_ w (.int .i64 (frameFault ⟨k, h, e, ps, s⟩))) := by
 by_cases hk : k < 1 ∨ 3 < k
 · have HF := h_ (show frameFault ⟨k, h, e, ps, s⟩ = 3 from if_pos hk)
   rcases hk with hk | hk
   · have e1 : decide (k < 1) = true := by simpa using hk
     have HTX := h_ ht
     have HT := h_ hT
     clear ht hT
     go_enter Tryz.func72, Tryz.ntmps72
     go_wp2_with fail
     go_ret
     exact ⟨by rw [HF.out]; rfl, bz_⟩
   · have e1 : decide (k < 1) = false := by simp; omega
     have e2 : decide (3 < k) = true := by simpa using hk
     have HTX := h_ ht
     have HT := h_ hT
     clear ht hT
     go_enter Tryz.func72, Tryz.ntmps72
     go_wp2_with fail
     go_ret
     exact ⟨by rw [HF.out]; rfl, bz_⟩
 have hk1 : 1 ≤ k := by omega
 have hk3 : k ≤ 3 := by omega
 have d1 : decide (k < 1) = false := by simp; omega
 have d2 : decide (3 < k) = false := by simp; omega
 by_cases hh : h < 0 ∨ 1048576 < h
 · have HF := h_ (show frameFault ⟨k, h, e, ps, s⟩ = 2 by unfold frameFault; rw [if_neg hk, if_pos (Or.inl hh)])
   have H := h_ hh
   clear hh hk
   have HTX := h_ ht
   have HT := h_ hT
   clear ht hT
   go_enter Tryz.func72, Tryz.ntmps72
   go_wp2_with fail
   refine (no_ _ _ H.out).mono ?_
   rintro e w1 ⟨rfl, rfl⟩
   go_wp2_with fail
   go_ret
   exact ⟨by rw [HF.out]; rfl, bz_⟩
 have hh1 : 0 ≤ h := by omega
 have hh2 : h ≤ 1048576 := by omega
 by_cases he : e < 0 ∨ 1048576 < e
 · have HF := h_ (show frameFault ⟨k, h, e, ps, s⟩ = 2 by unfold frameFault; rw [if_neg hk, if_pos (Or.inr he)])
   have H := h_ he
   clear he hh hk
   have HTX := h_ ht
   have HT := h_ hT
   clear ht hT
   go_enter Tryz.func72, Tryz.ntmps72
   go_wp2_with fail
   refine (u_ _ _ (by omega) (by omega)).mono ?_
   rintro e w1 ⟨rfl, rfl⟩
   go_wp2_with fail
   refine (no_ _ _ H.out).mono ?_
   rintro e w1 ⟨rfl, rfl⟩
   go_wp2_with fail
   go_ret
   exact ⟨by rw [HF.out]; rfl, bz_⟩
 have he1 : 0 ≤ e := by omega
 have he2 : e ≤ 1048576 := by omega
 have hhe : ¬ ((h < 0 ∨ 1048576 < h) ∨ (e < 0 ∨ 1048576 < e)) := by omega
 by_cases hop : opFault ps ≠ 0
 · have HF := h_ (show frameFault ⟨k, h, e, ps, s⟩ = opFault ps by unfold frameFault; rw [if_neg hk, if_neg hhe, if_pos hop])
   have b1 : (opFault ps != 0) = true := by simpa using hop
   have b2 : (opFault ps == 0) = false := by simpa using hop
   have HO := h_ (fun W => bj_ W A c ps)
   generalize opFault ps = x at *
   clear he hh hk hhe hop
   have HTX := h_ ht
   have HT := h_ hT
   clear ht hT
   go_enter Tryz.func72, Tryz.ntmps72
   go_wp2_with fail
   refine (u_ _ _ (by omega) (by omega)).mono ?_
   rintro e w1 ⟨rfl, rfl⟩
   go_wp2_with fail
   refine (u_ _ _ (by omega) (by omega)).mono ?_
   rintro e w1 ⟨rfl, rfl⟩
   go_wp2_with fail
   refine (HO.out _ (HT.out.later bz_) (Sl.later hs bz_) hm HTX.out).mono ?_
   rintro e w1 ⟨rfl, hb1⟩
   obtain ⟨⟨d1, os1⟩, rfl⟩ := a_ hb1
   go_wp2_with fail
   go_ret
   exact ⟨by rw [HF.out]; rfl, bz_⟩
 have hop0 : opFault ps = 0 := by simpa using hop
 have HO := h_ (fun W => bj_ W A c ps)
 rw [hop0] at HO
 by_cases htf : textFault s ≠ 0
 · have HF := h_ (show frameFault ⟨k, h, e, ps, s⟩ = textFault s by unfold frameFault; rw [if_neg hk, if_neg hhe, if_neg hop, if_pos htf])
   have b1 : (textFault s != 0) = true := by simpa using htf
   have b2 : (textFault s == 0) = false := by simpa using htf
   have HX := h_ (bd_ s)
   generalize textFault s = x at *
   clear he hh hk hhe hop hop0 htf
   have HTX := h_ ht
   have HT := h_ hT
   clear ht hT
   go_enter Tryz.func72, Tryz.ntmps72
   go_wp2_with fail
   refine (u_ _ _ (by omega) (by omega)).mono ?_
   rintro e w1 ⟨rfl, rfl⟩
   go_wp2_with fail
   refine (u_ _ _ (by omega) (by omega)).mono ?_
   rintro e w1 ⟨rfl, rfl⟩
   go_wp2_with fail
   refine (HO.out _ (HT.out.later bz_) (Sl.later hs bz_) hm HTX.out).mono ?_
   rintro e w1 ⟨rfl, hb1⟩
   obtain ⟨⟨d1, os1⟩, rfl⟩ := a_ hb1
   go_wp2_with fail
   refine (HX.out _ (HT.out.later bz_) hst).mono ?_
   rintro e w2 ⟨rfl, hb2⟩
   obtain ⟨⟨d2, os2⟩, rfl⟩ := a_ hb2
   go_wp2_with fail
   go_ret
   exact ⟨by rw [HF.out]; rfl, bz_⟩
 have htf0 : textFault s = 0 := by simpa using htf
 have HG := h_ (show frameFault ⟨k, h, e, ps, s⟩ = if formOk ⟨k, h, e, ps, s⟩ then 0 else 4 by unfold frameFault; rw [if_neg hk, if_neg hhe, if_neg hop, if_neg htf])
 clear he hh hk hhe hop htf d1 d2
 rcases (show k = 1 ∨ k = 2 ∨ k = 3 by omega) with rfl | rfl | rfl
 · by_cases hz : e = 0
   · subst hz
     by_cases hte : s.toList = []
     · clear HO
       rw [HG.out, if_pos (by simp [formOk, hte])]
       exact jn_ w h A c ps s hT hs hm ht hst hh1 hh2 hop0 htf0 (by simpa using hte)
     · clear HO
       rw [HG.out, if_neg (by simp [formOk, hte])]
       exact jo_ w h A c ps s hT hs hm ht hst hh1 hh2 hop0 htf0 (by simpa using hte)
   · clear HO
     rw [HG.out, if_neg (by simp [formOk, hz])]
     exact jp_ w h e A c ps s hT hs hm ht hst hh1 hh2 he1 he2 hop0 htf0 (by simp; omega) (by simp; omega) (by simp; omega)
 · by_cases hz : e = 0
   · subst hz
     rw [HG.out, if_neg (by simp [formOk])]
     exact jq_ w h A c ps s hT hs hm ht hst hh1 hh2 hop0 htf0 
   · by_cases hps : ps = []
     · by_cases hte : s.toList = []
       · clear HO
         rw [HG.out, if_pos (by simp [formOk, hte, hz, hps])]
         exact jr_ w h e A c ps s hT hs hm ht hst hh1 hh2 he1 he2 hop0 htf0 (by simp; omega) (by simp; omega) (by simp; omega) (by simp [hps]) (by simpa using hte)
       · clear HO
         rw [HG.out, if_neg (by simp [formOk, hte])]
         exact js_ w h e A c ps s hT hs hm ht hst hh1 hh2 he1 he2 hop0 htf0 (by simp; omega) (by simp; omega) (by simp; omega) (by simp [hps]) (by simpa using hte)
     · clear HO
       rw [HG.out, if_neg (by simp [formOk, hps])]
       exact jt_ w h e A c ps s hT hs hm ht hst hh1 hh2 he1 he2 hop0 htf0 (by simp; omega) (by simp; omega) (by simp; omega) (decide_eq_true (List.length_pos_iff.2 hps))
 · by_cases hz : e = 0
   · subst hz
     rw [HG.out, if_neg (by simp [formOk])]
     exact ju_ w h A c ps s hT hs hm ht hst hh1 hh2 hop0 htf0 
   · by_cases hps : ps = []
     · by_cases hh0 : h = 0
       · subst hh0
         rw [HG.out, if_pos (by simp [formOk, hz, hps])]
         exact jv_ w e A c ps s hT hs hm ht hst he1 he2 hop0 htf0 (by simp; omega) (by simp; omega) (by simp; omega) (by simp [hps])
       · clear HO
         rw [HG.out, if_neg (by simp [formOk, hh0])]
         exact ik_ w h e A c ps s hT hs hm ht hst hh1 hh2 he1 he2 hop0 htf0 (by simp; omega) (by simp; omega) (by simp; omega) (by simp [hps]) (by simp; omega) (by simpa using hh0)
     · clear HO
       rw [HG.out, if_neg (by simp [formOk, hps])]
       exact il_ w h e A c ps s hT hs hm ht hst hh1 hh2 he1 he2 hop0 htf0 (by simp; omega) (by simp; omega) (by simp; omega) (decide_eq_true (List.length_pos_iff.2 hps))
theorem jw_ (w : World) (h : Int) (A : Option Addr) (c : Nat) (ps : List PartD) (s : ByteArray) (hT : Tabs w) (hs : OpIn (· < w.heap.size) w A ps) (hm : ps.length ≤ 1048576) (ht : ∀ p ∈ ps, p.text.size ≤ 1048576) (hst : s.size ≤ 1048576) (hh1 : 0 ≤ h) (hh2 : h ≤ 1048576) (hop0 : opFault ps = 0) (htf0 : textFault s = 0) (_t1 : s.toList.isEmpty = true) :
 Calls Tryz.prog 78 #[frameV 1 h 0 A ps.length c s] w (R_ w (.int .i64 0)) := by
 have HTX := h_ ht
 have HT := h_ hT
 have HO := h_ (fun W => bc_ W A c ps)
 rw [hop0] at HO
 have HX := h_ (be_ s)
 rw [htf0] at HX
 clear ht hT hop0 htf0
 go_enter Tryz.func78, Tryz.ntmps78
 go_wp2_with fail
 refine (c_ _ _ _ _ (by omega) (by omega)).mono ?_
 rintro e w1 ⟨rfl, rfl⟩
 go_wp2_with fail
 refine (c_ _ _ _ _ (by omega) (by omega)).mono ?_
 rintro e w1 ⟨rfl, rfl⟩
 go_wp2_with fail
 refine (c_ _ _ _ _ (by omega) (by omega)).mono ?_
 rintro e w1 ⟨rfl, rfl⟩
 go_wp2_with fail
 refine (HO.out _ (HT.out.later bz_) (Sl.later hs bz_) hm HTX.out).mono ?_
 rintro e w1 ⟨rfl, hb1⟩
 obtain ⟨⟨d1, os1⟩, rfl⟩ := a_ hb1
 go_wp2_with fail
 refine (HX.out _ (HT.out.later bz_) hst).mono ?_
 rintro e w2 ⟨rfl, hb2⟩
 obtain ⟨⟨d2, os2⟩, rfl⟩ := a_ hb2
 go_wp2_with fail
 go_ret
 exact ⟨rfl, bz_⟩
theorem jx_ (w : World) (h : Int) (A : Option Addr) (c : Nat) (ps : List PartD) (s : ByteArray) (hT : Tabs w) (hs : OpIn (· < w.heap.size) w A ps) (hm : ps.length ≤ 1048576) (ht : ∀ p ∈ ps, p.text.size ≤ 1048576) (hst : s.size ≤ 1048576) (hh1 : 0 ≤ h) (hh2 : h ≤ 1048576) (hop0 : opFault ps = 0) (htf0 : textFault s = 0) (_t1 : s.toList.isEmpty = false) :
 Calls Tryz.prog 78 #[frameV 1 h 0 A ps.length c s] w (R_ w (.int .i64 4)) := by
 have HTX := h_ ht
 have HT := h_ hT
 have HO := h_ (fun W => bc_ W A c ps)
 rw [hop0] at HO
 have HX := h_ (be_ s)
 rw [htf0] at HX
 clear ht hT hop0 htf0
 go_enter Tryz.func78, Tryz.ntmps78
 go_wp2_with fail
 refine (c_ _ _ _ _ (by omega) (by omega)).mono ?_
 rintro e w1 ⟨rfl, rfl⟩
 go_wp2_with fail
 refine (c_ _ _ _ _ (by omega) (by omega)).mono ?_
 rintro e w1 ⟨rfl, rfl⟩
 go_wp2_with fail
 refine (c_ _ _ _ _ (by omega) (by omega)).mono ?_
 rintro e w1 ⟨rfl, rfl⟩
 go_wp2_with fail
 refine (HO.out _ (HT.out.later bz_) (Sl.later hs bz_) hm HTX.out).mono ?_
 rintro e w1 ⟨rfl, hb1⟩
 obtain ⟨⟨d1, os1⟩, rfl⟩ := a_ hb1
 go_wp2_with fail
 refine (HX.out _ (HT.out.later bz_) hst).mono ?_
 rintro e w2 ⟨rfl, hb2⟩
 obtain ⟨⟨d2, os2⟩, rfl⟩ := a_ hb2
 go_wp2_with fail
 go_ret
 exact ⟨rfl, bz_⟩
theorem jy_ (w : World) (h e : Int) (A : Option Addr) (c : Nat) (ps : List PartD) (s : ByteArray) (hT : Tabs w) (hs : OpIn (· < w.heap.size) w A ps) (hm : ps.length ≤ 1048576) (ht : ∀ p ∈ ps, p.text.size ≤ 1048576) (hst : s.size ≤ 1048576) (hh1 : 0 ≤ h) (hh2 : h ≤ 1048576) (he1 : 0 ≤ e) (he2 : e ≤ 1048576) (hop0 : opFault ps = 0) (htf0 : textFault s = 0) (_p1 : decide (0 < e) = true) (_p2 : (e == 0) = false) (_p3 : (e != 0) = true) :
 Calls Tryz.prog 78 #[frameV 1 h e A ps.length c s] w (R_ w (.int .i64 4)) := by
 have HTX := h_ ht
 have HT := h_ hT
 have HO := h_ (fun W => bc_ W A c ps)
 rw [hop0] at HO
 have HX := h_ (be_ s)
 rw [htf0] at HX
 clear ht hT hop0 htf0
 go_enter Tryz.func78, Tryz.ntmps78
 go_wp2_with fail
 refine (c_ _ _ _ _ (by omega) (by omega)).mono ?_
 rintro e w1 ⟨rfl, rfl⟩
 go_wp2_with fail
 refine (c_ _ _ _ _ (by omega) (by omega)).mono ?_
 rintro e w1 ⟨rfl, rfl⟩
 go_wp2_with fail
 refine (c_ _ _ _ _ (by omega) (by omega)).mono ?_
 rintro e w1 ⟨rfl, rfl⟩
 go_wp2_with fail
 refine (HO.out _ (HT.out.later bz_) (Sl.later hs bz_) hm HTX.out).mono ?_
 rintro e w1 ⟨rfl, hb1⟩
 obtain ⟨⟨d1, os1⟩, rfl⟩ := a_ hb1
 go_wp2_with fail
 refine (HX.out _ (HT.out.later bz_) hst).mono ?_
 rintro e w2 ⟨rfl, hb2⟩
 obtain ⟨⟨d2, os2⟩, rfl⟩ := a_ hb2
 go_wp2_with fail
 go_ret
 exact ⟨rfl, bz_⟩
theorem jz_ (w : World) (h : Int) (A : Option Addr) (c : Nat) (ps : List PartD) (s : ByteArray) (hT : Tabs w) (hs : OpIn (· < w.heap.size) w A ps) (hm : ps.length ≤ 1048576) (ht : ∀ p ∈ ps, p.text.size ≤ 1048576) (hst : s.size ≤ 1048576) (hh1 : 0 ≤ h) (hh2 : h ≤ 1048576) (hop0 : opFault ps = 0) (htf0 : textFault s = 0)  :
 Calls Tryz.prog 78 #[frameV 2 h 0 A ps.length c s] w (R_ w (.int .i64 4)) := by
 have HTX := h_ ht
 have HT := h_ hT
 have HO := h_ (fun W => bc_ W A c ps)
 rw [hop0] at HO
 have HX := h_ (be_ s)
 rw [htf0] at HX
 clear ht hT hop0 htf0
 go_enter Tryz.func78, Tryz.ntmps78
 go_wp2_with fail
 refine (c_ _ _ _ _ (by omega) (by omega)).mono ?_
 rintro e w1 ⟨rfl, rfl⟩
 go_wp2_with fail
 refine (c_ _ _ _ _ (by omega) (by omega)).mono ?_
 rintro e w1 ⟨rfl, rfl⟩
 go_wp2_with fail
 refine (c_ _ _ _ _ (by omega) (by omega)).mono ?_
 rintro e w1 ⟨rfl, rfl⟩
 go_wp2_with fail
 refine (HO.out _ (HT.out.later bz_) (Sl.later hs bz_) hm HTX.out).mono ?_
 rintro e w1 ⟨rfl, hb1⟩
 obtain ⟨⟨d1, os1⟩, rfl⟩ := a_ hb1
 go_wp2_with fail
 refine (HX.out _ (HT.out.later bz_) hst).mono ?_
 rintro e w2 ⟨rfl, hb2⟩
 obtain ⟨⟨d2, os2⟩, rfl⟩ := a_ hb2
 go_wp2_with fail
 go_ret
 exact ⟨rfl, bz_⟩
theorem ka_ (w : World) (h e : Int) (A : Option Addr) (c : Nat) (ps : List PartD) (s : ByteArray) (hT : Tabs w) (hs : OpIn (· < w.heap.size) w A ps) (hm : ps.length ≤ 1048576) (ht : ∀ p ∈ ps, p.text.size ≤ 1048576) (hst : s.size ≤ 1048576) (hh1 : 0 ≤ h) (hh2 : h ≤ 1048576) (he1 : 0 ≤ e) (he2 : e ≤ 1048576) (hop0 : opFault ps = 0) (htf0 : textFault s = 0) (_p1 : decide (0 < e) = true) (_p2 : (e == 0) = false) (_p3 : (e != 0) = true) (_q0 : decide (0 < ps.length) = false) (_t1 : s.toList.isEmpty = true) :
 Calls Tryz.prog 78 #[frameV 2 h e A ps.length c s] w (R_ w (.int .i64 0)) := by
 have HTX := h_ ht
 have HT := h_ hT
 have HO := h_ (fun W => bc_ W A c ps)
 rw [hop0] at HO
 have HX := h_ (be_ s)
 rw [htf0] at HX
 clear ht hT hop0 htf0
 go_enter Tryz.func78, Tryz.ntmps78
 go_wp2_with fail
 refine (c_ _ _ _ _ (by omega) (by omega)).mono ?_
 rintro e w1 ⟨rfl, rfl⟩
 go_wp2_with fail
 refine (c_ _ _ _ _ (by omega) (by omega)).mono ?_
 rintro e w1 ⟨rfl, rfl⟩
 go_wp2_with fail
 refine (c_ _ _ _ _ (by omega) (by omega)).mono ?_
 rintro e w1 ⟨rfl, rfl⟩
 go_wp2_with fail
 refine (HO.out _ (HT.out.later bz_) (Sl.later hs bz_) hm HTX.out).mono ?_
 rintro e w1 ⟨rfl, hb1⟩
 obtain ⟨⟨d1, os1⟩, rfl⟩ := a_ hb1
 go_wp2_with fail
 refine (HX.out _ (HT.out.later bz_) hst).mono ?_
 rintro e w2 ⟨rfl, hb2⟩
 obtain ⟨⟨d2, os2⟩, rfl⟩ := a_ hb2
 go_wp2_with fail
 go_ret
 exact ⟨rfl, bz_⟩
theorem kb_ (w : World) (h e : Int) (A : Option Addr) (c : Nat) (ps : List PartD) (s : ByteArray) (hT : Tabs w) (hs : OpIn (· < w.heap.size) w A ps) (hm : ps.length ≤ 1048576) (ht : ∀ p ∈ ps, p.text.size ≤ 1048576) (hst : s.size ≤ 1048576) (hh1 : 0 ≤ h) (hh2 : h ≤ 1048576) (he1 : 0 ≤ e) (he2 : e ≤ 1048576) (hop0 : opFault ps = 0) (htf0 : textFault s = 0) (_p1 : decide (0 < e) = true) (_p2 : (e == 0) = false) (_p3 : (e != 0) = true) (_q0 : decide (0 < ps.length) = false) (_t1 : s.toList.isEmpty = false) :
 Calls Tryz.prog 78 #[frameV 2 h e A ps.length c s] w (R_ w (.int .i64 4)) := by
 have HTX := h_ ht
 have HT := h_ hT
 have HO := h_ (fun W => bc_ W A c ps)
 rw [hop0] at HO
 have HX := h_ (be_ s)
 rw [htf0] at HX
 clear ht hT hop0 htf0
 go_enter Tryz.func78, Tryz.ntmps78
 go_wp2_with fail
 refine (c_ _ _ _ _ (by omega) (by omega)).mono ?_
 rintro e w1 ⟨rfl, rfl⟩
 go_wp2_with fail
 refine (c_ _ _ _ _ (by omega) (by omega)).mono ?_
 rintro e w1 ⟨rfl, rfl⟩
 go_wp2_with fail
 refine (c_ _ _ _ _ (by omega) (by omega)).mono ?_
 rintro e w1 ⟨rfl, rfl⟩
 go_wp2_with fail
 refine (HO.out _ (HT.out.later bz_) (Sl.later hs bz_) hm HTX.out).mono ?_
 rintro e w1 ⟨rfl, hb1⟩
 obtain ⟨⟨d1, os1⟩, rfl⟩ := a_ hb1
 go_wp2_with fail
 refine (HX.out _ (HT.out.later bz_) hst).mono ?_
 rintro e w2 ⟨rfl, hb2⟩
 obtain ⟨⟨d2, os2⟩, rfl⟩ := a_ hb2
 go_wp2_with fail
 go_ret
 exact ⟨rfl, bz_⟩
theorem kc_ (w : World) (h e : Int) (A : Option Addr) (c : Nat) (ps : List PartD) (s : ByteArray) (hT : Tabs w) (hs : OpIn (· < w.heap.size) w A ps) (hm : ps.length ≤ 1048576) (ht : ∀ p ∈ ps, p.text.size ≤ 1048576) (hst : s.size ≤ 1048576) (hh1 : 0 ≤ h) (hh2 : h ≤ 1048576) (he1 : 0 ≤ e) (he2 : e ≤ 1048576) (hop0 : opFault ps = 0) (htf0 : textFault s = 0) (_p1 : decide (0 < e) = true) (_p2 : (e == 0) = false) (_p3 : (e != 0) = true) (_q1 : decide (0 < ps.length) = true) :
 Calls Tryz.prog 78 #[frameV 2 h e A ps.length c s] w (R_ w (.int .i64 4)) := by
 have HTX := h_ ht
 have HT := h_ hT
 have HO := h_ (fun W => bc_ W A c ps)
 rw [hop0] at HO
 have HX := h_ (be_ s)
 rw [htf0] at HX
 clear ht hT hop0 htf0
 go_enter Tryz.func78, Tryz.ntmps78
 go_wp2_with fail
 refine (c_ _ _ _ _ (by omega) (by omega)).mono ?_
 rintro e w1 ⟨rfl, rfl⟩
 go_wp2_with fail
 refine (c_ _ _ _ _ (by omega) (by omega)).mono ?_
 rintro e w1 ⟨rfl, rfl⟩
 go_wp2_with fail
 refine (c_ _ _ _ _ (by omega) (by omega)).mono ?_
 rintro e w1 ⟨rfl, rfl⟩
 go_wp2_with fail
 refine (HO.out _ (HT.out.later bz_) (Sl.later hs bz_) hm HTX.out).mono ?_
 rintro e w1 ⟨rfl, hb1⟩
 obtain ⟨⟨d1, os1⟩, rfl⟩ := a_ hb1
 go_wp2_with fail
 refine (HX.out _ (HT.out.later bz_) hst).mono ?_
 rintro e w2 ⟨rfl, hb2⟩
 obtain ⟨⟨d2, os2⟩, rfl⟩ := a_ hb2
 go_wp2_with fail
 go_ret
 exact ⟨rfl, bz_⟩
theorem kd_ (w : World) (h : Int) (A : Option Addr) (c : Nat) (ps : List PartD) (s : ByteArray) (hT : Tabs w) (hs : OpIn (· < w.heap.size) w A ps) (hm : ps.length ≤ 1048576) (ht : ∀ p ∈ ps, p.text.size ≤ 1048576) (hst : s.size ≤ 1048576) (hh1 : 0 ≤ h) (hh2 : h ≤ 1048576) (hop0 : opFault ps = 0) (htf0 : textFault s = 0)  :
 Calls Tryz.prog 78 #[frameV 3 h 0 A ps.length c s] w (R_ w (.int .i64 4)) := by
 have HTX := h_ ht
 have HT := h_ hT
 have HO := h_ (fun W => bc_ W A c ps)
 rw [hop0] at HO
 have HX := h_ (be_ s)
 rw [htf0] at HX
 clear ht hT hop0 htf0
 go_enter Tryz.func78, Tryz.ntmps78
 go_wp2_with fail
 refine (c_ _ _ _ _ (by omega) (by omega)).mono ?_
 rintro e w1 ⟨rfl, rfl⟩
 go_wp2_with fail
 refine (c_ _ _ _ _ (by omega) (by omega)).mono ?_
 rintro e w1 ⟨rfl, rfl⟩
 go_wp2_with fail
 refine (c_ _ _ _ _ (by omega) (by omega)).mono ?_
 rintro e w1 ⟨rfl, rfl⟩
 go_wp2_with fail
 refine (HO.out _ (HT.out.later bz_) (Sl.later hs bz_) hm HTX.out).mono ?_
 rintro e w1 ⟨rfl, hb1⟩
 obtain ⟨⟨d1, os1⟩, rfl⟩ := a_ hb1
 go_wp2_with fail
 refine (HX.out _ (HT.out.later bz_) hst).mono ?_
 rintro e w2 ⟨rfl, hb2⟩
 obtain ⟨⟨d2, os2⟩, rfl⟩ := a_ hb2
 go_wp2_with fail
 go_ret
 exact ⟨rfl, bz_⟩
theorem ke_ (w : World) (e : Int) (A : Option Addr) (c : Nat) (ps : List PartD) (s : ByteArray) (hT : Tabs w) (hs : OpIn (· < w.heap.size) w A ps) (hm : ps.length ≤ 1048576) (ht : ∀ p ∈ ps, p.text.size ≤ 1048576) (hst : s.size ≤ 1048576) (he1 : 0 ≤ e) (he2 : e ≤ 1048576) (hop0 : opFault ps = 0) (htf0 : textFault s = 0) (_p1 : decide (0 < e) = true) (_p2 : (e == 0) = false) (_p3 : (e != 0) = true) (_q0 : decide (0 < ps.length) = false) :
 Calls Tryz.prog 78 #[frameV 3 0 e A ps.length c s] w (R_ w (.int .i64 0)) := by
 have HTX := h_ ht
 have HT := h_ hT
 have HO := h_ (fun W => bc_ W A c ps)
 rw [hop0] at HO
 have HX := h_ (be_ s)
 rw [htf0] at HX
 clear ht hT hop0 htf0
 go_enter Tryz.func78, Tryz.ntmps78
 go_wp2_with fail
 refine (c_ _ _ _ _ (by omega) (by omega)).mono ?_
 rintro e w1 ⟨rfl, rfl⟩
 go_wp2_with fail
 refine (c_ _ _ _ _ (by omega) (by omega)).mono ?_
 rintro e w1 ⟨rfl, rfl⟩
 go_wp2_with fail
 refine (c_ _ _ _ _ (by omega) (by omega)).mono ?_
 rintro e w1 ⟨rfl, rfl⟩
 go_wp2_with fail
 refine (HO.out _ (HT.out.later bz_) (Sl.later hs bz_) hm HTX.out).mono ?_
 rintro e w1 ⟨rfl, hb1⟩
 obtain ⟨⟨d1, os1⟩, rfl⟩ := a_ hb1
 go_wp2_with fail
 refine (HX.out _ (HT.out.later bz_) hst).mono ?_
 rintro e w2 ⟨rfl, hb2⟩
 obtain ⟨⟨d2, os2⟩, rfl⟩ := a_ hb2
 go_wp2_with fail
 go_ret
 exact ⟨rfl, bz_⟩
theorem im_ (w : World) (h e : Int) (A : Option Addr) (c : Nat) (ps : List PartD) (s : ByteArray) (hT : Tabs w) (hs : OpIn (· < w.heap.size) w A ps) (hm : ps.length ≤ 1048576) (ht : ∀ p ∈ ps, p.text.size ≤ 1048576) (hst : s.size ≤ 1048576) (hh1 : 0 ≤ h) (hh2 : h ≤ 1048576) (he1 : 0 ≤ e) (he2 : e ≤ 1048576) (hop0 : opFault ps = 0) (htf0 : textFault s = 0) (_p1 : decide (0 < e) = true) (_p2 : (e == 0) = false) (_p3 : (e != 0) = true) (_q0 : decide (0 < ps.length) = false) (_g1 : decide (0 < h) = true) (_g2 : (h != 0) = true) :
 Calls Tryz.prog 78 #[frameV 3 h e A ps.length c s] w (R_ w (.int .i64 4)) := by
 have HTX := h_ ht
 have HT := h_ hT
 have HO := h_ (fun W => bc_ W A c ps)
 rw [hop0] at HO
 have HX := h_ (be_ s)
 rw [htf0] at HX
 clear ht hT hop0 htf0
 go_enter Tryz.func78, Tryz.ntmps78
 go_wp2_with fail
 refine (c_ _ _ _ _ (by omega) (by omega)).mono ?_
 rintro e w1 ⟨rfl, rfl⟩
 go_wp2_with fail
 refine (c_ _ _ _ _ (by omega) (by omega)).mono ?_
 rintro e w1 ⟨rfl, rfl⟩
 go_wp2_with fail
 refine (c_ _ _ _ _ (by omega) (by omega)).mono ?_
 rintro e w1 ⟨rfl, rfl⟩
 go_wp2_with fail
 refine (HO.out _ (HT.out.later bz_) (Sl.later hs bz_) hm HTX.out).mono ?_
 rintro e w1 ⟨rfl, hb1⟩
 obtain ⟨⟨d1, os1⟩, rfl⟩ := a_ hb1
 go_wp2_with fail
 refine (HX.out _ (HT.out.later bz_) hst).mono ?_
 rintro e w2 ⟨rfl, hb2⟩
 obtain ⟨⟨d2, os2⟩, rfl⟩ := a_ hb2
 go_wp2_with fail
 go_ret
 exact ⟨rfl, bz_⟩
theorem io_ (w : World) (h e : Int) (A : Option Addr) (c : Nat) (ps : List PartD) (s : ByteArray) (hT : Tabs w) (hs : OpIn (· < w.heap.size) w A ps) (hm : ps.length ≤ 1048576) (ht : ∀ p ∈ ps, p.text.size ≤ 1048576) (hst : s.size ≤ 1048576) (hh1 : 0 ≤ h) (hh2 : h ≤ 1048576) (he1 : 0 ≤ e) (he2 : e ≤ 1048576) (hop0 : opFault ps = 0) (htf0 : textFault s = 0) (_p1 : decide (0 < e) = true) (_p2 : (e == 0) = false) (_p3 : (e != 0) = true) (_q1 : decide (0 < ps.length) = true) :
 Calls Tryz.prog 78 #[frameV 3 h e A ps.length c s] w (R_ w (.int .i64 4)) := by
 have HTX := h_ ht
 have HT := h_ hT
 have HO := h_ (fun W => bc_ W A c ps)
 rw [hop0] at HO
 have HX := h_ (be_ s)
 rw [htf0] at HX
 clear ht hT hop0 htf0
 go_enter Tryz.func78, Tryz.ntmps78
 go_wp2_with fail
 refine (c_ _ _ _ _ (by omega) (by omega)).mono ?_
 rintro e w1 ⟨rfl, rfl⟩
 go_wp2_with fail
 refine (c_ _ _ _ _ (by omega) (by omega)).mono ?_
 rintro e w1 ⟨rfl, rfl⟩
 go_wp2_with fail
 refine (c_ _ _ _ _ (by omega) (by omega)).mono ?_
 rintro e w1 ⟨rfl, rfl⟩
 go_wp2_with fail
 refine (HO.out _ (HT.out.later bz_) (Sl.later hs bz_) hm HTX.out).mono ?_
 rintro e w1 ⟨rfl, hb1⟩
 obtain ⟨⟨d1, os1⟩, rfl⟩ := a_ hb1
 go_wp2_with fail
 refine (HX.out _ (HT.out.later bz_) hst).mono ?_
 rintro e w2 ⟨rfl, hb2⟩
 obtain ⟨⟨d2, os2⟩, rfl⟩ := a_ hb2
 go_wp2_with fail
 go_ret
 exact ⟨rfl, bz_⟩
theorem ea_ (w : World) (k h e : Int) (A : Option Addr) (c : Nat) (ps : List PartD) (s : ByteArray) (hT : Tabs w) (hs : OpIn (· < w.heap.size) w A ps) (hm : ps.length ≤ 1048576) (ht : ∀ p ∈ ps, p.text.size ≤ 1048576) (hst : s.size ≤ 1048576) :
 Calls Tryz.prog 78 #[frameV k h e A ps.length c s] w (R_ w (.int .i64 (frameFault ⟨k, h, e, ps, s⟩))) := by
 by_cases hk : k < 1 ∨ 3 < k
 · have HF := h_ (show frameFault ⟨k, h, e, ps, s⟩ = 3 from if_pos hk)
   have H := h_ hk
   clear hk
   have HTX := h_ ht
   have HT := h_ hT
   clear ht hT
   go_enter Tryz.func78, Tryz.ntmps78
   go_wp2_with fail
   refine (In_no _ _ _ _ H.out).mono ?_
   rintro e w1 ⟨rfl, rfl⟩
   go_wp2_with fail
   go_ret
   exact ⟨by rw [HF.out]; rfl, bz_⟩
 have hk1 : 1 ≤ k := by omega
 have hk3 : k ≤ 3 := by omega
 have d1 : decide (k < 1) = false := by simp; omega
 have d2 : decide (3 < k) = false := by simp; omega
 by_cases hh : h < 0 ∨ 1048576 < h
 · have HF := h_ (show frameFault ⟨k, h, e, ps, s⟩ = 2 by unfold frameFault; rw [if_neg hk, if_pos (Or.inl hh)])
   have H := h_ hh
   clear hh hk
   have HTX := h_ ht
   have HT := h_ hT
   clear ht hT
   go_enter Tryz.func78, Tryz.ntmps78
   go_wp2_with fail
   refine (c_ _ _ _ _ (by omega) (by omega)).mono ?_
   rintro e w1 ⟨rfl, rfl⟩
   go_wp2_with fail
   refine (In_no _ _ _ _ H.out).mono ?_
   rintro e w1 ⟨rfl, rfl⟩
   go_wp2_with fail
   go_ret
   exact ⟨by rw [HF.out]; rfl, bz_⟩
 have hh1 : 0 ≤ h := by omega
 have hh2 : h ≤ 1048576 := by omega
 by_cases he : e < 0 ∨ 1048576 < e
 · have HF := h_ (show frameFault ⟨k, h, e, ps, s⟩ = 2 by unfold frameFault; rw [if_neg hk, if_pos (Or.inr he)])
   have H := h_ he
   clear he hh hk
   have HTX := h_ ht
   have HT := h_ hT
   clear ht hT
   go_enter Tryz.func78, Tryz.ntmps78
   go_wp2_with fail
   refine (c_ _ _ _ _ (by omega) (by omega)).mono ?_
   rintro e w1 ⟨rfl, rfl⟩
   go_wp2_with fail
   refine (c_ _ _ _ _ (by omega) (by omega)).mono ?_
   rintro e w1 ⟨rfl, rfl⟩
   go_wp2_with fail
   refine (In_no _ _ _ _ H.out).mono ?_
   rintro e w1 ⟨rfl, rfl⟩
   go_wp2_with fail
   go_ret
   exact ⟨by rw [HF.out]; rfl, bz_⟩
 have he1 : 0 ≤ e := by omega
 have he2 : e ≤ 1048576 := by omega
 have hhe : ¬ ((h < 0 ∨ 1048576 < h) ∨ (e < 0 ∨ 1048576 < e)) := by omega
 by_cases hop : opFault ps ≠ 0
 · have HF := h_ (show frameFault ⟨k, h, e, ps, s⟩ = opFault ps by unfold frameFault; rw [if_neg hk, if_neg hhe, if_pos hop])
   have b1 : (opFault ps != 0) = true := by simpa using hop
   have b2 : (opFault ps == 0) = false := by simpa using hop
   have HO := h_ (fun W => bc_ W A c ps)
   generalize opFault ps = x at *
   clear he hh hk hhe hop
   have HTX := h_ ht
   have HT := h_ hT
   clear ht hT
   go_enter Tryz.func78, Tryz.ntmps78
   go_wp2_with fail
   refine (c_ _ _ _ _ (by omega) (by omega)).mono ?_
   rintro e w1 ⟨rfl, rfl⟩
   go_wp2_with fail
   refine (c_ _ _ _ _ (by omega) (by omega)).mono ?_
   rintro e w1 ⟨rfl, rfl⟩
   go_wp2_with fail
   refine (c_ _ _ _ _ (by omega) (by omega)).mono ?_
   rintro e w1 ⟨rfl, rfl⟩
   go_wp2_with fail
   refine (HO.out _ (HT.out.later bz_) (Sl.later hs bz_) hm HTX.out).mono ?_
   rintro e w1 ⟨rfl, hb1⟩
   obtain ⟨⟨d1, os1⟩, rfl⟩ := a_ hb1
   go_wp2_with fail
   go_ret
   exact ⟨by rw [HF.out]; rfl, bz_⟩
 have hop0 : opFault ps = 0 := by simpa using hop
 have HO := h_ (fun W => bc_ W A c ps)
 rw [hop0] at HO
 by_cases htf : textFault s ≠ 0
 · have HF := h_ (show frameFault ⟨k, h, e, ps, s⟩ = textFault s by unfold frameFault; rw [if_neg hk, if_neg hhe, if_neg hop, if_pos htf])
   have b1 : (textFault s != 0) = true := by simpa using htf
   have b2 : (textFault s == 0) = false := by simpa using htf
   have HX := h_ (be_ s)
   generalize textFault s = x at *
   clear he hh hk hhe hop hop0 htf
   have HTX := h_ ht
   have HT := h_ hT
   clear ht hT
   go_enter Tryz.func78, Tryz.ntmps78
   go_wp2_with fail
   refine (c_ _ _ _ _ (by omega) (by omega)).mono ?_
   rintro e w1 ⟨rfl, rfl⟩
   go_wp2_with fail
   refine (c_ _ _ _ _ (by omega) (by omega)).mono ?_
   rintro e w1 ⟨rfl, rfl⟩
   go_wp2_with fail
   refine (c_ _ _ _ _ (by omega) (by omega)).mono ?_
   rintro e w1 ⟨rfl, rfl⟩
   go_wp2_with fail
   refine (HO.out _ (HT.out.later bz_) (Sl.later hs bz_) hm HTX.out).mono ?_
   rintro e w1 ⟨rfl, hb1⟩
   obtain ⟨⟨d1, os1⟩, rfl⟩ := a_ hb1
   go_wp2_with fail
   refine (HX.out _ (HT.out.later bz_) hst).mono ?_
   rintro e w2 ⟨rfl, hb2⟩
   obtain ⟨⟨d2, os2⟩, rfl⟩ := a_ hb2
   go_wp2_with fail
   go_ret
   exact ⟨by rw [HF.out]; rfl, bz_⟩
 have htf0 : textFault s = 0 := by simpa using htf
 have HG := h_ (show frameFault ⟨k, h, e, ps, s⟩ = if formOk ⟨k, h, e, ps, s⟩ then 0 else 4 by unfold frameFault; rw [if_neg hk, if_neg hhe, if_neg hop, if_neg htf])
 clear he hh hk hhe hop htf d1 d2
 rcases (show k = 1 ∨ k = 2 ∨ k = 3 by omega) with rfl | rfl | rfl
 · by_cases hz : e = 0
   · subst hz
     by_cases hte : s.toList = []
     · clear HO
       rw [HG.out, if_pos (by simp [formOk, hte])]
       exact jw_ w h A c ps s hT hs hm ht hst hh1 hh2 hop0 htf0 (by simpa using hte)
     · clear HO
       rw [HG.out, if_neg (by simp [formOk, hte])]
       exact jx_ w h A c ps s hT hs hm ht hst hh1 hh2 hop0 htf0 (by simpa using hte)
   · clear HO
     rw [HG.out, if_neg (by simp [formOk, hz])]
     exact jy_ w h e A c ps s hT hs hm ht hst hh1 hh2 he1 he2 hop0 htf0 (by simp; omega) (by simp; omega) (by simp; omega)
 · by_cases hz : e = 0
   · subst hz
     rw [HG.out, if_neg (by simp [formOk])]
     exact jz_ w h A c ps s hT hs hm ht hst hh1 hh2 hop0 htf0 
   · by_cases hps : ps = []
     · by_cases hte : s.toList = []
       · clear HO
         rw [HG.out, if_pos (by simp [formOk, hte, hz, hps])]
         exact ka_ w h e A c ps s hT hs hm ht hst hh1 hh2 he1 he2 hop0 htf0 (by simp; omega) (by simp; omega) (by simp; omega) (by simp [hps]) (by simpa using hte)
       · clear HO
         rw [HG.out, if_neg (by simp [formOk, hte])]
         exact kb_ w h e A c ps s hT hs hm ht hst hh1 hh2 he1 he2 hop0 htf0 (by simp; omega) (by simp; omega) (by simp; omega) (by simp [hps]) (by simpa using hte)
     · clear HO
       rw [HG.out, if_neg (by simp [formOk, hps])]
       exact kc_ w h e A c ps s hT hs hm ht hst hh1 hh2 he1 he2 hop0 htf0 (by simp; omega) (by simp; omega) (by simp; omega) (decide_eq_true (List.length_pos_iff.2 hps))
 · by_cases hz : e = 0
   · subst hz
     rw [HG.out, if_neg (by simp [formOk])]
     exact kd_ w h A c ps s hT hs hm ht hst hh1 hh2 hop0 htf0 
   · by_cases hps : ps = []
     · by_cases hh0 : h = 0
       · subst hh0
         rw [HG.out, if_pos (by simp [formOk, hz, hps])]
         exact ke_ w e A c ps s hT hs hm ht hst he1 he2 hop0 htf0 (by simp; omega) (by simp; omega) (by simp; omega) (by simp [hps])
       · clear HO
         rw [HG.out, if_neg (by simp [formOk, hh0])]
         exact im_ w h e A c ps s hT hs hm ht hst hh1 hh2 he1 he2 hop0 htf0 (by simp; omega) (by simp; omega) (by simp; omega) (by simp [hps]) (by simp; omega) (by simpa using hh0)
     · clear HO
       rw [HG.out, if_neg (by simp [formOk, hps])]
       exact io_ w h e A c ps s hT hs hm ht hst hh1 hh2 he1 he2 hop0 htf0 (by simp; omega) (by simp; omega) (by simp; omega) (decide_eq_true (List.length_pos_iff.2 hps))
end Go.Proofs.YtacacoklddogmaaGreatDoor
