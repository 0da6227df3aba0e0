/- A part of the proof of NodeUndoes. -/
import Derived.Test.YtacacoklddogmaaGreatDoorKED
import Derived.Test.YtacacoklddogmaaGreatDoorKEE
import Derived.Test.YtacacoklddogmaaGreatDoorKFramedX
import Derived.Test.YtacacoklddogmaaGreatDoorKGF
import Derived.Test.YtacacoklddogmaaGreatDoorKEG
import Derived.Test.YtacacoklddogmaaGreatDoorKDB
import Derived.Test.YtacacoklddogmaaGreatDoorKDG
namespace Go.Proofs.YtacacoklddogmaaGreatDoor
set_option maxHeartbeats 4000000
open Go.ChangeShapes Go.WideShapes Go.ChangeAt Go.RowKit
set_option maxRecDepth 100000
def sentD (n : NodeV) (s : Nat) (f : FrameD) : NodeD :=
 if sendE (n.S.getD s default).k f = 0 then ⟨n.me, n.ep, n.up, n.rd, n.t, (n.S.map SideV.d).set s ⟨(n.S.getD s default).p, (n.S.getD s default).j, (n.S.getD s default).s, (n.S.getD s default).h, (n.S.getD s default).L.map OpV.ps, fillL (waitL (n.S.getD s default).k.d f)⟩, n.U.map OpV.ps, n.M⟩ else n.d
def sentP (n : NodeV) (s : Nat) (f : FrameD) : List PostD := if sendE (n.S.getD s default).k f = 0 then (fillP (waitL (n.S.getD s default).k.d f)).map (PostD.mk (n.S.getD s default).p) else []
theorem wc_ (n : NodeV) (s : Nat) (l : LinkV) : (n.link s l).d = ⟨n.me, n.ep, n.up, n.rd, n.t, (n.S.map SideV.d).set s ⟨(n.S.getD s default).p, (n.S.getD s default).j, (n.S.getD s default).s, (n.S.getD s default).h, (n.S.getD s default).L.map OpV.ps, l.d⟩, n.U.map OpV.ps, n.M⟩ := by
 simp [NodeV.link, NodeV.d, List.map_set]
instance : Inhabited SideD := ⟨(default : SideV).d⟩
structure EdV where
 n : NodeV
 A : Option Addr
 c : Nat
 L : List PostV
 RA : Option Addr
 rc : Nat
 RL : List RecV
structure EdD where
 n : NodeD
 L : List PostD
 R : List (Int × List PartD)
abbrev EdV.d (s : EdV) : EdD := ⟨s.n.d, s.L.map PostV.d, s.RL.map RecV.key⟩
abbrev EdAt (T : TypeId) (W : World) (base X : Nat) (s : EdV) : Prop := EditAt T W base X s.n s.A s.c s.L s.RA s.rc s.RL
def Off (W : World) (X : Nat) (s : EdV) (b : Nat) : Prop := FreeX W 0 X (Value.slice s.A s.L.length s.c).ownBlock s.n.sOwn [s.n.mOwn, s.n.uOwn, (Value.slice s.RA s.RL.length s.rc).ownBlock] b
def Stay (w : World) (X : Nat) (s : EdV) (w' : World) (s' : EdV) : Prop := ∀ b, Off w X s b → Off w' X s' b ∧ w'.heap[b]? = w.heap[b]?
theorem Stay.trans {w w1 w2 : World} {X : Nat} {s s1 s2 : EdV} (h : Stay w X s w1 s1) (k : Stay w1 X s1 w2 s2) : Stay w X s w2 s2 := fun b hb => ⟨(k b (h b hb).1).1, (k b (h b hb).1).2.trans (h b hb).2⟩
theorem Stay.of_below {w w' : World} {X : Nat} {s : EdV} (hb : Below w.heap.size w w') : Stay w X s w' s := fun b h => ⟨⟨⟨h.1.1, Nat.lt_of_lt_of_le h.1.2 hb.size⟩, h.2⟩, hb.block b h.1.2⟩
theorem Stay.refl (w : World) (X : Nat) (s : EdV) : Stay w X s w s := Stay.of_below (Below.refl _ _)
theorem EdAt.off {T : TypeId} {W : World} {base X : Nat} {s : EdV} (h : EdAt T W base X s) {b : Nat} (hb : b < base) : Off W X s b := by
 have hlo := h.busy.lo
 have hlt := h.busy.lt
 refine ⟨⟨Nat.zero_le _, by omega⟩, by omega, fun e => by have := (h.busy.prow.lt b e).1; omega, fun e => by have := (h.busy.srow.lt b e).1; omega, fun r hr e => ?_⟩
 simp only [List.mem_cons, List.not_mem_nil, or_false] at hr
 rcases hr with rfl | rfl | rfl
 · have := (h.mrow.lt b e).1
   omega
 · have := (h.urow.lt b e).1
   omega
 · have := (h.rrow.lt b e).1
   omega
theorem Off.lt {W : World} {X : Nat} {s : EdV} {b : Nat} (h : Off W X s b) : b < W.heap.size := h.1.2
theorem qf_ {W : World} {base X : Nat} {s : EdV} {b : Nat} (h : FreeX W base X (Value.slice s.A s.L.length s.c).ownBlock s.n.sOwn [s.n.mOwn, s.n.uOwn, (Value.slice s.RA s.RL.length s.rc).ownBlock] b) : Off W X s b := ⟨⟨Nat.zero_le _, h.1.2⟩, h.2⟩
theorem EdAt.fresh {T : TypeId} {w W : World} {base X : Nat} {s : EdV} (h : EdAt T w base X s) {b : Nat} (h1 : w.heap.size ≤ b) (h2 : b < W.heap.size) : Off W X s b := by
 have hlt := h.busy.lt
 refine ⟨⟨Nat.zero_le _, h2⟩, by omega, fun e => by have := (h.busy.prow.lt b e).2; omega, fun e => by have := (h.busy.srow.lt b e).2; omega, fun r hr e => by have := (h.busy.exl r hr b e).1.1; omega⟩
theorem EdAt.later {T : TypeId} {w W : World} {base X : Nat} {s : EdV} (h : EdAt T w base X s) (hb : Below w.heap.size w W) : EdAt T W base X s := EditAt.later h hb
theorem EdAt.base_le {T : TypeId} {w : World} {base X : Nat} {s : EdV} (h : EdAt T w base X s) : base ≤ w.heap.size := by
 have := h.busy.lo
 have := h.busy.lt
 omega
def Goes (T : TypeId) (base X : Nat) (w : World) (s : EdV) (D : EdD) (e : Ending) (w' : World) : Prop := e = .returned (.tuple #[]) ∧ ∃ s', EdAt T w' base X s' ∧ s'.d = D ∧ Below base w w' ∧ Stay w X s w' s'
theorem Stay.touch {w w' : World} {X : Nat} {s s' : EdV} (hs : s'.n.sOwn = s.n.sOwn) (hm : s'.n.mOwn = s.n.mOwn) (hu : s'.n.uOwn = s.n.uOwn) (hr : (Value.slice s'.RA s'.RL.length s'.rc).ownBlock = (Value.slice s.RA s.RL.length s.rc).ownBlock)
 (ht : Touch w w' X (Value.slice s.A s.L.length s.c).ownBlock s.n.sOwn (Value.slice s'.A s'.L.length s'.c).ownBlock) : Stay w X s w' s' := fun b k => by
 unfold Off at k ⊢
 rw [hs, hm, hu, hr]
 refine ⟨⟨⟨k.1.1, Nat.lt_of_lt_of_le k.1.2 ht.size⟩, k.2.1, fun e => ?_, k.2.2.2⟩, ht.block b k.1.2 k.2.1 k.2.2.1 k.2.2.2.1⟩
 rcases ht.own with e1 | e1
 · exact k.2.2.1 (e1.symm.trans e)
 · have := e1 b e
   have := k.1.2
   omega
def FrameD.v (f : FrameD) : FrameV := ⟨f.kind, f.heard, f.epoch, ⟨none, 0, f.op⟩, f.text⟩
def LinkD.v (l : LinkD) : LinkV := ⟨l.e, l.n, none, 0, l.s.map FrameD.v, none, 0, l.q.map FrameD.v, l.h⟩
theorem xz_ (L : List FrameD) : (L.map FrameD.v).map FrameV.d = L := by
 rw [List.map_map]
 exact List.map_id'' (fun _ => rfl) L
theorem LinkD.vd (l : LinkD) : l.v.d = l := by
 obtain ⟨e, n, s, q, h⟩ := l
 simp only [LinkV.d, LinkD.v, xz_]
theorem zn_ {l l' : LinkV} (h : l'.d = l.d) (f : FrameD) : sendE l' f = sendE l f := by
 have h1 : linkMay l' ↔ linkMay l := ⟨fun k => hv_ h.symm k, fun k => hv_ h k⟩
 have h2 : l'.e = l.e := congrArg LinkD.e h
 have h3 : l'.n = l.n := congrArg LinkD.n h
 unfold sendE
 rw [h2, h3]
 simp only [h1]
def sendED (l : LinkD) (f : FrameD) : Int := sendE l.v f
theorem yo_ (l : LinkV) (f : FrameD) : sendED l.d f = sendE l f := zn_ (LinkD.vd l.d) f
def opsV (L : List (List PartD)) : List OpV := L.map fun p => ⟨none, 0, p⟩
theorem zj_ (L : List (List PartD)) : (opsV L).map OpV.ps = L := by
 unfold opsV
 rw [List.map_map]
 exact List.map_id'' (fun _ => rfl) L
theorem vc_ {L L' : List OpV} (h : L'.map OpV.ps = L.map OpV.ps) (ps : List PartD) : badLast L' ps = badLast L ps := by
 have h1 := congrArg List.getLast? h
 rw [List.getLast?_map, List.getLast?_map] at h1
 unfold badLast
 rcases hq : L.getLast? with _ | q <;> rcases hq' : L'.getLast? with _ | q' <;> rw [hq, hq'] at h1
 · cases h1
 · cases h1
 · simp only [Option.map_some, Option.some.injEq] at h1
   dsimp only
   rw [h1]
theorem wt_ {s h : Int} {L L' : List OpV} (hd : L'.map OpV.ps = L.map OpV.ps) (ps : List PartD) : sendErr s h L' ps = sendErr s h L ps := by
 have h1 : edgeMay s h L' ↔ edgeMay s h L := ⟨fun k => hp_ hd.symm k, fun k => hp_ hd k⟩
 unfold sendErr
 rw [vc_ hd]
 simp only [h1]
def sendErrD (s h : Int) (L : List (List PartD)) (ps : List PartD) : Int := sendErr s h (opsV L) ps
theorem lz_ (s h : Int) (L : List OpV) (ps : List PartD) : sendErrD s h (L.map OpV.ps) ps = sendErr s h L ps := wt_ (zj_ _) ps
def sendDD (D : EdD) (i : Nat) (f : FrameD) : EdD :=
 if sendED (D.n.S.getD i default).k f = 0 then
  ⟨⟨D.n.me, D.n.ep, D.n.up, D.n.rd, D.n.t, D.n.S.set i ⟨(D.n.S.getD i default).p, (D.n.S.getD i default).j, (D.n.S.getD i default).s, (D.n.S.getD i default).h, (D.n.S.getD i default).L, fillL (waitL (D.n.S.getD i default).k f)⟩, D.n.U, D.n.M⟩,
   D.L ++ (fillP (waitL (D.n.S.getD i default).k f)).map (PostD.mk (D.n.S.getD i default).p), D.R⟩
 else D
theorem ed_ (L : List SideV) (i : Nat) : (L.map SideV.d).getD i default = (L.getD i default).d := by
 rw [List.getD_eq_getElem?_getD, List.getD_eq_getElem?_getD, List.getElem?_map]
 cases L[i]? <;> rfl
theorem rc_ (s : EdV) (i : Nat) (f : FrameD) : (sendDD s.d i f).n = sentD s.n i f ∧ (sendDD s.d i f).L = s.L.map PostV.d ++ sentP s.n i f ∧ (sendDD s.d i f).R = s.RL.map RecV.key := by
 unfold sendDD sentD sentP
 simp only [EdV.d, NodeV.d, ed_, yo_]
 by_cases h : sendE (s.n.S.getD i default).k f = 0
 · rw [if_pos h, if_pos h, if_pos h]
   exact ⟨rfl, rfl, rfl⟩
 · rw [if_neg h, if_neg h, if_neg h]
   exact ⟨rfl, by simp, rfl⟩
def edgeDD (D : EdD) (i : Nat) (es : Int) (L : List (List PartD)) : EdD :=
 ⟨⟨D.n.me, D.n.ep, D.n.up, D.n.rd, D.n.t, D.n.S.set i ⟨(D.n.S.getD i default).p, (D.n.S.getD i default).j, es, (D.n.S.getD i default).h, L, (D.n.S.getD i default).k⟩, D.n.U, D.n.M⟩, D.L, D.R⟩
def passD (ps : List PartD) (but : Int) (D : EdD) (i : Nat) : EdD :=
 if (i : Int) = but ∨ (D.n.S.getD i default).j = false then D
 else if sendErrD (D.n.S.getD i default).s (D.n.S.getD i default).h (D.n.S.getD i default).L ps = 0 then
  sendDD (edgeDD D i ((D.n.S.getD i default).s + 1) ((D.n.S.getD i default).L ++ [ps])) i ⟨1, (D.n.S.getD i default).h, 0, ps, ⟨#[]⟩⟩
 else D
def recDD (ps : List PartD) (D : EdD) : EdD := if D.n.me = 0 then ⟨D.n, D.L, D.R ++ [(0, ps)]⟩ else D
def passesD (ps : List PartD) (but : Int) (D : EdD) (k : Nat) : EdD := (List.range k).foldl (passD ps but) D
theorem cc_ (ps : List PartD) (but : Int) (D : EdD) (k : Nat) : passesD ps but D (k + 1) = passD ps but (passesD ps but D k) k := by
 unfold passesD
 rw [List.range_succ, List.foldl_append]
 rfl
def spreadD (ps : List PartD) (but : Int) (D : EdD) : EdD := passesD ps but (recDD ps D) D.n.S.length
theorem rb_ (D : EdD) (i : Nat) (f : FrameD) : (sendDD D i f).n.S.length = D.n.S.length ∧ (∀ j, j ≠ i → (sendDD D i f).n.S[j]? = D.n.S[j]?) ∧ (sendDD D i f).L.length ≤ D.L.length + 8 := by
 unfold sendDD
 split
 · refine ⟨by simp, fun j hj => List.getElem?_set_ne (by omega), ?_⟩
   have := gi_ (waitL (D.n.S.getD i default).k f)
   rw [List.length_append, List.length_map]
   omega
 · exact ⟨rfl, fun _ _ => rfl, by omega⟩
theorem jj_ (ps : List PartD) (but : Int) (D : EdD) (i : Nat) : (passD ps but D i).n.S.length = D.n.S.length ∧ (∀ j, j ≠ i → (passD ps but D i).n.S[j]? = D.n.S[j]?) ∧ (passD ps but D i).L.length ≤ D.L.length + 8 := by
 unfold passD
 split
 · exact ⟨rfl, fun _ _ => rfl, by omega⟩
 · split
   · obtain ⟨h1, h2, h3⟩ := rb_ (edgeDD D i ((D.n.S.getD i default).s + 1) ((D.n.S.getD i default).L ++ [ps])) i ⟨1, (D.n.S.getD i default).h, 0, ps, ⟨#[]⟩⟩
     refine ⟨h1.trans (by simp [edgeDD]), fun j hj => (h2 j hj).trans ?_, h3⟩
     unfold edgeDD
     exact List.getElem?_set_ne (by omega)
   · exact ⟨rfl, fun _ _ => rfl, by omega⟩
theorem cx_ (ps : List PartD) (but : Int) (D : EdD) (k : Nat) : (passesD ps but D k).n.S.length = D.n.S.length ∧ (∀ j, k ≤ j → (passesD ps but D k).n.S[j]? = D.n.S[j]?) ∧ (passesD ps but D k).L.length ≤ D.L.length + 8 * k := by
 induction k with
 | zero => exact ⟨rfl, fun _ _ => rfl, by simp [passesD]⟩
 | succ k ih =>
  obtain ⟨h1, h2, h3⟩ := jj_ ps but (passesD ps but D k) k
  rw [cc_]
  exact ⟨h1.trans ih.1, fun j hj => (h2 j (by omega)).trans (ih.2.1 j (by omega)), by have := ih.2.2; omega⟩
theorem gp_ (ps : List PartD) (D : EdD) : (recDD ps D).n = D.n ∧ (recDD ps D).L = D.L := by
 unfold recDD
 split <;> exact ⟨rfl, rfl⟩
theorem EdD.ext' {a b : EdD} (h1 : a.n = b.n) (h2 : a.L = b.L) (h3 : a.R = b.R) : a = b := by
 obtain ⟨x, y, z⟩ := a
 obtain ⟨x', y', z'⟩ := b
 obtain rfl : x = x' := h1
 obtain rfl : y = y' := h2
 obtain rfl : z = z' := h3
 rfl
theorem wu_ (w : World) (base X : Nat) (s : EdV) (i : Nat) (hi : i < s.n.S.length) (f : FrameV) (hT : Tabs w) (h : EdAt 71 w base X s) (hm : s.n.S[i].k.Small) (hf : OpIn (· < w.heap.size) w f.o.A f.o.ps) (hfm : f.Small) (hl : s.L.length ≤ 1099511000000) :
 Calls Tryz.prog 77 #[.pointer (some ⟨X, 0, none⟩), .int .i64 i, frameV f.k f.h f.e f.o.A f.o.ps.length f.o.c f.s] w (Goes 71 base X w s (sendDD s.d i f.d)) := by
 obtain ⟨d1, d2, d3⟩ := rc_ s i f.d
 have hg : s.n.S.getD i default = s.n.S[i] := by rw [List.getD_eq_getElem?_getD, List.getElem?_eq_getElem hi]; rfl
 have hbw : base ≤ w.heap.size := h.base_le
 by_cases hE : sendE s.n.S[i].k f.d = 0
 · have h1 := hE
   unfold sendE at h1
   split at h1
   · cases h1
   rename_i c1
   split at h1
   · cases h1
   rename_i c2
   split at h1
   · rename_i c3
     exact absurd h1 c3
   rename_i c3
   split at h1
   · cases h1
   rename_i c4
   refine (yq_ w base X s.n s.A s.c s.L (.slice s.RA s.RL.length s.rc) _ i hi f hT h.busy hm hf hfm (by simpa using c1) c2 (by simpa using c3) c4 hl).mono ?_
   rintro e w' ⟨rfl, l', A', c', L', hB, hd, hP, hb, ht⟩
   have hso : (s.n.link i l').sOwn = s.n.sOwn := by simp [NodeV.sOwn, NodeV.link]
   refine ⟨rfl, ⟨s.n.link i l', A', c', L', s.RA, s.rc, s.RL⟩, EditAt.touched h ⟨rfl, rfl, rfl⟩ ⟨rfl, rfl, rfl⟩ hso hB ht, EdD.ext' (d1.trans ?_).symm (d2.trans ?_).symm d3.symm, hb, Stay.touch (s := s) (s' := ⟨s.n.link i l', A', c', L', s.RA, s.rc, s.RL⟩) hso rfl rfl rfl ht⟩
   · show _ = (s.n.link i l').d
     unfold sentD
     rw [wc_, hd, hg, if_pos hE]
   · show _ = L'.map PostV.d
     unfold sentP
     rw [hP, hg, if_pos hE]
 · refine (yp_ w base X s.n s.A s.c s.L (.slice s.RA s.RL.length s.rc) _ i hi f hT h.busy hm hf hfm hE).mono ?_
   rintro e w' ⟨rfl, hb⟩
   refine ⟨rfl, s, h.later hb, EdD.ext' (d1.trans ?_).symm (d2.trans ?_).symm d3.symm, hb.mono hbw, Stay.of_below hb⟩
   · unfold sentD
     rw [hg, if_neg hE]
   · unfold sentP
     rw [hg, if_neg hE]
     simp
theorem qe_ (w : World) (base X : Nat) (s : EdV) (i : Nat) (hi : i < s.n.S.length) (f : FrameV) (hT : Tabs w) (h : EdAt 35 w base X s) (hm : s.n.S[i].k.Small) (hf : OpIn (· < w.heap.size) w f.o.A f.o.ps) (hfm : f.Small) (hl : s.L.length ≤ 1099511000000) :
 Calls Tryz.prog 41 #[.pointer (some ⟨X, 0, none⟩), .int .i64 i, frameV f.k f.h f.e f.o.A f.o.ps.length f.o.c f.s] w (Goes 35 base X w s (sendDD s.d i f.d)) := by
 obtain ⟨d1, d2, d3⟩ := rc_ s i f.d
 have hg : s.n.S.getD i default = s.n.S[i] := by rw [List.getD_eq_getElem?_getD, List.getElem?_eq_getElem hi]; rfl
 have hbw : base ≤ w.heap.size := h.base_le
 by_cases hE : sendE s.n.S[i].k f.d = 0
 · have h1 := hE
   unfold sendE at h1
   split at h1
   · cases h1
   rename_i c1
   split at h1
   · cases h1
   rename_i c2
   split at h1
   · rename_i c3
     exact absurd h1 c3
   rename_i c3
   split at h1
   · cases h1
   rename_i c4
   refine (tw_ w base X s.n s.A s.c s.L (.slice s.RA s.RL.length s.rc) _ i hi f hT h.busy hm hf hfm (by simpa using c1) c2 (by simpa using c3) c4 hl).mono ?_
   rintro e w' ⟨rfl, l', A', c', L', hB, hd, hP, hb, ht⟩
   have hso : (s.n.link i l').sOwn = s.n.sOwn := by simp [NodeV.sOwn, NodeV.link]
   refine ⟨rfl, ⟨s.n.link i l', A', c', L', s.RA, s.rc, s.RL⟩, EditAt.touched h ⟨rfl, rfl, rfl⟩ ⟨rfl, rfl, rfl⟩ hso hB ht, EdD.ext' (d1.trans ?_).symm (d2.trans ?_).symm d3.symm, hb, Stay.touch (s := s) (s' := ⟨s.n.link i l', A', c', L', s.RA, s.rc, s.RL⟩) hso rfl rfl rfl ht⟩
   · show _ = (s.n.link i l').d
     unfold sentD
     rw [wc_, hd, hg, if_pos hE]
   · show _ = L'.map PostV.d
     unfold sentP
     rw [hP, hg, if_pos hE]
 · refine (tv_ w base X s.n s.A s.c s.L (.slice s.RA s.RL.length s.rc) _ i hi f hT h.busy hm hf hfm hE).mono ?_
   rintro e w' ⟨rfl, hb⟩
   refine ⟨rfl, s, h.later hb, EdD.ext' (d1.trans ?_).symm (d2.trans ?_).symm d3.symm, hb.mono hbw, Stay.of_below hb⟩
   · unfold sentD
     rw [hg, if_neg hE]
   · unfold sentP
     rw [hg, if_neg hE]
     simp
section
variable {T : TypeId} {w W W' : World} {base X : Nat} {s s' : EdV}
theorem Stay.below (h : EdAt T w base X s) (k : Stay w X s W s') (h1 : W.os = w.os) (h2 : W.tape = w.tape) (h3 : W.output = w.output) (h4 : w.heap.size ≤ W.heap.size) : Below base w W :=
 ⟨h1, h2, h3, h4, fun b hb => (k b (h.off hb)).2⟩
theorem EdAt.freshX (h : EdAt T w base X s) {b : Nat} (h1 : w.heap.size ≤ b) (h2 : b < W.heap.size) : FreeX W base X (Value.slice s.A s.L.length s.c).ownBlock s.n.sOwn [s.n.mOwn, s.n.uOwn, (Value.slice s.RA s.RL.length s.rc).ownBlock] b := by
 have hlt := h.busy.lt
 have hlo := h.busy.lo
 exact ⟨⟨by omega, h2⟩, by omega, fun e => by have := (h.busy.prow.lt b e).2; omega, fun e => by have := (h.busy.srow.lt b e).2; omega, fun r hr e => by have := (h.busy.exl r hr b e).1.1; omega⟩
abbrev EdV.edge (s : EdV) (i : Nat) (es eh : Int) (eA : Option Addr) (ec : Nat) (eL : List OpV) : EdV := ⟨s.n.edge i es eh eA ec eL, s.A, s.c, s.L, s.RA, s.rc, s.RL⟩
theorem EdAt.setEdge (hT : TurnT T) (h : EdAt T W base X s) {i : Nat} (hi : i < s.n.S.length) {g : Nat} (hg : s.n.sA = some ⟨g, 0, none⟩) (es eh : Int) (eA : Option Addr) (ec : Nat) (eL : List OpV)
 (hl : OpsS (FreeX W base X (Value.slice s.A s.L.length s.c).ownBlock s.n.sOwn [s.n.mOwn, s.n.uOwn, (Value.slice s.RA s.RL.length s.rc).ownBlock]) W eA eL) :
 EdAt T (((W.setCell ⟨g, i * 10 + 2, none⟩ (.int .i64 es)).setCell ⟨g, i * 10 + 3, none⟩ (.int .i64 eh)).setCell ⟨g, i * 10 + 4, none⟩ (.slice eA eL.length ec)) base X (s.edge i es eh eA ec eL) ∧
  Only g W (((W.setCell ⟨g, i * 10 + 2, none⟩ (.int .i64 es)).setCell ⟨g, i * 10 + 3, none⟩ (.int .i64 eh)).setCell ⟨g, i * 10 + 4, none⟩ (.slice eA eL.length ec)) ∧
  Stay W X s (((W.setCell ⟨g, i * 10 + 2, none⟩ (.int .i64 es)).setCell ⟨g, i * 10 + 3, none⟩ (.int .i64 eh)).setCell ⟨g, i * 10 + 4, none⟩ (.slice eA eL.length ec)) (s.edge i es eh eA ec eL) := by
 have hB := h.busy.setEdge hT.s hi hg es eh eA ec eL hl
 have hO : Only g W (((W.setCell ⟨g, i * 10 + 2, none⟩ (.int .i64 es)).setCell ⟨g, i * 10 + 3, none⟩ (.int .i64 eh)).setCell ⟨g, i * 10 + 4, none⟩ (.slice eA eL.length ec)) := ((Only.set _ _ _).trans (Only.set _ _ _)).trans (Only.set _ _ _)
 generalize (((W.setCell ⟨g, i * 10 + 2, none⟩ (.int .i64 es)).setCell ⟨g, i * 10 + 3, none⟩ (.int .i64 eh)).setCell ⟨g, i * 10 + 4, none⟩ (.slice eA eL.length ec)) = W5 at *
 have hso : (s.n.edge i es eh eA ec eL).sOwn = s.n.sOwn := by simp [NodeV.sOwn, NodeV.edge]
 have ht : Touch W W5 X (Value.slice s.A s.L.length s.c).ownBlock s.n.sOwn (Value.slice s.A s.L.length s.c).ownBlock := uk_ hO (by rw [NodeV.sOwn, hg]; rfl)
 exact ⟨EditAt.touched h ⟨rfl, rfl, rfl⟩ ⟨rfl, rfl, rfl⟩ hso hB ht, hO, Stay.touch (s := s) (s' := s.edge i es eh eA ec eL) hso rfl rfl rfl ht⟩
theorem lj_ (s : EdV) (i : Nat) (es eh : Int) (eA : Option Addr) (ec : Nat) (eL : List OpV) (hh : eh = (s.d.n.S.getD i default).h) : (s.edge i es eh eA ec eL).d = edgeDD s.d i es (eL.map OpV.ps) := by
 subst hh
 unfold edgeDD
 refine EdD.ext' ?_ rfl rfl
 simp only [NodeV.d, NodeV.edge, ed_, List.map_set]
theorem EdAt.record (hT : TurnT T) {W2 w3 : World} {RA' : Option Addr} {rc' : Nat} {x : RecV} (h : EdAt T w base X s) (hW : Below w.heap.size w W2) (hx : OpIn (fun b => w.heap.size ≤ b ∧ b < W2.heap.size) W2 x.o.A x.o.ps) (hg : W2.grownBy w3 (Value.slice s.RA s.RL.length s.rc).ownBlock)
 (hown : w3.ownsRow (X + 1) 119 2 (.slice RA' (s.RL.length + 1) rc') (s.RL.length + 1) (s.RL.flatMap RecV.cells ++ x.cells))
 (hat : (Value.slice RA' (s.RL.length + 1) rc').ownBlock = (Value.slice s.RA s.RL.length s.rc).ownBlock ∨ (Value.slice RA' (s.RL.length + 1) rc').ownBlock = some W2.heap.size) :
 EdAt T (w3.setCell ⟨X, 9, none⟩ (.slice RA' (s.RL.length + 1) rc')) base X ⟨s.n, s.A, s.c, s.L, RA', rc', s.RL ++ [x]⟩ ∧ Below base w (w3.setCell ⟨X, 9, none⟩ (.slice RA' (s.RL.length + 1) rc')) ∧ Stay w X s (w3.setCell ⟨X, 9, none⟩ (.slice RA' (s.RL.length + 1) rc')) ⟨s.n, s.A, s.c, s.L, RA', rc', s.RL ++ [x]⟩ := by
 obtain ⟨h1, h2⟩ := EditAt.record hT h hW hx hg hown hat
 generalize w3.setCell ⟨X, 9, none⟩ (.slice RA' (s.RL.length + 1) rc') = W4 at *
 have hst : Stay w X s W4 ⟨s.n, s.A, s.c, s.L, RA', rc', s.RL ++ [x]⟩ := fun b k => by
  have hr : (Value.slice s.RA s.RL.length s.rc).ownBlock ≠ some b := k.2.2.2.2 _ (by simp)
  refine ⟨⟨⟨k.1.1, Nat.lt_of_lt_of_le k.1.2 h2.size⟩, k.2.1, k.2.2.1, k.2.2.2.1, fun r hr' => ?_⟩, h2.block b k.1.2 k.2.1 hr (by simp)⟩
  simp only [List.mem_cons, List.not_mem_nil, or_false] at hr'
  rcases hr' with rfl | rfl | rfl
  · exact k.2.2.2.2 _ (by simp)
  · exact k.2.2.2.2 _ (by simp)
  · rw [show (s.RL ++ [x]).length = s.RL.length + 1 by simp]
    rcases h2.own with e | e
    · rw [e]
      exact hr
    · intro q
      have := e b q
      have := k.1.2
      omega
 exact ⟨h1, hst.below h h2.os h2.tape h2.output h2.size, hst⟩
theorem EdAt.plain (hT : TurnT T) (h : EdAt T W base X s) (hO : Only X W W') {n' : NodeV} (hn : n'.sA = s.n.sA ∧ n'.sc = s.n.sc ∧ n'.S = s.n.S) (hm : n'.mA = s.n.mA ∧ n'.mc = s.n.mc ∧ n'.M = s.n.M) (hu : n'.uA = s.n.uA ∧ n'.uc = s.n.uc ∧ n'.U = s.n.U)
 (hb : W'.heap[X]? = some (.cells (turnCells n' (.slice s.A s.L.length s.c) (.slice s.RA s.RL.length s.rc)) T (0, 0))) : EdAt T W' base X ⟨n', s.A, s.c, s.L, s.RA, s.rc, s.RL⟩ ∧ Stay W X s W' ⟨n', s.A, s.c, s.L, s.RA, s.rc, s.RL⟩ := by
 refine ⟨EditAt.turn hT h hO hn hm hu hb, fun b k => ?_⟩
 have hmo : n'.mOwn = s.n.mOwn := by unfold NodeV.mOwn; rw [hm.1, hm.2.1, hm.2.2]
 have huo : n'.uOwn = s.n.uOwn := by unfold NodeV.uOwn; rw [hu.1, hu.2.1, hu.2.2]
 have hso : n'.sOwn = s.n.sOwn := by unfold NodeV.sOwn; rw [hn.1, hn.2.1, hn.2.2]
 unfold Off at k ⊢
 rw [hmo, huo, hso]
 exact ⟨⟨⟨k.1.1, Nat.lt_of_lt_of_le k.1.2 hO.size⟩, k.2⟩, hO.block b k.1.2 k.2.1⟩
end
abbrev EdV.withM (s : EdV) (mA : Option Addr) (mc : Nat) (M : List (Int × Int)) : EdV := ⟨s.n.withM mA mc M, s.A, s.c, s.L, s.RA, s.rc, s.RL⟩
theorem EdAt.setMark {T : TypeId} {W : World} {base X : Nat} {s : EdV} (hT : TurnT T) (h : EdAt T W base X s) {k : Nat} (hk : k < s.n.M.length) {g : Nat} (hg : s.n.mA = some ⟨g, 0, none⟩) (a b : Int) :
 EdAt T ((W.setCell ⟨g, k * 2, none⟩ (.int .i64 a)).setCell ⟨g, k * 2 + 1, none⟩ (.int .i64 b)) base X (s.withM s.n.mA s.n.mc (s.n.M.set k (a, b))) ∧ Only g W ((W.setCell ⟨g, k * 2, none⟩ (.int .i64 a)).setCell ⟨g, k * 2 + 1, none⟩ (.int .i64 b)) ∧
  base ≤ g ∧ Stay W X s ((W.setCell ⟨g, k * 2, none⟩ (.int .i64 a)).setCell ⟨g, k * 2 + 1, none⟩ (.int .i64 b)) (s.withM s.n.mA s.n.mc (s.n.M.set k (a, b))) := by
 have hQ : s.n.mOwn = some g := by rw [NodeV.mOwn, hg]; rfl
 have hr := h.mrow
 have hgl := hr.lt g hQ
 rw [hg] at hr
 obtain ⟨r1, t1⟩ := hr.stored (k * 2) (.int .i64 a)
 obtain ⟨r2, t2⟩ := r1.stored (k * 2 + 1) (.int .i64 b)
 have hO : Only g W ((W.setCell ⟨g, k * 2, none⟩ (.int .i64 a)).setCell ⟨g, k * 2 + 1, none⟩ (.int .i64 b)) := (Only.set _ _ _).trans (Only.set _ _ _)
 have hz : ((W.setCell ⟨g, k * 2, none⟩ (.int .i64 a)).setCell ⟨g, k * 2 + 1, none⟩ (.int .i64 b)).heap.size = W.heap.size := by simp [World.setCell]
 generalize (W.setCell ⟨g, k * 2, none⟩ (.int .i64 a)).setCell ⟨g, k * 2 + 1, none⟩ (.int .i64 b) = W5 at *
 have hgX : g ≠ X := fun e => m_ h.mrow h.busy.blk hT.m (by rw [← e]; exact hQ)
 have hlen : (s.n.M.set k (a, b)).length = s.n.M.length := by simp
 have hmo : (Value.slice s.n.mA (s.n.M.set k (a, b)).length s.n.mc).ownBlock = s.n.mOwn := by rw [hlen]
 have hrow : W5.ownsRow base 53 2 (.slice s.n.mA (s.n.M.set k (a, b)).length s.n.mc) (s.n.M.set k (a, b)).length ((s.n.M.set k (a, b)).flatMap markCells) := by
  rw [hlen, hg]
  have e : ((s.n.M.flatMap markCells).set (k * 2) (.int .i64 a)).set (k * 2 + 1) (.int .i64 b) = (s.n.M.set k (a, b)).flatMap markCells := by
   have hM : ∀ r ∈ s.n.M.map markCells, r.length = 2 := fun r hr => by
    obtain ⟨x, _, rfl⟩ := List.mem_map.1 hr
    exact bb_ x
   have hsM : k < (s.n.M.map markCells).length := by simpa using hk
   have h0 : k * 2 = k * 2 + 0 := rfl
   rw [List.flatMap_def, List.flatMap_def, h0, fi_ 2 _ _ hM k 0 hsM (by omega), dd_ 2 _ _ hM k 1 hsM (by omega) _ (by simp [bb_])]
   rw [List.map_set]
   congr 2
   rw [List.getElem_map]
   rfl
  rw [← e]
  exact r2
 refine ⟨EditAt.markRow hT h (Below.refl _ _) (w3 := W5) ⟨hO.os, hO.tape, hO.output, hO.size, fun x h1 h2 => hO.block x h1 (fun e => h2 (by rw [hQ, e]))⟩ hrow (.inl hmo) rfl (fun _ _ => rfl) ?_, hO, hgl.1, fun y hb => ?_⟩
 · have := (hO.block X h.busy.lt (fun e => hgX e.symm)).trans h.busy.blk
   rw [show turnCells (s.n.withM s.n.mA s.n.mc (s.n.M.set k (a, b))) (.slice s.A s.L.length s.c) (.slice s.RA s.RL.length s.rc) = turnCells s.n (.slice s.A s.L.length s.c) (.slice s.RA s.RL.length s.rc) by simp only [turnCells, NodeV.withM, hlen]]
   exact this
 · have hne : y ≠ g := fun e => hb.2.2.2.2 s.n.mOwn (by simp) (by rw [hQ, e])
   refine ⟨?_, hO.block y hb.1.2 hne⟩
   have hmo' : (s.n.withM s.n.mA s.n.mc (s.n.M.set k (a, b))).mOwn = s.n.mOwn := hmo
   unfold Off
   rw [hmo']
   exact ⟨⟨hb.1.1, by rw [hz]; exact hb.1.2⟩, hb.2⟩
def mvI (push : Bool) (ps : List PartD) (a : Int) : Int := if moveErr a ps = 0 then moveGo push ps a 0 0 else 0
def mvM (push : Bool) (ps : List PartD) (m : Int × Int) : Int × Int := (mvI push ps m.1, mvI push ps m.2)
def shiftD (push : Bool) (ps : List PartD) (D : EdD) : EdD := ⟨⟨D.n.me, D.n.ep, D.n.up, D.n.rd, D.n.t, D.n.S, D.n.U, D.n.M.map (mvM push ps)⟩, D.L, D.R⟩
def mvK (push : Bool) (ps : List PartD) (M : List (Int × Int)) (k : Nat) : List (Int × Int) := (M.take k).map (mvM push ps) ++ M.drop k
theorem sp_ (push : Bool) (ps : List PartD) (M : List (Int × Int)) (k : Nat) : (mvK push ps M k).length = M.length := by
 simp [mvK]
 omega
theorem wf_ {push : Bool} {ps : List PartD} {M : List (Int × Int)} {k : Nat} (hk : k < M.length) : (mvK push ps M k)[k]? = some M[k] := by
 unfold mvK
 rw [List.getElem?_append_right (by simp; omega)]
 simp [Nat.min_eq_left (Nat.le_of_lt hk), List.getElem?_drop, List.getElem?_eq_getElem hk]
theorem qp_ {push : Bool} {ps : List PartD} {M : List (Int × Int)} {k : Nat} (hk : k < M.length) : (mvK push ps M k).set k (mvM push ps M[k]) = mvK push ps M (k + 1) := by
 unfold mvK
 rw [List.set_append_right _ _ (by simp; omega), List.take_succ_eq_append_getElem hk, List.map_append, List.append_assoc]
 congr 1
 have : k - ((M.take k).map (mvM push ps)).length = 0 := by simp [Nat.min_eq_left (Nat.le_of_lt hk)]
 rw [this, List.drop_eq_getElem_cons hk]
 rfl
theorem gy_ (push : Bool) (ps : List PartD) (M : List (Int × Int)) : mvK push ps M 0 = M := by simp [mvK]
theorem qo_ (push : Bool) (ps : List PartD) (M : List (Int × Int)) : mvK push ps M M.length = M.map (mvM push ps) := by simp [mvK]
theorem ll_ {α : Type} (p : α → Bool) (L : List α) : (∀ x ∈ L, p x = false) ∨ ∃ k : Nat, ∃ hk : k < L.length, p L[k] = true ∧ ∀ i (hi : i < L.length), i < k → p L[i] = false := by
 induction L with
 | nil => exact .inl (by simp)
 | cons a L ih =>
  by_cases ha : p a = true
  · exact .inr ⟨0, by simp, ha, fun i hi h => absurd h (by omega)⟩
  · have ha' : p a = false := by simpa using ha
    rcases ih with h | ⟨k, hk, h1, h2⟩
    · exact .inl fun x hx => by
       rcases List.mem_cons.1 hx with rfl | hx
       · exact ha'
       · exact h x hx
    · refine .inr ⟨k + 1, by simp; omega, by simpa using h1, fun i hi hik => ?_⟩
      cases i with
      | zero => exact ha'
      | succ i => simpa using h2 i (by simp at hi; omega) (by omega)
def isIns (p : PartD) : Bool := p.kind == 2
theorem ins_c (w : World) (f : PartD) : Calls Tryz.prog 48 #[.agg #[.int .i64 f.kind, .int .i64 f.n, .string f.text]] w (R_ w (.bool (isIns f))) := by
 obtain ⟨kd, pn, tx⟩ := f
 unfold isIns
 dsimp only
 go_enter Tryz.func48, Tryz.ntmps48
 go_wp2_with fail
 go_ret
 exact ⟨by first | done | rfl | (simp; done) | (simp; omega), bz_⟩
theorem nd_ (w : World) (A : Option Addr) (c : Nat) (L : List PartD) (n : Int) (hs : OpIn (· < w.heap.size) w A L) (hm : L.length ≤ 1048576)
 (hn : (n = -1 ∧ ∀ f ∈ L, isIns f = false) ∨ ∃ k : Nat, ∃ hk : k < L.length, n = k ∧ isIns L[k] = true ∧ ∀ i (hi : i < L.length), i < k → isIns L[i] = false) :
 Calls Tryz.prog 95 #[.slice A L.length c, .func (.func 48) #[] #[]] w (R_ w (.int .i64 n)) := by
 have HN := h_ hn
 have HS := h_ hs
 clear hn hs
 go_enter Tryz.func95, Tryz.ntmps95
 go_wp2_with fail
 go_loopw [5, 8] (fun _ i wr => ∃ k : Nat, k ≤ L.length ∧ i = .int .i64 k ∧ Hid (∀ i (hi : i < L.length), i < k → isIns L[i] = false) ∧ Below w.heap.size w wr) (fun _ i _ => L.length - (intOf i).toNat)
 case atStart => exact ⟨0, Nat.zero_le _, rfl, fun i hi h => absurd h (by omega), Below.refl _ _⟩
 case round =>
  obtain ⟨k, hk, rfl, hg, hbw⟩ := hrel
  by_cases hlt : k < L.length
  · obtain ⟨b, o, rfl, hbs, g0, g1, g2⟩ := OpIn.at_ (ps := L) (Sl.later HS.out hbw) hlt
    have HB := h_ (fun (W : World) => ins_c W L[k])
    by_cases hf : isIns L[k] = false
    · have HG := h_ (show ∀ i (hi : i < L.length), i < k + 1 → isIns L[i] = false by
       intro i hi hik
       rcases Nat.lt_or_ge i k with q | q
       · exact hg.out i hi q
       · obtain rfl : i = k := by omega
         exact hf)
      rw [hf] at HB
      clear hf hg
      generalize L[k] = f at *
      obtain ⟨kd, pn, tx⟩ := f
      dsimp only at *
      go_wp2_with fail
      refine (HB.out _).mono ?_
      rintro r w1 ⟨rfl, hb1⟩
      go_wp2_with fail
      go_roundw
      case rel => exact ⟨k + 1, by omega, by go_num, HG, bThen hbw hb1⟩
      case measure => simp [intOf]; omega
    · have HR := h_ (show n = (k : Int) by
       rcases HN.out with ⟨_, q⟩ | ⟨m, hm2, rfl, h1, h2⟩
       · exact absurd (q _ (List.getElem_mem hlt)) hf
       · rcases Nat.lt_trichotomy k m with q | q | q
         · exact absurd (h2 k hlt q) hf
         · omega
         · rw [hg.out m hm2 q] at h1
           cases h1)
      have hb0 : isIns L[k] = true := by simpa using hf
      rw [hb0] at HB
      clear hf hg hb0
      generalize L[k] = f at *
      obtain ⟨kd, pn, tx⟩ := f
      dsimp only at *
      go_wp2_with fail
      refine (HB.out _).mono ?_
      rintro r w1 ⟨rfl, hb1⟩
      go_wp2_with fail
      go_ret
      exact ⟨by rw [HR.out]; rfl, bThen hbw hb1⟩
  · obtain rfl : k = L.length := by omega
    have HR := h_ (show n = -1 by
     rcases HN.out with ⟨q, _⟩ | ⟨m, hm2, rfl, h1, h2⟩
     · exact q
     · rw [hg.out m hm2 hm2] at h1
       cases h1)
    clear hg
    go_wp2_with fail
    go_ret
    exact ⟨by rw [HR.out]; rfl, hbw⟩
theorem gl_ (w : World) (A : Option Addr) (c : Nat) (L : List PartD) (hs : OpIn (· < w.heap.size) w A L) (hm : L.length ≤ 1048576) :
 Calls Tryz.prog 47 #[.slice A L.length c, .func (.func 48) #[] #[]] w (R_ w (.bool (L.any isIns))) := by
 have key : ∀ (n : Int) (b : Bool), decide (0 ≤ n) = b → Calls Tryz.prog 95 #[.slice A L.length c, .func (.func 48) #[] #[]] w (fun e w' => e = .returned (.int .i64 n) ∧ Below w.heap.size w w') →
  Calls Tryz.prog 47 #[.slice A L.length c, .func (.func 48) #[] #[]] w (R_ w (.bool b)) := by
  intro n b hd hI
  have HI := h_ hI
  clear hI
  go_enter Tryz.func47, Tryz.ntmps47
  go_wp2_with fail
  refine HI.out.mono ?_
  rintro e w1 ⟨rfl, hb1⟩
  go_wp2_with fail
  go_ret
  exact ⟨by rw [← hd]; rfl, hb1⟩
 rcases ll_ isIns L with hno | ⟨k, hk, h1, h2⟩
 · rw [List.any_eq_false.2 (fun x hx => by rw [hno x hx]; decide)]
   exact key (-1) false (by decide) (nd_ w A c L (-1) hs hm (.inl ⟨rfl, hno⟩))
 · rw [List.any_eq_true.2 ⟨L[k], List.getElem_mem hk, h1⟩]
   exact key (k : Int) true (by simp) (nd_ w A c L k hs hm (.inr ⟨k, hk, rfl, h1, h2⟩))
def isFull (x : SideV) : Bool := decide (40 ≤ x.L.length)
theorem zt_ (w : World) (f : SideV) : Calls Tryz.prog 50 #[f.val] w (R_ w (.bool (isFull f))) := by
 obtain ⟨p, j, s, h, A, c, L, ⟨ke, kn, sA, sc, ks, qA, qc, kq, kh⟩⟩ := f
 unfold isFull
 dsimp only
 go_enter Tryz.func50, Tryz.ntmps50
 go_wp2_with fail
 go_ret
 exact ⟨by first | done | rfl | (simp; done) | (simp; omega), bz_⟩
theorem lo_ (w : World) (A : Option Addr) (c : Nat) (L : List SideV) (n : Int) (hs : SidesIn w A L) (hm : L.length ≤ 1048576)
 (hn : (n = -1 ∧ ∀ f ∈ L, isFull f = false) ∨ ∃ k : Nat, ∃ hk : k < L.length, n = k ∧ isFull L[k] = true ∧ ∀ i (hi : i < L.length), i < k → isFull L[i] = false) :
 Calls Tryz.prog 30 #[.slice A L.length c, .func (.func 50) #[] #[]] w (R_ w (.int .i64 n)) := by
 have HN := h_ hn
 have HS := h_ hs
 clear hn hs
 go_enter Tryz.func30, Tryz.ntmps30
 go_wp2_with fail
 go_loopw [5, 8] (fun _ i wr => ∃ k : Nat, k ≤ L.length ∧ i = .int .i64 k ∧ Hid (∀ i (hi : i < L.length), i < k → isFull L[i] = false) ∧ Below w.heap.size w wr) (fun _ i _ => L.length - (intOf i).toNat)
 case atStart => exact ⟨0, Nat.zero_le _, rfl, fun i hi h => absurd h (by omega), Below.refl _ _⟩
 case round =>
  obtain ⟨k, hk, rfl, hg, hbw⟩ := hrel
  by_cases hlt : k < L.length
  · obtain ⟨b, o, rfl, hbs, hc⟩ := x_ SideV.cells 10 SideV.cells_len (HS.out.later hbw).row hlt
    have g0 := hc 0 _ rfl
    have g1 := hc 1 _ rfl
    have g2 := hc 2 _ rfl
    have g3 := hc 3 _ rfl
    have g4 := hc 4 _ rfl
    have g5 := hc 5 _ rfl
    have g6 := hc 6 _ rfl
    have g7 := hc 7 _ rfl
    have g8 := hc 8 _ rfl
    have g9 := hc 9 _ rfl
    rw [Nat.add_zero] at g0
    clear hc
    have HB := h_ (fun (W : World) => zt_ W L[k])
    by_cases hf : isFull L[k] = false
    · have HG := h_ (show ∀ i (hi : i < L.length), i < k + 1 → isFull L[i] = false by
       intro i hi hik
       rcases Nat.lt_or_ge i k with q | q
       · exact hg.out i hi q
       · obtain rfl : i = k := by omega
         exact hf)
      rw [hf] at HB
      clear hf hg
      generalize L[k] = f at *
      obtain ⟨p, j, s, h, eA, ec, eL, ⟨ke, kn, sA, sc, ks, qA, qc, kq, kh⟩⟩ := f
      dsimp only at *
      go_wp2_with fail
      refine (HB.out _).mono ?_
      rintro r w1 ⟨rfl, hb1⟩
      go_wp2_with fail
      go_roundw
      case rel => exact ⟨k + 1, by omega, by go_num, HG, bThen hbw hb1⟩
      case measure => simp [intOf]; omega
    · have HR := h_ (show n = (k : Int) by
       rcases HN.out with ⟨_, q⟩ | ⟨m, hm2, rfl, h1, h2⟩
       · exact absurd (q _ (List.getElem_mem hlt)) hf
       · rcases Nat.lt_trichotomy k m with q | q | q
         · exact absurd (h2 k hlt q) hf
         · omega
         · rw [hg.out m hm2 q] at h1
           cases h1)
      have hb0 : isFull L[k] = true := by simpa using hf
      rw [hb0] at HB
      clear hf hg hb0
      generalize L[k] = f at *
      obtain ⟨p, j, s, h, eA, ec, eL, ⟨ke, kn, sA, sc, ks, qA, qc, kq, kh⟩⟩ := f
      dsimp only at *
      go_wp2_with fail
      refine (HB.out _).mono ?_
      rintro r w1 ⟨rfl, hb1⟩
      go_wp2_with fail
      go_ret
      exact ⟨by rw [HR.out]; rfl, bThen hbw hb1⟩
  · obtain rfl : k = L.length := by omega
    have HR := h_ (show n = -1 by
     rcases HN.out with ⟨q, _⟩ | ⟨m, hm2, rfl, h1, h2⟩
     · exact q
     · rw [hg.out m hm2 hm2] at h1
       cases h1)
    clear hg
    go_wp2_with fail
    go_ret
    exact ⟨by rw [HR.out]; rfl, hbw⟩
theorem fj_ (w : World) (A : Option Addr) (c : Nat) (L : List SideV) (hs : SidesIn w A L) (hm : L.length ≤ 1048576) :
 Calls Tryz.prog 49 #[.slice A L.length c, .func (.func 50) #[] #[]] w (R_ w (.bool (L.any isFull))) := by
 have key : ∀ (n : Int) (b : Bool), decide (0 ≤ n) = b → Calls Tryz.prog 30 #[.slice A L.length c, .func (.func 50) #[] #[]] w (fun e w' => e = .returned (.int .i64 n) ∧ Below w.heap.size w w') →
  Calls Tryz.prog 49 #[.slice A L.length c, .func (.func 50) #[] #[]] w (R_ w (.bool b)) := by
  intro n b hd hI
  have HI := h_ hI
  clear hI
  go_enter Tryz.func49, Tryz.ntmps49
  go_wp2_with fail
  refine HI.out.mono ?_
  rintro e w1 ⟨rfl, hb1⟩
  go_wp2_with fail
  go_ret
  exact ⟨by rw [← hd]; rfl, hb1⟩
 rcases ll_ isFull L with hno | ⟨k, hk, h1, h2⟩
 · rw [List.any_eq_false.2 (fun x hx => by rw [hno x hx]; decide)]
   exact key (-1) false (by decide) (lo_ w A c L (-1) hs hm (.inl ⟨rfl, hno⟩))
 · rw [List.any_eq_true.2 ⟨L[k], List.getElem_mem hk, h1⟩]
   exact key (k : Int) true (by simp) (lo_ w A c L k hs hm (.inr ⟨k, hk, rfl, h1, h2⟩))
def fullD (S : List SideD) : Bool := S.any fun x => decide (40 ≤ x.L.length)
theorem zd_ (S : List SideV) : fullD (S.map SideV.d) = S.any isFull := by
 unfold fullD
 rw [List.any_map]
 congr 1
 funext x
 simp [isFull]
def editErr (n : NodeD) (ps : List PartD) : Int :=
 if n.rd = false then 12 else if applyErr n.t ps ≠ 0 then applyErr n.t ps else if (ps.any isIns && decide (300 < (lens ps).2)) || fullD n.S then 8 else 0
def textD (D : EdD) (t : ByteArray) : EdD := ⟨⟨D.n.me, D.n.ep, D.n.up, D.n.rd, t, D.n.S, D.n.U, D.n.M⟩, D.L, D.R⟩
def editDD (ps : List PartD) (D : EdD) : EdD := spreadD ps (-1) (shiftD true ps (textD D (applyText D.n.t ps)))
theorem yn_ (D : EdD) (i : Nat) (f : FrameD) : (sendDD D i f).n.U = D.n.U := by
 unfold sendDD
 split <;> rfl
theorem zl_ (ps : List PartD) (but : Int) (D : EdD) (i : Nat) : (passD ps but D i).n.U = D.n.U := by
 unfold passD
 split
 · rfl
 · split
   · rw [yn_]
     rfl
   · rfl
theorem wp_ (ps : List PartD) (but : Int) (D : EdD) (k : Nat) : (passesD ps but D k).n.U = D.n.U := by
 induction k with
 | zero => rfl
 | succ k ih => rw [cc_, zl_, ih]
theorem xe_ (ps : List PartD) (but : Int) (D : EdD) : (spreadD ps but D).n.U = D.n.U := by
 unfold spreadD
 rw [wp_, (gp_ ps D).1]
abbrev EdV.withT (s : EdV) (t : ByteArray) : EdV := ⟨⟨s.n.me, s.n.ep, s.n.up, s.n.rd, t, s.n.sA, s.n.sc, s.n.S, s.n.uA, s.n.uc, s.n.U, s.n.mA, s.n.mc, s.n.M⟩, s.A, s.c, s.L, s.RA, s.rc, s.RL⟩
theorem EdAt.setText {T : TypeId} {W : World} {base X : Nat} {s : EdV} (hT : TurnT T) (h : EdAt T W base X s) (t : ByteArray) : EdAt T (W.setCell ⟨X, 4, none⟩ (.string t)) base X (s.withT t) ∧ Below base W (W.setCell ⟨X, 4, none⟩ (.string t)) ∧ Stay W X s (W.setCell ⟨X, 4, none⟩ (.string t)) (s.withT t) := by
 have hO : Only X W (W.setCell ⟨X, 4, none⟩ (.string t)) := Only.set _ _ _
 obtain ⟨h1, h2⟩ := EdAt.plain (n' := (s.withT t).n) hT h hO ⟨rfl, rfl, rfl⟩ ⟨rfl, rfl, rfl⟩ ⟨rfl, rfl, rfl⟩ (e_ 4 _ h.busy.blk)
 exact ⟨h1, hO.below h.busy.lo h.base_le, h2⟩
theorem ma_ {s s1 : EdV} {push : Bool} {ps : List PartD} (h : s1.d = shiftD push ps s.d) : s1.n.S.map SideV.d = s.n.S.map SideV.d ∧ s1.L.length = s.L.length ∧ s1.RL.length = s.RL.length ∧ s1.n.S.length = s.n.S.length := by
 have h1 : s1.n.S.map SideV.d = s.n.S.map SideV.d := congrArg (fun d : EdD => d.n.S) h
 have h2 : s1.L.map PostV.d = s.L.map PostV.d := congrArg EdD.L h
 have h3 : s1.RL.map RecV.key = s.RL.map RecV.key := congrArg EdD.R h
 exact ⟨h1, mapLen h2, mapLen h3, mapLen h1⟩
def RetEdit (T : TypeId) (base X : Nat) (w : World) (s : EdV) (ps : List PartD) (e : Ending) (w' : World) : Prop :=
 ∃ s' bA bc, e = .returned (.tuple #[.slice bA (invOut s.n.t ps).length bc, .int .i64 0]) ∧ EdAt T w' base X s' ∧ s'.d = editDD ps s.d ∧ Below base w w' ∧ Stay w X s w' s' ∧ OpIn (fun b => w.heap.size ≤ b ∧ Off w' X s' b) w' bA (invOut s.n.t ps)
theorem PostedTo.touch {T : TypeId} {w w' : World} {X : Nat} {n : NodeV} {A A' : Option Addr} {k c c' : Nat} {L : List PostV} {R : Value} (h : PostedTo T w X n A k c L R A' c' w') (Q : Option Nat) : Touch w w' X (Value.slice A k c).ownBlock Q (Value.slice A' L.length c').ownBlock :=
 ⟨h.turned.os, h.turned.tape, h.turned.output, h.turned.size, fun b h1 h2 h3 _ => h.turned.block b h1 h2 (fun e => h3 e.symm), h.own⟩
section
variable {T : TypeId} {w w' : World} {base X : Nat} {n : NodeV} {A RA A' pA : Option Addr} {c rc c' : Nat} {L : List PostV} {RL : List RecV} {K : List PacketV} {who : Int}
theorem EditAt.posted (hT : TurnT T) (h : EditAt T w base X n A c L RA rc RL) (hK : PksS (fun b => X + 1 ≤ b ∧ FreeX w base X (Value.slice A L.length c).ownBlock n.sOwn [n.mOwn, n.uOwn, (Value.slice RA RL.length rc).ownBlock] b) w pA K)
 (hp : PostedTo T w X n A L.length c (L ++ K.map (PostV.mk who)) (.slice RA RL.length rc) A' c' w') : EditAt T w' base X n A' c' (L ++ K.map (PostV.mk who)) RA rc RL ∧ Below base w w' := by
 refine ⟨h.touched ⟨rfl, rfl, rfl⟩ ⟨rfl, rfl, rfl⟩ rfl (h.busy.posted hT.s hp hK.each) (hp.touch n.sOwn), ?_⟩
 exact hp.turned.below h.busy.lo (fun y hy => by have := (h.busy.prow.lt y hy).1; have := h.busy.lo; omega) (by have := h.busy.lo; have := h.busy.lt; omega)
end
theorem EditAt.inS {T : TypeId} {W : World} {base X : Nat} {n : NodeV} {A RA : Option Addr} {c rc : Nat} {L : List PostV} {RL : List RecV} (h : EditAt T W base X n A c L RA rc RL) : n.InS (fun b => base ≤ b ∧ b < W.heap.size) W :=
 ⟨Sl.of_own _ h.busy.srow, fun x hx => (h.busy.side x hx).moved fun _ k => ⟨k.1, rfl⟩, ⟨Sl.of_own _ h.urow, fun o ho => (h.undo o ho).moved fun _ k => ⟨k.1, rfl⟩⟩, Sl.of_own _ h.mrow⟩
structure Held (W : World) (base X : Nat) (n : NodeV) (A : Option Addr) (c : Nat) (L : List PostV) (RA : Option Addr) (rc : Nat) (RL : List RecV) : Prop where
 n : n.InS (fun b => (base ≤ b ∧ b < W.heap.size) ∧ b ≠ X) W
 p : PostsOwn W base A c L
 r : RecsOwn W base RA rc RL
 pX : (Value.slice A L.length c).ownBlock ≠ some X
 rX : (Value.slice RA RL.length rc).ownBlock ≠ some X
 po : ∀ x ∈ L, OpIn (fun b => ((base ≤ b ∧ b < W.heap.size) ∧ (Value.slice A L.length c).ownBlock ≠ some b) ∧ b ≠ X) W x.p.f.o.A x.p.f.o.ps
 ro : ∀ x ∈ RL, OpIn (fun b => ((base ≤ b ∧ b < W.heap.size) ∧ (Value.slice RA RL.length rc).ownBlock ≠ some b) ∧ b ≠ X) W x.o.A x.o.ps
theorem EditAt.held {T : TypeId} {W : World} {base X : Nat} {n : NodeV} {A RA : Option Addr} {c rc : Nat} {L : List PostV} {RL : List RecV} (hT : TurnT T) (h : EditAt T W base X n A c L RA rc RL) : Held W base X n A c L RA rc RL := by
 have hlo := h.busy.lo
 refine ⟨⟨?_, fun x hx => (h.busy.side x hx).moved fun _ k => ⟨⟨k.1, k.2.1⟩, rfl⟩, ⟨?_, fun o ho => (h.undo o ho).moved fun _ k => ⟨⟨k.1, k.2.1⟩, rfl⟩⟩, ?_⟩, ((h.busy.work hT.s).posts).mono (by omega), ⟨cb_ h.rrow (by omega), fun x hx => (h.rops x hx).moved fun b k => ⟨⟨k.1, k.2.2.2.2 _ (by simp)⟩, rfl⟩⟩, m_ h.busy.prow h.busy.blk hT.p, m_ h.rrow h.busy.blk hT.r, fun x hx => (h.busy.pops x hx).moved fun b k => ⟨⟨⟨k.2.1, k.2.2.2.1⟩, k.2.2.1⟩, rfl⟩, fun x hx => (h.rops x hx).moved fun b k => ⟨⟨⟨k.1, k.2.2.2.2 _ (by simp)⟩, k.2.1⟩, rfl⟩⟩
 · exact (Sl.of_own2 h.busy.srow).moved fun b k => ⟨⟨h.busy.srow.lt b k.1, fun e => m_ h.busy.srow h.busy.blk hT.s (e ▸ k.1)⟩, rfl⟩
 · exact (Sl.of_own2 h.urow).moved fun b k => ⟨⟨h.urow.lt b k.1, fun e => m_ h.urow h.busy.blk hT.u (e ▸ k.1)⟩, rfl⟩
 · exact (Sl.of_own2 h.mrow).moved fun b k => ⟨⟨h.mrow.lt b k.1, fun e => m_ h.mrow h.busy.blk hT.m (e ▸ k.1)⟩, rfl⟩
theorem Held.only {W W' : World} {base X : Nat} {n : NodeV} {A RA : Option Addr} {c rc : Nat} {L : List PostV} {RL : List RecV} (h : Held W base X n A c L RA rc RL) (hO : Only X W W') : Held W' base X n A c L RA rc RL := by
 have hs := hO.size
 refine ⟨h.n.moved fun b k => ⟨⟨⟨k.1.1, by have := k.1.2; omega⟩, k.2⟩, hO.block b k.1.2 k.2⟩, ⟨s_ h.p.row fun b hb => hO.block b (h.p.row.lt b hb).2 (fun e => h.pX (by rw [← e]; exact hb)), fun x hx => (h.po x hx).moved fun b k => ⟨⟨⟨k.1.1.1, by have := k.1.1.2; omega⟩, k.1.2⟩, hO.block b k.1.1.2 k.2⟩⟩,
  ⟨s_ h.r.row fun b hb => hO.block b (h.r.row.lt b hb).2 (fun e => h.rX (by rw [← e]; exact hb)), fun x hx => (h.ro x hx).moved fun b k => ⟨⟨⟨k.1.1.1, by have := k.1.1.2; omega⟩, k.1.2⟩, hO.block b k.1.1.2 k.2⟩⟩, h.pX, h.rX, fun x hx => (h.po x hx).moved fun b k => ⟨⟨⟨⟨k.1.1.1, by have := k.1.1.2; omega⟩, k.1.2⟩, k.2⟩, hO.block b k.1.1.2 k.2⟩, fun x hx => (h.ro x hx).moved fun b k => ⟨⟨⟨⟨k.1.1.1, by have := k.1.1.2; omega⟩, k.1.2⟩, k.2⟩, hO.block b k.1.1.2 k.2⟩⟩
theorem turnFin {w wr : World} {R base X : Nat} {n : NodeV} {A RA : Option Addr} {c rc : Nat} {L : List PostV} {RL : List RecV} (h : Held wr base X n A c L RA rc RL) (hr : wr.heap[R]? = some (.cells #[.int .i64 0, .int .i64 0, .int .i64 0, .bool false, .string ⟨#[]⟩, .slice none 0 0, .slice none 0 0, .slice none 0 0, .slice none 0 0, .slice none 0 0] 35 (0, 0))) (hR : R < base) (hw : w.heap.size ≤ R) (hb : Below w.heap.size w wr) :
 ((((((((((wr.setCell ⟨R, 0, none⟩ (.int .i64 n.me)).setCell ⟨R, 1, none⟩ (.int .i64 n.ep)).setCell ⟨R, 2, none⟩ (.int .i64 n.up)).setCell ⟨R, 3, none⟩ (.bool n.rd)).setCell ⟨R, 4, none⟩ (.string n.t)).setCell ⟨R, 5, none⟩ (.slice n.sA n.S.length n.sc)).setCell ⟨R, 6, none⟩ (.slice n.uA n.U.length n.uc)).setCell ⟨R, 7, none⟩ (.slice n.mA n.M.length n.mc)).setCell ⟨R, 8, none⟩ (.slice A L.length c)).setCell ⟨R, 9, none⟩ (.slice RA RL.length rc)).heap[R]? = some (.cells (turnCells n (.slice A L.length c) (.slice RA RL.length rc)) 35 (0, 0)) ∧ n.InS (fun b => w.heap.size ≤ b ∧ b < ((((((((((wr.setCell ⟨R, 0, none⟩ (.int .i64 n.me)).setCell ⟨R, 1, none⟩ (.int .i64 n.ep)).setCell ⟨R, 2, none⟩ (.int .i64 n.up)).setCell ⟨R, 3, none⟩ (.bool n.rd)).setCell ⟨R, 4, none⟩ (.string n.t)).setCell ⟨R, 5, none⟩ (.slice n.sA n.S.length n.sc)).setCell ⟨R, 6, none⟩ (.slice n.uA n.U.length n.uc)).setCell ⟨R, 7, none⟩ (.slice n.mA n.M.length n.mc)).setCell ⟨R, 8, none⟩ (.slice A L.length c)).setCell ⟨R, 9, none⟩ (.slice RA RL.length rc)).heap.size) ((((((((((wr.setCell ⟨R, 0, none⟩ (.int .i64 n.me)).setCell ⟨R, 1, none⟩ (.int .i64 n.ep)).setCell ⟨R, 2, none⟩ (.int .i64 n.up)).setCell ⟨R, 3, none⟩ (.bool n.rd)).setCell ⟨R, 4, none⟩ (.string n.t)).setCell ⟨R, 5, none⟩ (.slice n.sA n.S.length n.sc)).setCell ⟨R, 6, none⟩ (.slice n.uA n.U.length n.uc)).setCell ⟨R, 7, none⟩ (.slice n.mA n.M.length n.mc)).setCell ⟨R, 8, none⟩ (.slice A L.length c)).setCell ⟨R, 9, none⟩ (.slice RA RL.length rc)) ∧ PostsOwn ((((((((((wr.setCell ⟨R, 0, none⟩ (.int .i64 n.me)).setCell ⟨R, 1, none⟩ (.int .i64 n.ep)).setCell ⟨R, 2, none⟩ (.int .i64 n.up)).setCell ⟨R, 3, none⟩ (.bool n.rd)).setCell ⟨R, 4, none⟩ (.string n.t)).setCell ⟨R, 5, none⟩ (.slice n.sA n.S.length n.sc)).setCell ⟨R, 6, none⟩ (.slice n.uA n.U.length n.uc)).setCell ⟨R, 7, none⟩ (.slice n.mA n.M.length n.mc)).setCell ⟨R, 8, none⟩ (.slice A L.length c)).setCell ⟨R, 9, none⟩ (.slice RA RL.length rc)) w.heap.size A c L ∧ RecsOwn ((((((((((wr.setCell ⟨R, 0, none⟩ (.int .i64 n.me)).setCell ⟨R, 1, none⟩ (.int .i64 n.ep)).setCell ⟨R, 2, none⟩ (.int .i64 n.up)).setCell ⟨R, 3, none⟩ (.bool n.rd)).setCell ⟨R, 4, none⟩ (.string n.t)).setCell ⟨R, 5, none⟩ (.slice n.sA n.S.length n.sc)).setCell ⟨R, 6, none⟩ (.slice n.uA n.U.length n.uc)).setCell ⟨R, 7, none⟩ (.slice n.mA n.M.length n.mc)).setCell ⟨R, 8, none⟩ (.slice A L.length c)).setCell ⟨R, 9, none⟩ (.slice RA RL.length rc)) w.heap.size RA rc RL ∧ Below w.heap.size w ((((((((((wr.setCell ⟨R, 0, none⟩ (.int .i64 n.me)).setCell ⟨R, 1, none⟩ (.int .i64 n.ep)).setCell ⟨R, 2, none⟩ (.int .i64 n.up)).setCell ⟨R, 3, none⟩ (.bool n.rd)).setCell ⟨R, 4, none⟩ (.string n.t)).setCell ⟨R, 5, none⟩ (.slice n.sA n.S.length n.sc)).setCell ⟨R, 6, none⟩ (.slice n.uA n.U.length n.uc)).setCell ⟨R, 7, none⟩ (.slice n.mA n.M.length n.mc)).setCell ⟨R, 8, none⟩ (.slice A L.length c)).setCell ⟨R, 9, none⟩ (.slice RA RL.length rc)) := by
 have hO : Only R wr ((((((((((wr.setCell ⟨R, 0, none⟩ (.int .i64 n.me)).setCell ⟨R, 1, none⟩ (.int .i64 n.ep)).setCell ⟨R, 2, none⟩ (.int .i64 n.up)).setCell ⟨R, 3, none⟩ (.bool n.rd)).setCell ⟨R, 4, none⟩ (.string n.t)).setCell ⟨R, 5, none⟩ (.slice n.sA n.S.length n.sc)).setCell ⟨R, 6, none⟩ (.slice n.uA n.U.length n.uc)).setCell ⟨R, 7, none⟩ (.slice n.mA n.M.length n.mc)).setCell ⟨R, 8, none⟩ (.slice A L.length c)).setCell ⟨R, 9, none⟩ (.slice RA RL.length rc)) := (((((((((Only.set _ _ _).trans (Only.set _ _ _)).trans (Only.set _ _ _)).trans (Only.set _ _ _)).trans (Only.set _ _ _)).trans (Only.set _ _ _)).trans (Only.set _ _ _)).trans (Only.set _ _ _)).trans (Only.set _ _ _)).trans (Only.set _ _ _)
 have hs := hO.size
 refine ⟨cu_ hr _ _ _ _ _ _ _ _ _ _, h.n.moved fun b k => ⟨⟨by have := k.1.1; omega, by have := k.1.2; omega⟩, hO.block b k.1.2 (by have := k.1.1; omega)⟩, ?_, ?_, hb.trans (hO.below hw hb.size)⟩
 · exact (h.p.kept hs fun b k hl => hO.block b hl (by omega)).mono (by omega)
 · exact (h.r.kept hs fun b k hl => hO.block b hl (by omega)).mono (by omega)
theorem nk_ {K : Exit → Act → World → Prop} {e : Exit} {a : Act} {W : World} (h : ∀ W9, W9 = W → K e a W9) : K e a W := h W rfl
def zeroD : EdD := ⟨zeroN.d, [], []⟩
def RetTurnR (w : World) (D : EdD) (er : Int) (e : Ending) (w' : World) : Prop :=
 ∃ s : EdV, e = .returned (.tuple #[.agg (turnCells s.n (.slice s.A s.L.length s.c) (.slice s.RA s.RL.length s.rc)), .int .i64 er]) ∧ s.d = D ∧ s.n.InS (fun b => w.heap.size ≤ b ∧ b < w'.heap.size) w' ∧ PostsOwn w' w.heap.size s.A s.c s.L ∧ RecsOwn w' w.heap.size s.RA s.rc s.RL ∧ Below w.heap.size w w'
structure SmallS (x : SideD) : Prop where
 len : x.L.length ≤ 1048576
 ops : ∀ o ∈ x.L, o.length ≤ 1048576
 s : x.k.s.length ≤ 1048576
 q : x.k.q.length ≤ 1048576
 k : opsSmall x.k
structure MidS (x : SideD) : Prop where
 len : x.L.length ≤ 1048577
 ops : ∀ o ∈ x.L, o.length ≤ 1048576
 s : x.k.s.length ≤ 1048577
 q : x.k.q.length ≤ 1048577
 k : opsSmall x.k
theorem SmallS.mid {x : SideD} (h : SmallS x) : MidS x := ⟨Nat.le_trans h.len (by decide), h.ops, Nat.le_trans h.s (by decide), Nat.le_trans h.q (by decide), h.k⟩
theorem SideV.Small.smallS {x : SideV} (h : x.Small) : SmallS x.d := by
 refine ⟨by simpa using h.len, fun o ho => ?_, by simpa using h.link.sl, by simpa using h.link.ql, LinkV.Small.ops h.link⟩
 obtain ⟨q, hq, rfl⟩ := List.mem_map.1 ho
 exact (h.ops q hq).len
theorem uh_ {l : LinkD} {f : FrameD} (h : sendED l f = 0) : l.s.length ≤ 8 := by
 unfold sendED sendE at h
 split at h
 · cases h
 · rename_i hk
   have hk : linkMay l.v := by simpa using hk
   have := hk.2.1.1
   simpa [LinkD.v] using this
theorem hq_ {D : EdD} {i : Nat} {x : SideD} (hx : D.n.S[i]? = some x) : D.n.S.getD i default = x := by
 rw [List.getD_eq_getElem?_getD, hx]
 rfl
theorem ug_ {D : EdD} {i : Nat} {x : SideD} {f : FrameD} (hx : D.n.S[i]? = some x) (hm : MidS x) (hk : opsSmall x.k) (hq : x.k.q.length ≤ 1048576) (hf : f.op.length ≤ 1048576) :
 (∃ y, (sendDD D i f).n.S[i]? = some y ∧ MidS y) ∧ ∀ p ∈ (sendDD D i f).L, p ∈ D.L ∨ p.p.frame.op.length ≤ 1048576 := by
 unfold sendDD
 rw [hq_ hx]
 have hi : i < D.n.S.length := (List.getElem?_eq_some_iff.1 hx).1
 split
 · rename_i he
   have h8 := uh_ he
   refine ⟨⟨_, List.getElem?_set_self hi, ?_⟩, fun p hp => ?_⟩
   · have h1 := kk_ (waitL x.k f)
     refine ⟨hm.len, hm.ops, ?_, ?_, iy_ (md_ hk hf)⟩
     · show ((waitL x.k f).s ++ (waitL x.k f).q.take _).length ≤ _
       have : (waitL x.k f).s.length = x.k.s.length := rfl
       rw [List.length_append, List.length_take]
       omega
     · show ((waitL x.k f).q.drop _).length ≤ _
       have : (waitL x.k f).q.length = x.k.q.length + 1 := by simp [waitL]
       rw [List.length_drop]
       omega
   · rcases List.mem_append.1 hp with hp | hp
     · exact .inl hp
     · obtain ⟨q, hq, rfl⟩ := List.mem_map.1 hp
       exact .inr ((rw_ (md_ hk hf)).2 q hq)
 · exact ⟨⟨x, hx, hm⟩, fun p hp => .inl hp⟩
theorem wn_ {ps : List PartD} {but : Int} {D : EdD} {i : Nat} {x : SideD} (hp : ps.length ≤ 1048576) (hx : D.n.S[i]? = some x) (hs : SmallS x) :
 (∃ y, (passD ps but D i).n.S[i]? = some y ∧ MidS y) ∧ ∀ p ∈ (passD ps but D i).L, p ∈ D.L ∨ p.p.frame.op.length ≤ 1048576 := by
 unfold passD
 rw [hq_ hx]
 have hi : i < D.n.S.length := (List.getElem?_eq_some_iff.1 hx).1
 split
 · exact ⟨⟨x, hx, hs.mid⟩, fun p hp => .inl hp⟩
 · split
   · have he : (edgeDD D i (x.s + 1) (x.L ++ [ps])).n.S[i]? = some ⟨x.p, x.j, x.s + 1, x.h, x.L ++ [ps], x.k⟩ := by
      unfold edgeDD
      rw [hq_ hx]
      exact List.getElem?_set_self hi
     refine ug_ he ⟨?_, ?_, Nat.le_trans hs.s (by decide), Nat.le_trans hs.q (by decide), hs.k⟩ hs.k hs.q hp
     · have := hs.len
       simp
       omega
     · intro o ho
       rcases List.mem_append.1 ho with ho | ho
       · exact hs.ops o ho
       · obtain rfl : o = ps := by simpa using ho
         exact hp
   · exact ⟨⟨x, hx, hs.mid⟩, fun p hp => .inl hp⟩
theorem sf_ {ps : List PartD} {but : Int} {D : EdD} (hp : ps.length ≤ 1048576) (hs : ∀ x ∈ D.n.S, SmallS x) (k : Nat) (hk : k ≤ D.n.S.length) :
 (∀ j, j < k → ∃ y, (passesD ps but D k).n.S[j]? = some y ∧ MidS y) ∧ ∀ p ∈ (passesD ps but D k).L, p ∈ D.L ∨ p.p.frame.op.length ≤ 1048576 := by
 induction k with
 | zero => exact ⟨fun j hj => absurd hj (by omega), fun p hp => .inl hp⟩
 | succ k ih =>
  obtain ⟨h1, h2⟩ := ih (by omega)
  have hfr := cx_ ps but D k
  have hx : (passesD ps but D k).n.S[k]? = some D.n.S[k] := by rw [hfr.2.1 k (Nat.le_refl _), List.getElem?_eq_getElem (by omega)]
  obtain ⟨g1, g2⟩ := wn_ (but := but) hp hx (hs _ (List.getElem_mem (by omega)))
  rw [cc_]
  refine ⟨fun j hj => ?_, fun p hp => ?_⟩
  · by_cases hjk : j = k
    · subst hjk
      exact g1
    · rw [(jj_ ps but (passesD ps but D k) k).2.1 j hjk]
      exact h1 j (by omega)
  · rcases g2 p hp with hq | hq
    · exact h2 p hq
    · exact .inr hq
structure MidD (D : EdD) : Prop where
 sl : D.n.S.length ≤ 1048577
 sides : ∀ x ∈ D.n.S, MidS x
 ul : D.n.U.length ≤ 1048577
 undo : ∀ o ∈ D.n.U, o.length ≤ 1048576
 ml : D.n.M.length ≤ 1048577
 pl : D.L.length ≤ 1099511627776
 posts : ∀ p ∈ D.L, p.p.frame.op.length ≤ 1048576
 rl : D.R.length ≤ 8388608
 recs : ∀ r ∈ D.R, r.2.length ≤ 1048576
theorem ym_ (D : EdD) (i : Nat) (f : FrameD) : (sendDD D i f).R = D.R ∧ (sendDD D i f).n.M = D.n.M := by
 unfold sendDD
 split <;> exact ⟨rfl, rfl⟩
theorem zk_ (ps : List PartD) (but : Int) (D : EdD) (i : Nat) : (passD ps but D i).R = D.R ∧ (passD ps but D i).n.M = D.n.M := by
 unfold passD
 split
 · exact ⟨rfl, rfl⟩
 · split
   · obtain ⟨h1, h2⟩ := ym_ (edgeDD D i ((D.n.S.getD i default).s + 1) ((D.n.S.getD i default).L ++ [ps])) i ⟨1, (D.n.S.getD i default).h, 0, ps, ⟨#[]⟩⟩
     exact ⟨h1, h2⟩
   · exact ⟨rfl, rfl⟩
theorem wo_ (ps : List PartD) (but : Int) (D : EdD) (k : Nat) : (passesD ps but D k).R = D.R ∧ (passesD ps but D k).n.M = D.n.M := by
 induction k with
 | zero => exact ⟨rfl, rfl⟩
 | succ k ih =>
  rw [cc_]
  obtain ⟨h1, h2⟩ := zk_ ps but (passesD ps but D k) k
  exact ⟨h1.trans ih.1, h2.trans ih.2⟩
theorem zm_ (ps : List PartD) (D : EdD) : (recDD ps D).R.length ≤ D.R.length + 1 ∧ ∀ r ∈ (recDD ps D).R, r ∈ D.R ∨ r.2 = ps := by
 unfold recDD
 split
 · refine ⟨by simp, fun r hr => ?_⟩
   rcases List.mem_append.1 hr with hr | hr
   · exact .inl hr
   · obtain rfl : r = (0, ps) := by simpa using hr
     exact .inr rfl
 · exact ⟨by omega, fun r hr => .inl hr⟩
theorem si_ {ps : List PartD} {but : Int} {D : EdD} (hp : ps.length ≤ 1048576) (hs : ∀ x ∈ D.n.S, SmallS x) (hsl : D.n.S.length ≤ 1048576) (hul : D.n.U.length ≤ 1048577) (hu : ∀ o ∈ D.n.U, o.length ≤ 1048576) (hml : D.n.M.length ≤ 1048577) (hpl : D.L.length ≤ 1000000000) (hpo : ∀ p ∈ D.L, p.p.frame.op.length ≤ 1048576) (hrl : D.R.length ≤ 1000000) (hro : ∀ r ∈ D.R, r.2.length ≤ 1048576) : MidD (spreadD ps but D) := by
 have hn := gp_ ps D
 have hr := zm_ ps D
 have hf := cx_ ps but (recDD ps D) D.n.S.length
 have hm := sf_ (but := but) (D := recDD ps D) hp (by rw [hn.1]; exact hs) D.n.S.length (by rw [hn.1]; exact Nat.le_refl _)
 have hR := wo_ ps but (recDD ps D) D.n.S.length
 have hU := xe_ ps but D
 have hl : (spreadD ps but D).n.S.length = D.n.S.length := by
  have := hf.1
  rw [hn.1] at this
  exact this
 refine ⟨by rw [hl]; omega, fun x hx => ?_, by rw [hU]; exact hul, by rw [hU]; exact hu, ?_, ?_, fun p hp' => ?_, ?_, fun r hr' => ?_⟩
 · obtain ⟨j, hj, rfl⟩ := List.getElem_of_mem hx
   obtain ⟨y, hy, hy2⟩ := hm.1 j (by omega)
   have : (spreadD ps but D).n.S[j]? = some y := hy
   rw [List.getElem?_eq_getElem hj] at this
   rw [Option.some.inj this]
   exact hy2
 · have : (spreadD ps but D).n.M = D.n.M := hR.2.trans (by rw [hn.1])
   rw [this]
   exact hml
 · have := hf.2.2
   rw [hn.2] at this
   show (passesD ps but (recDD ps D) D.n.S.length).L.length ≤ _
   omega
 · rcases hm.2 p hp' with hq | hq
   · rw [hn.2] at hq
     exact hpo p hq
   · exact hq
 · have : (spreadD ps but D).R = (recDD ps D).R := hR.1
   rw [this]
   have := hr.1
   omega
 · have : (spreadD ps but D).R = (recDD ps D).R := hR.1
   rw [this] at hr'
   rcases hr.2 r hr' with hq | hq
   · exact hro r hq
   · rw [hq]
     exact hp
theorem xj_ : MidD zeroD := ⟨by simp [zeroD, zeroN], by simp [zeroD, zeroN], by simp [zeroD, zeroN], by simp [zeroD, zeroN], by simp [zeroD, zeroN], by simp [zeroD], by simp [zeroD], by simp [zeroD], by simp [zeroD]⟩
theorem MidD.node {D : EdD} (h : MidD D) {n : NodeV} (hd : n.d = D.n) : n.Mid := by
 have hS : n.S.map SideV.d = D.n.S := congrArg NodeD.S hd
 have hU : n.U.map OpV.ps = D.n.U := congrArg NodeD.U hd
 have hM : n.M = D.n.M := congrArg NodeD.M hd
 refine ⟨?_, fun x hx => ?_, ?_, fun o ho => ?_, ?_⟩
 · have := congrArg List.length hS
   rw [List.length_map] at this
   rw [this]
   exact h.sl
 · have h1 := h.sides x.d (by rw [← hS]; exact List.mem_map.2 ⟨x, hx, rfl⟩)
   refine ⟨by simpa using h1.len, fun o ho => h1.ops o.ps (List.mem_map.2 ⟨o, ho, rfl⟩), ⟨by simpa using h1.s, by simpa using h1.q⟩, ⟨so_ h1.k.1, so_ h1.k.2⟩⟩
 · have := congrArg List.length hU
   rw [List.length_map] at this
   rw [this]
   exact h.ul
 · exact h.undo o.ps (by rw [← hU]; exact List.mem_map.2 ⟨o, ho, rfl⟩)
 · rw [hM]
   exact h.ml
theorem jm_ {S S' : List SideV} (h : S'.map SideV.d = S.map SideV.d) (hk : ∀ x ∈ S, x.Small) : ∀ x ∈ S', x.Small := fun x hx => by
 have : x.d ∈ S.map SideV.d := by rw [← h]; exact List.mem_map.2 ⟨x, hx, rfl⟩
 obtain ⟨q, hq, e⟩ := List.mem_map.1 this
 exact SideV.Small.of_d e.symm (hk q hq)
theorem ga_ {s s' : EdV} {ps : List PartD} {but : Int} {k : Nat} (hd : s'.d = passesD ps but (recDD ps s.d) k) (hk : k < s.n.S.length) (hk' : k < s'.n.S.length) : s'.n.S[k].d = s.n.S[k].d := by
 have h1 := (cx_ ps but (recDD ps s.d) k).2.1 k (Nat.le_refl _)
 rw [← hd, (gp_ ps s.d).1] at h1
 simpa [hk, hk'] using h1
theorem dx_ {s s' : EdV} {ps : List PartD} {but : Int} {k : Nat} (hd : s'.d = passesD ps but (recDD ps s.d) k) : s'.n.S.length = s.n.S.length := by
 have h1 := (cx_ ps but (recDD ps s.d) k).1
 rw [← hd, (gp_ ps s.d).1] at h1
 simpa using h1
theorem fy_ {s s' : EdV} {ps : List PartD} {but : Int} {k : Nat} (hd : s'.d = passesD ps but (recDD ps s.d) k) : s'.L.length ≤ s.L.length + 8 * k := by
 have h1 := (cx_ ps but (recDD ps s.d) k).2.2
 rw [← hd, (gp_ ps s.d).2] at h1
 simpa using h1
theorem fx_ {s' : EdV} {ps : List PartD} {but : Int} {k : Nat} (hk : k < s'.n.S.length) (hs : (k : Int) = but ∨ s'.n.S[k].j = false) : passD ps but s'.d k = s'.d := by
 have hg : s'.d.n.S.getD k default = s'.n.S[k].d := by
  show (s'.n.S.map SideV.d).getD k default = _
  rw [ed_, List.getD_eq_getElem?_getD, List.getElem?_eq_getElem hk]
  rfl
 unfold passD
 rw [hg, if_pos hs]
theorem ij_ {s' : EdV} {ps : List PartD} {but : Int} {k : Nat} (hk : k < s'.n.S.length) (hs : ¬ ((k : Int) = but ∨ s'.n.S[k].j = false)) (he : sendErr s'.n.S[k].s s'.n.S[k].h s'.n.S[k].L ps ≠ 0) : passD ps but s'.d k = s'.d := by
 have hg : s'.d.n.S.getD k default = s'.n.S[k].d := by
  show (s'.n.S.map SideV.d).getD k default = _
  rw [ed_, List.getD_eq_getElem?_getD, List.getElem?_eq_getElem hk]
  rfl
 unfold passD
 rw [hg, if_neg hs, if_neg]
 rw [lz_]
 exact he
theorem ha_ {s' : EdV} {ps : List PartD} {but : Int} {k : Nat} (hk : k < s'.n.S.length) (hs : ¬ ((k : Int) = but ∨ s'.n.S[k].j = false)) (he : sendErr s'.n.S[k].s s'.n.S[k].h s'.n.S[k].L ps = 0) :
 passD ps but s'.d k = sendDD (edgeDD s'.d k (s'.n.S[k].s + 1) (s'.n.S[k].L.map OpV.ps ++ [ps])) k ⟨1, s'.n.S[k].h, 0, ps, ⟨#[]⟩⟩ := by
 have hg : s'.d.n.S.getD k default = s'.n.S[k].d := by
  show (s'.n.S.map SideV.d).getD k default = _
  rw [ed_, List.getD_eq_getElem?_getD, List.getElem?_eq_getElem hk]
  rfl
 unfold passD
 rw [hg, if_neg hs, if_pos]
 rw [lz_]
 exact he
theorem qw_ {s : EdV} {ps : List PartD} {RA : Option Addr} {rc : Nat} {x : RecV} (hme : s.n.me = 0) (hx : x.key = (0, ps)) : (⟨s.n, s.A, s.c, s.L, RA, rc, s.RL ++ [x]⟩ : EdV).d = recDD ps s.d := by
 unfold recDD
 rw [if_pos hme]
 refine EdD.ext' rfl rfl ?_
 show (s.RL ++ [x]).map RecV.key = s.RL.map RecV.key ++ [(0, ps)]
 rw [List.map_append, ← hx]
 rfl
theorem qv_ {s : EdV} {ps : List PartD} (hme : s.n.me ≠ 0) : s.d = recDD ps s.d := by
 unfold recDD
 rw [if_neg hme]
abbrev NodeV.cv (n : NodeV) : Array Value := #[.int .i64 n.me, .int .i64 n.ep, .int .i64 n.up, .bool n.rd, .string n.t, .slice n.sA n.S.length n.sc, .slice n.uA n.U.length n.uc, .slice n.mA n.M.length n.mc]
abbrev z_ : Array Value := #[.int .i64 0, .int .i64 0, .int .i64 0, .bool false, .string ⟨#[]⟩, .slice none 0 0, .slice none 0 0, .slice none 0 0, .slice none 0 0, .slice none 0 0]
end Go.Proofs.YtacacoklddogmaaGreatDoor
