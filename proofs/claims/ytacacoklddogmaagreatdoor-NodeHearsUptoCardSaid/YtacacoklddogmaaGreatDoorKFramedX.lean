/- Lemmas. -/
import Derived.Test.YtacacoklddogmaaGreatDoorKSendX
import Derived.Test.YtacacoklddogmaaGreatDoorKPosted
import Derived.Test.YtacacoklddogmaaGreatDoorKJAR
namespace Go.Proofs.YtacacoklddogmaaGreatDoor
set_option maxHeartbeats 4000000
open Go.ChangeShapes Go.WideShapes Go.ChangeAt Go.RowKit
set_option maxRecDepth 100000
theorem or_(w:World)(base X:Nat)(n:NodeV)(A:OA_)(c:Nat)(L:List PostV)(R:Value)(ex:List (Option Nat))(s:Nat)(hs:s<n.S.length)(f:FrameV)(hT:Tabs w)(h:BusyX 35 w base X n A c L R ex)(hm:n.S[s].k.Small)(hf:OpIn (· <w.heap.size) w f.o.A f.o.ps)(hfm:f.Small)
 (hk:linkMay n.S[s].k) (h0:n.S[s].k.e≠0) (he:frameFault f.d=0) (h1:n.S[s].k.n≠1048576) (hl:L.length≤1099511000000):
 Calls Tryz.prog 41 #[.pointer (some ⟨X,0,none⟩),.int .i64 s,frameV f.k f.h f.e f.o.A f.o.ps.length f.o.c f.s] w fun e w'=>e= .returned (.tuple #[])∧ ∃l' A' c' L',BusyX 35 w' base X (n.link s l') A' c' L' R ex∧l'.d=fillL (waitL n.S[s].k.d f.d)∧L'.map PostV.d=L.map PostV.d++(fillP (waitL n.S[s].k.d f.d)).map (PostD.mk n.S[s].p)∧Below base w w'∧Touch w w' X (Value.slice A L.length c).ownBlock (Value.slice n.sA n.S.length n.sc).ownBlock (Value.slice A' L'.length c').ownBlock:=by
 have HSE:=h_ (fun W hT (hi:n.S[s].k.In W) hf=>beq_ W n.S[s].k f hT hi hm hf hfm hk h0 he h1);have HP8:=h_ (gl_ (waitL n.S[s].k.d f.d));have k189_:K_ (∀(P:Prop) (h:P:=by
 generalize fillL (waitL n.S[s].k.d _)=ld at*;generalize fillP (waitL n.S[s].k.d _)=pd at*;clear hT h hm hf hfm hk h0 he h1;have k120_:K_ (∀(P:Prop) (h:P:=by
 have k81_:K_ (∀(P:Prop) (h:P:=by
 go_enter Tryz.func41,Tryz.ntmps41
 go_wp2_with fail
 rw [HW.o];go_region_law (go_simp;go_at_call 81;(with_reducible refine(HSE.o _ ?_ ?_ ?_).mono ?_);exact(HT.o.la HBA.o).la bz_;exact HLI.o.la bz_;exact Sl.la (Sl.la HO.o HBA.o) bz_;rintro r w2 ⟨l2,A2,c2,K,rfl,hd2,hk2,hl2,hp2,hb2⟩;have HB2:Below WA.heap.size WA w2:=bThen bz_ hb2;first | (have HX2:w2.heap[WA.heap.size]?=some (.cells #[.int .i64 0,.int .i64 0,.slice none 0 0,.slice none 0 0,.int .i64 0] 58 (0,0)):=(hb2.block _ (by simp)).trans (World.alloc_heap_new _ _);obtain⟨z0,z1,z2,z3,z4,f0,f1,f2,f3,f4,xz2⟩:=a_ HX2) | skip)
 all_goals(
  first
  | (obtain ⟨B, hB⟩ := q2_ (w2.heap.size)
     rw [←hB];have hbx:Below w2.heap.size w2 (w2.alloc (.cells #[.int .i64 l2.e,.int .i64 l2.n,.slice l2.sA l2.s.length l2.sc,.slice l2.qA l2.q.length l2.qc,.int .i64 l2.h] 58)):=bA_;have hzx:(w2.alloc (.cells #[.int .i64 l2.e,.int .i64 l2.n,.slice l2.sA l2.s.length l2.sc,.slice l2.qA l2.q.length l2.qc,.int .i64 l2.h] 58)).heap.size=w2.heap.size+1:=(by simp);refine u_ (fun G=>BusyX 35 G base X n A c L R ex∧Below w.heap.size w G∧WA.heap.size≤B∧l2.InS (fun b=>WA.heap.size≤b∧b<G.heap.size) G∧PksS (fun b=>WA.heap.size≤b∧b<G.heap.size) G A2 K∧G.heap[B]?=some (.cells #[.int .i64 l2.e,.int .i64 l2.n,.slice l2.sA l2.s.length l2.sc,.slice l2.qA l2.q.length l2.qc,.int .i64 l2.h] 58 (0,0))) ⟨(HK.o.la HB2).la hbx,bThen (bThen HBA.o HB2) hbx,by rw [hB];exact HB2.size,hl2.mv fun b hb=>⟨⟨hb.1,by rw [hzx];have:=hb.2;omega⟩,hbx.block b hb.2⟩,hp2.mv fun b hb=>⟨⟨hb.1,by rw [hzx];have:=hb.2;omega⟩,hbx.block b hb.2⟩,by rw [hB];exact World.alloc_heap_new _ _⟩ ?_)
  | (obtain ⟨B, hB⟩ := q2_ (WA.heap.size)
     rw [←hB]at HX2;rw [←hB];have hO:Only B w2 (((((w2.setCell ⟨B,0,none⟩ (.int .i64 l2.e)).setCell ⟨B,1,none⟩ (.int .i64 l2.n)).setCell ⟨B,2,none⟩ (.slice l2.sA l2.s.length l2.sc)).setCell ⟨B,3,none⟩ (.slice l2.qA l2.q.length l2.qc)).setCell ⟨B,4,none⟩ (.int .i64 l2.h)):=(((q5_.trans q5_).trans q5_).trans q5_).trans q5_;have HBf:=HB2.trans (hO.below (by omega) HB2.size);have hzO:(((((w2.setCell ⟨B,0,none⟩ (.int .i64 l2.e)).setCell ⟨B,1,none⟩ (.int .i64 l2.n)).setCell ⟨B,2,none⟩ (.slice l2.sA l2.s.length l2.sc)).setCell ⟨B,3,none⟩ (.slice l2.qA l2.q.length l2.qc)).setCell ⟨B,4,none⟩ (.int .i64 l2.h)).heap.size=w2.heap.size:=(by simp [World.setCell]);refine u_ (fun G=>BusyX 35 G base X n A c L R ex∧Below w.heap.size w G∧WA.heap.size≤B∧l2.InS (fun b=>WA.heap.size≤b∧b<G.heap.size) G∧PksS (fun b=>WA.heap.size≤b∧b<G.heap.size) G A2 K∧G.heap[B]?=some (.cells #[.int .i64 l2.e,.int .i64 l2.n,.slice l2.sA l2.s.length l2.sc,.slice l2.qA l2.q.length l2.qc,.int .i64 l2.h] 58 (0,0))) ⟨HK.o.la HBf,bThen HBA.o HBf,by omega,hl2.mv fun b hb=>⟨⟨by have h9:=hb.1;simp at h9;omega,by rw [hzO];exact hb.2⟩,hO.block b hb.2 (by have h9:=hb.1;simp at h9;omega)⟩,hp2.mv fun b hb=>⟨⟨by have h9:=hb.1;simp at h9;omega,by rw [hzO];exact hb.2⟩,hO.block b hb.2 (by have h9:=hb.1;simp at h9;omega)⟩,f_ 4 _ (f_ 3 _ (f_ 2 _ (f_ 1 _ (f_ 0 _ HX2))))⟩ ?_))
 all_goals(
  have k97_:K_ (∀(P:Prop) (h:P:=by
  clear hB g1 g2 g4 g5 g6 hr hlen fr hd2 hk2 hl2 hp2 hb2 s5 s6 s7 s8 s9 x0 x1 x2 x3 x4 x5 x6 x7 x8 x9 xz q0 q1 q2 q3 q4 qz;obtain⟨x0,x1,x2,x3,x4,x5,x6,x7,x8,x9,xz⟩:=j_ HG1.o.blk;rw [HG.o]at x5;clear x0 x1 x2 x3 x4 x6 x7 x8 x9;go_wp2_with fail
  go_region
  go_wp2_with fail
  clear x5 xz;have k125_:K_ (∀(P:Prop) (h:P:=by
  have HS2:=h_ (show BusyX 35 G2 base X (n.link s l2) A c L R ex by
   rw [hG2];exact HG1.o.setLink (by decide) hs HG.o l2 (HG4.o.mv fun b hb=>⟨hfree b hb.1 hb.2,rfl⟩))
  have hO2:Only g G G2:=by rw [hG2];exact(((q5_.trans q5_).trans q5_).trans q5_).trans q5_
  have hz2:G2.heap.size=G.heap.size:=by rw [hG2];simp [World.setCell]
  obtain⟨G3,hG3⟩:=q2_ (G2.drew);rw [←hG3];have hb3:Below G2.heap.size G2 G3:=by rw [hG3];exact Below.drew (Below.refl _ _)
  have hO3:Only g G G3:=hO2.trans (Only.of_below hb3);have HS3:=h_ (HS2.o.la hb3);have hz3:G3.heap.size=G.heap.size:=by rw [hG3];exact hz2
  have hgW:g<WA.heap.size:=(hql g hqg).2;have hll:(n.link s l2).S.length=n.S.length:=by simp [NodeV.link]
  have hPS:=HG5.o.mv (S':=fun b=>WA.heap.size≤b∧b<G3.heap.size) (w':=G3) fun b hb=>⟨⟨hb.1,by rw [hz3];exact hb.2⟩,hO3.block b hb.2 (by have:=hb.1;omega)⟩
  have hPC:=vy_ G3 X (n.link s l2) A c L R s (by rw [hll];exact hs) A2 c2 K (HS3.o.work (by decide)) (hPS.row.mv fun b hb=>⟨⟨hb.2,by have:=hb.1;omega,fun e=>by have:=hpl b e;have:=hb.1;omega⟩,rfl⟩)
   (fun q hq=>(hPS.each q hq).mv fun b hb=>⟨⟨⟨by have:=hb.1;omega,hb.2⟩,fun e=>by have:=hpl b e;have:=hb.1;omega⟩,rfl⟩) (by omega)
  have hpe: ∀h:s<(n.link s l2).S.length,(n.link s l2).S[s].p=n.S[s].p:=fun h=>by simp [NodeV.link,List.getD_eq_getElem?_getD,List.getElem?_eq_getElem hs]
  rw [hpe]at hPC;have HPC:=h_ hPC;have HKK:=h_ (show∀q∈K,OpIn (fun b=>X+1≤b∧FreeX G3 base X (Value.slice A L.length c).ownBlock (Value.slice (n.link s l2).sA (n.link s l2).S.length (n.link s l2).sc).ownBlock ex b) G3 q.f.o.A q.f.o.ps from fun q hq=>(hPS.each q hq).mv fun b hb=>⟨⟨by have:=hb.1;omega,by
   have h9:=hfree b hb.1 (by rw [←hz3];exact hb.2);rw [hll];exact⟨⟨h9.1.1,hb.2⟩,h9.2⟩⟩,rfl⟩)
  have HBL:=h_ (show Below base w G3 from(HG2.o.mono (by have:=HBA.o.size;have:=(HB.o.lt);omega)).trans (hO3.below (by have:=hql g hqg;omega) (by have:=HG1.o.lt;omega)));have HPL:=h_ hpl;have HTO:=h_ (show∀b,b<w.heap.size→(Value.slice n.sA n.S.length n.sc).ownBlock≠some b→G3.heap[b]?=w.heap[b]? from fun b h8 h9=>(hO3.block b (by have:=HG2.o.size;omega) (fun e=>h9 (by rw [hqg,e]))).trans (HG2.o.block b h8));have HZ2:=h_ (show w.heap.size≤G3.heap.size by have:=HG2.o.size;omega);have HOS:=h_ (show G3.os=w.os∧G3.tape=w.tape∧G3.output=w.output from⟨hO3.os.trans HG2.o.os,hO3.tape.trans HG2.o.tape,hO3.output.trans HG2.o.output⟩);clear hPC hPS hpe hO3 hz3 hfree hql hqg hpl hG3 hb3 hO2 hz2 hG2 e5 e6 e7 e8 e9 f5 f6 f7 f8 f9 b0 b1 b2 b3 b4 bz hgB hBg hgG;refine HPC.o.mono ?_;rintro r w4 ⟨rfl,A',c',hp4⟩;have HP4:=h_ hp4;clear hp4;go_wp2_with fail
  refine bodyPost_end (results_none rfl _ _ _) rfl ⟨rfl,l2,A',c',_,HS3.o.posted (by decide) HP4.o HKK.o,HD2.o,?_,?_,?_⟩
  ·rw [List.map_append,List.map_map,←HKD.o,List.map_map];rfl
  ·have h7:=HG1.o.lt;exact HBL.o.trans (HP4.o.turned.below HK.o.lo (fun y hy=>by have:=HPL.o y hy;omega) (by have:=HS3.o.lt;omega))
  ·exact m209_
  ),P):=⟨@q6_⟩
  exact m125_
  ),P):=⟨@q6_⟩
  exact m97_)
 ),P):=⟨@q6_⟩
 exact m81_
 ),P):=⟨@q6_⟩
 exact m120_
 ),P):=⟨@q6_⟩
 exact m189_
end Go.Proofs.YtacacoklddogmaaGreatDoor
