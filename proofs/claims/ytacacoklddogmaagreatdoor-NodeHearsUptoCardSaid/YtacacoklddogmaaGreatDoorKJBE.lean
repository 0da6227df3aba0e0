/- Lemmas. -/
import Derived.Test.YtacacoklddogmaaGreatDoorKJAB
import Derived.BigRegion
import Derived.Deep.RegionHeld3
import Derived.Deep.DeepCutAuto
import Derived.BigQuiet
namespace Go.Proofs.YtacacoklddogmaaGreatDoor
set_option maxHeartbeats 4000000
open Go.ChangeShapes Go.WideShapes Go.ChangeAt Go.RowKit
set_option maxRecDepth 100000
theorem m62_{P:Prop}(h:P:=by
 generalize fillL (nextL s.n.S[i].k.d p.d)=LD at*;generalize heardF s.n.S[i].k.d p.d=FD at*;generalize decide (isNext s.n.S[i].k.d p.d)=told at*;generalize heardPk s.n.S[i].k.d p.d=PD at*;obtain⟨g,hg⟩: ∃g,s.n.sA=some ⟨g,0,none⟩:=by
  exact m207_
 have HG:=h_ hg;have HOF:=h_ (show OpIn (· <WA.heap.size) WA p.f.o.A p.f.o.ps from Sl.la (hf.mv (S':=(· <w.heap.size)) fun b hb=>⟨hb.lt,rfl⟩) HBA.o);have HLI:=h_ (((HTU.o.1.busy.side _ (List.getElem_mem hi)).in_ (fun b hb=>hb.1.2)).link);have hcs: ∀j u,(SideV.cells s.n.S[i])[j]?=some u->WA.cell? ⟨g,i*10+j,none⟩=some u:=fun j u hu=>by
  have hr:=HTU.o.1.busy.srow;rw [HG.o]at hr;have hj:j<10:=by
   exact m184_
  exact m259_
 have s5:WA.cell? ⟨g,i*10+5,none⟩=some (.int .i64 s.n.S[i].k.e):=hcs 5 _ rfl;have s6:WA.cell? ⟨g,i*10+6,none⟩=some (.int .i64 s.n.S[i].k.n):=hcs 6 _ rfl;have s7:WA.cell? ⟨g,i*10+7,none⟩=some (.slice s.n.S[i].k.sA s.n.S[i].k.s.length s.n.S[i].k.sc):=hcs 7 _ rfl;have s8:WA.cell? ⟨g,i*10+8,none⟩=some (.slice s.n.S[i].k.qA s.n.S[i].k.q.length s.n.S[i].k.qc):=hcs 8 _ rfl;have s9:WA.cell? ⟨g,i*10+9,none⟩=some (.int .i64 s.n.S[i].k.h):=hcs 9 _ rfl;obtain⟨x0,x1,x2,x3,x4,x5,x6,x7,x8,x9,xz⟩:=j_ HTU.o.1.busy.blk;rw [hg]at x5;obtain⟨q0,q1,q2,q3,q4,q5,q6,q7,q8,_,_,_,_,_,_,_,_,_,qz⟩:=n_ HFA.o;have hgz:g<WA.heap.size:=World.block_lt_of_cell? _ _ s5;have n1: ¬g=WA.heap.size:=by omega
 have n2: ¬WA.heap.size=g:=by omega
 have n3: ¬g=WA.heap.size+1:=by omega
 have n4: ¬WA.heap.size+1=g:=by omega
 have n5: ¬w.heap.size=WA.heap.size:=by omega
 have n6: ¬WA.heap.size=w.heap.size:=by omega
 have n7: ¬w.heap.size=WA.heap.size+1:=by omega
 have n8: ¬WA.heap.size+1=w.heap.size:=by omega
 have HSB:=h_ (show∀w',Below WA.heap.size WA w'->(w'.cell? ⟨g,i*10+5,none⟩=some (.int .i64 s.n.S[i].k.e)∧w'.cell? ⟨g,i*10+6,none⟩=some (.int .i64 s.n.S[i].k.n)∧w'.cell? ⟨g,i*10+7,none⟩=some (.slice s.n.S[i].k.sA s.n.S[i].k.s.length s.n.S[i].k.sc)∧w'.cell? ⟨g,i*10+8,none⟩=some (.slice s.n.S[i].k.qA s.n.S[i].k.q.length s.n.S[i].k.qc)∧w'.cell? ⟨g,i*10+9,none⟩=some (.int .i64 s.n.S[i].k.h)∧w'.cell? ⟨X,5,none⟩=some (.slice (some ⟨g,0,none⟩) s.n.S.length s.n.sc)∧w'.cell? ⟨w.heap.size,0,none⟩=some (.int .i64 p.ep)∧w'.cell? ⟨w.heap.size,1,none⟩=some (.int .i64 p.nu)∧w'.cell? ⟨w.heap.size,2,none⟩=some (.bool p.b)∧w'.cell? ⟨w.heap.size,3,none⟩=some (.int .i64 p.ak)∧w'.cell? ⟨w.heap.size,4,none⟩=some (.int .i64 p.f.k)∧w'.cell? ⟨w.heap.size,5,none⟩=some (.int .i64 p.f.h)∧w'.cell? ⟨w.heap.size,6,none⟩=some (.int .i64 p.f.e)∧w'.cell? ⟨w.heap.size,7,none⟩=some (.slice p.f.o.A p.f.o.ps.length p.f.o.c)∧w'.cell? ⟨w.heap.size,8,none⟩=some (.string p.f.s))from fun w' hb=>⟨(hb.cell (p:=⟨g,i*10+5,none⟩) hgz).trans s5,(hb.cell (p:=⟨g,i*10+6,none⟩) hgz).trans s6,(hb.cell (p:=⟨g,i*10+7,none⟩) hgz).trans s7,(hb.cell (p:=⟨g,i*10+8,none⟩) hgz).trans s8,(hb.cell (p:=⟨g,i*10+9,none⟩) hgz).trans s9,(hb.cell (p:=⟨X,5,none⟩) xz).trans x5,(hb.cell (p:=⟨w.heap.size,0,none⟩) qz).trans q0,(hb.cell (p:=⟨w.heap.size,1,none⟩) qz).trans q1,(hb.cell (p:=⟨w.heap.size,2,none⟩) qz).trans q2,(hb.cell (p:=⟨w.heap.size,3,none⟩) qz).trans q3,(hb.cell (p:=⟨w.heap.size,4,none⟩) qz).trans q4,(hb.cell (p:=⟨w.heap.size,5,none⟩) qz).trans q5,(hb.cell (p:=⟨w.heap.size,6,none⟩) qz).trans q6,(hb.cell (p:=⟨w.heap.size,7,none⟩) qz).trans q7,(hb.cell (p:=⟨w.heap.size,8,none⟩) qz).trans q8⟩);clear hcs hWA hT h hf hfm hS hL hR hg he hk h0 h1;exact k62_.o _):P:=h
theorem m64_{P:Prop}(h:P:=by
 refine ht_ 20 34 hHeld ?_;simp only [q3_,q4_];refine wpAnyH_ready (rs:= [21,26]) (by kernel_rfl) (by simp) (AllReadyH.cons rfl (fun K hK=>?_) (AllReadyH.cons rfl (fun K hK=>?_) AllReadyH.nil))
 ·go_simp;go_at_call 132;(with_reducible refine(HE.o _ ?_ ?_ ?_).mono ?_);exact(HT.o _ HBW.o).la bz_;exact HLI.o.la bz_;exact Sl.la HOF.o bz_;rintro r w2 ⟨A1,c1,L1,B1,cc1,rfl,hL1,hs1,ho1,hb2⟩;have HB2:Below WA.heap.size WA w2:=bThen bz_ hb2
  (refine hK.o _ _ (HSB.o _ bf_) (fun hHeld=>?_));clear hK K;try simp only [q3_,q4_]
  refine ht_ 22 13 hHeld ?_;simp only [q3_,q4_];refine ht_ 23 36 hHeld ?_;simp only [q3_,q4_];refine ht_ 24 37 hHeld ?_;simp only [q3_,q4_];refine ht_ 25 38 hHeld ?_;simp only [q3_,q4_];exact m123_
 ·go_simp
  (refine hK.o _ _ (HSB.o _ bz_) (fun hHeld=>?_));clear hK K;try simp only [q3_,q4_]
  refine wpAnyH_ready (rs:= [21]) (by kernel_rfl) (by simp) (AllReadyH.cons rfl (fun K hK=>?_) AllReadyH.nil);go_simp;go_at_call 132;(with_reducible refine(HE.o _ ?_ ?_ ?_).mono ?_);exact(HT.o _ HBW.o).la bz_;exact HLI.o.la bz_;exact Sl.la HOF.o bz_;rintro r w2 ⟨A1,c1,L1,B1,cc1,rfl,hL1,hs1,ho1,hb2⟩;have HB2:Below WA.heap.size WA w2:=bThen bz_ hb2
  have k268_:K_ (∀(P:Prop) (h:P:=by
  refine ht_ 22 13 hHeld ?_;simp only [q3_,q4_];refine ht_ 23 36 hHeld ?_;simp only [q3_,q4_];refine ht_ 24 37 hHeld ?_;simp only [q3_,q4_];refine ht_ 25 38 hHeld ?_;simp only [q3_,q4_];exact m109_
  ),P):=⟨@q6_⟩
  exact m268_):P:=h
theorem m91_{P:Prop}(h:P:=by
 obtain⟨B,F,l,fA,fc,A,c,K,⟨rfl,rfl,rfl,rfl,rfl⟩,⟨hld,hkd⟩,hbG,hBF,hLB,hFF,hli,hoi,hpi⟩:=hcut;clear x0 x1 x2 x3 x4 x5 x6 x7 x8 x9 xz s5 s6 s7 s8 s9 q0 q1 q2 q3 q4 q5 q6 q7 q8 qz n1 n2 n3 n4 n5 n6 n7 n8 HSB HE HOF HLI HFA;have HTG:=h_ (HTU.o.la hbG);have key: ∀b,(WA.heap.size<=b∧b<wc.heap.size)->FreeX wc base X (Value.slice s.A s.L.length s.c).ownBlock s.n.sOwn [s.n.mOwn,s.n.uOwn,(Value.slice s.RA s.RL.length s.rc).ownBlock] b:=fun b k=>HTU.o.1.freshX k.1 k.2;have HLX:=h_ (hli.mv fun b hb=>⟨key b hb,rfl⟩);have HXA:=h_ (show X<WA.heap.size from HTU.o.1.busy.lt);have HKX:=h_ (show PksS (fun b=>WA.heap.size<=b∧FreeX wc base X (Value.slice s.A s.L.length s.c).ownBlock s.n.sOwn [s.n.mOwn,s.n.uOwn,(Value.slice s.RA s.RL.length s.rc).ownBlock] b) wc A K from hpi.mv fun b hb=>⟨⟨hb.1,key b hb⟩,rfl⟩);have HOX:=h_ (hoi.mv (S':=fun b=>WA.heap.size<=b∧Off wc X s b) (w':=wc) fun b hb=>⟨⟨hb.1,HTU.o.1.fresh hb.1 hb.2⟩,rfl⟩);have HFB:=h_ hFF;have HLB:=h_ hLB;have HLD:=h_ hld;have HKD:=h_ hkd;have HBF:=h_ hBF;clear hbG hFF hLB hld hkd hli hoi hpi key hBF;obtain⟨b0,b1,b2,b3,b4,_,_,_,_,_,bz⟩:=a_ HLB.o;have hr:=HTG.o.1.busy.srow;rw [HG.o]at hr;have hlen:(s.n.S.flatMap SideV.cells).length=s.n.S.length*10:=by have h9:=hr.1;exact h9
 have e5: ∃v,wc.cell? ⟨g,i*10+5,none⟩=some v:=⟨_,by rw [hr.cellAt (i*10+5) (by omega)];exact List.getElem?_eq_getElem (by omega)⟩
 have e6: ∃v,wc.cell? ⟨g,i*10+6,none⟩=some v:=⟨_,by rw [hr.cellAt (i*10+6) (by omega)];exact List.getElem?_eq_getElem (by omega)⟩
 have e7: ∃v,wc.cell? ⟨g,i*10+7,none⟩=some v:=⟨_,by rw [hr.cellAt (i*10+7) (by omega)];exact List.getElem?_eq_getElem (by omega)⟩
 have e8: ∃v,wc.cell? ⟨g,i*10+8,none⟩=some v:=⟨_,by rw [hr.cellAt (i*10+8) (by omega)];exact List.getElem?_eq_getElem (by omega)⟩
 have e9: ∃v,wc.cell? ⟨g,i*10+9,none⟩=some v:=⟨_,by rw [hr.cellAt (i*10+9) (by omega)];exact List.getElem?_eq_getElem (by omega)⟩
 obtain⟨v5,e5⟩:=e5;obtain⟨v6,e6⟩:=e6;obtain⟨v7,e7⟩:=e7;obtain⟨v8,e8⟩:=e8;obtain⟨v9,e9⟩:=e9;have fr:=hr.frozenAt;have f5:=fr (i*10+5);have f6:=fr (i*10+6);have f7:=fr (i*10+7);have f8:=fr (i*10+8);have f9:=fr (i*10+9);have hBg: ¬B=g:=by have:=HBF.o.1;omega
 have hgB: ¬g=B:=fun e=>hBg e.symm;obtain⟨_,_,_,_,_,x5,_,_,_,_,xz⟩:=j_ HTG.o.1.busy.blk;rw [HG.o]at x5;have hBX: ¬B=X:=by have:=HBF.o.1;have:=HXA.o;omega
 have hXB: ¬X=B:=fun e=>hBX e.symm;have hil:(i:Int)<(s.n.S.length:Int):=by omega
 exact k91_.o _):P:=h
theorem m94_{P:Prop}(h:P:=by
 have HFA:=h_ (show(w.alloc (.cells #[.int .i64 p.ep,.int .i64 p.nu,.bool p.b,.int .i64 p.ak,.int .i64 p.f.k,.int .i64 p.f.h,.int .i64 p.f.e,.slice p.f.o.A p.f.o.ps.length p.f.o.c,.string p.f.s] 48)).heap[w.heap.size]?=some (.cells #[.int .i64 p.ep,.int .i64 p.nu,.bool p.b,.int .i64 p.ak,.int .i64 p.f.k,.int .i64 p.f.h,.int .i64 p.f.e,.slice p.f.o.A p.f.o.ps.length p.f.o.c,.string p.f.s] 48 (0,0))from World.alloc_heap_new _ _);obtain⟨WA,hWA⟩:=q2_ (w.alloc (.cells #[.int .i64 p.ep,.int .i64 p.nu,.bool p.b,.int .i64 p.ak,.int .i64 p.f.k,.int .i64 p.f.h,.int .i64 p.f.e,.slice p.f.o.A p.f.o.ps.length p.f.o.c,.string p.f.s] 48));rw [<-hWA]at HFA;have HBA:=h_ (show Below w.heap.size w WA by rw [hWA];exact bA_);have HW:=h_ hWA.symm;have HT:=h_ hT;have HTU:=h_ (Turns.of_below h HBA.o);have HI:=h_ hi;have HS:=h_ hS;have HLR:=h_ (And.intro hL hR);exact k94_.o _):P:=h
theorem m135_{P:Prop}(h:P:=by
 refine dt_ ?_;intro W9 hW9;have hW9:=hW9.trans (show _=((((((((((w5.setCell ⟨R,0,none⟩ (.int .i64 s9.n.me)).setCell ⟨R,1,none⟩ (.int .i64 s9.n.ep)).setCell ⟨R,2,none⟩ (.int .i64 s9.n.up)).setCell ⟨R,3,none⟩ (.bool s9.n.rd)).setCell ⟨R,4,none⟩ (.string s9.n.t)).setCell ⟨R,5,none⟩ (.slice s9.n.sA s9.n.S.length s9.n.sc)).setCell ⟨R,6,none⟩ (.slice s9.n.uA s9.n.U.length s9.n.uc)).setCell ⟨R,7,none⟩ (.slice s9.n.mA s9.n.M.length s9.n.mc)).setCell ⟨R,8,none⟩ (.slice s9.A s9.L.length s9.c)).setCell ⟨R,9,none⟩ (.slice s9.RA s9.RL.length s9.rc)) by first | rfl | simp | (congr 1;done));rw [<-hW9]at hq;clear hW9 r0 r1 r2 r3 r4 r5 r6 r7 r8 r9 rz F0 F1 F2 F3 F4 F5 F6 F7 F8 F9 x0 x1 x2 x3 x4 x5 x6 x7 x8 x9 xz;obtain⟨j1,j2,j3,j4,j5⟩:=hq;obtain⟨r0,r1,r2,r3,r4,r5,r6,r7,r8,r9,rz⟩:=j_ j1;exact k135_.o _):P:=h
theorem m137_{P:Prop}(h:P:=by
 refine ht_ 0 14 hHeld ?_;simp only [q3_,q4_];refine ht_ 1 15 hHeld ?_;simp only [q3_,q4_];refine ht_ 2 16 hHeld ?_;simp only [q3_,q4_];refine ht_ 3 17 hHeld ?_;simp only [q3_,q4_];refine ht_ 4 18 hHeld ?_;simp only [q3_,q4_];refine ht_ 5 19 hHeld ?_;simp only [q3_,q4_];refine ht_ 6 20 hHeld ?_;simp only [q3_,q4_];refine ht_ 7 21 hHeld ?_;simp only [q3_,q4_];refine ht_ 8 22 hHeld ?_;simp only [q3_,q4_];refine ht_ 9 23 hHeld ?_;simp only [q3_,q4_];refine ht_ 10 24 hHeld ?_;simp only [q3_,q4_];refine ht_ 11 25 hHeld ?_;simp only [q3_,q4_];refine ht_ 12 26 hHeld ?_;simp only [q3_,q4_];refine ht_ 13 27 hHeld ?_;simp only [q3_,q4_];refine ht_ 14 28 hHeld ?_;simp only [q3_,q4_];refine ht_ 15 29 hHeld ?_;simp only [q3_,q4_];refine ht_ 16 30 hHeld ?_;simp only [q3_,q4_];refine ht_ 17 31 hHeld ?_;simp only [q3_,q4_];exact k137_.o _):P:=h
theorem m178_{P:Prop}(h:P:=by
 have HL0:w2.heap[WA.heap.size]?=some (.cells #[.int .i64 0,.int .i64 0,.slice none 0 0,.slice none 0 0,.int .i64 0] 58 (0,0)):=(hb2.block _ (by simp)).trans ((q_ _ _ _ (by simp)).trans (World.alloc_heap_new _ _));obtain⟨z0,z1,z2,z3,z4,y0,y1,y2,y3,y4,zz⟩:=a_ HL0;have HF1:w2.heap[WA.heap.size+1]?=some (.cells #[.int .i64 0,.int .i64 0,.int .i64 0,.slice none 0 0,.string ⟨#[]⟩] 46 (0,0)):=(hb2.block _ (by simp)).trans (ep_ _ _ _ _);obtain⟨t0,t1,t2,t3,t4,k0,k1,k2,k3,k4,tz⟩:=a_ HF1;exact k178_.o _):P:=h
theorem m206_{P:Prop}(h:P:=by
 have HF0:w2.heap[WA.heap.size]?=some (.cells #[.int .i64 0,.int .i64 0,.int .i64 0,.slice none 0 0,.string ⟨#[]⟩] 46 (0,0)):=(hb2.block _ (by simp)).trans ((q_ _ _ _ (by simp)).trans (World.alloc_heap_new _ _));obtain⟨t0,t1,t2,t3,t4,k0,k1,k2,k3,k4,tz⟩:=a_ HF0;have HL1:w2.heap[WA.heap.size+1]?=some (.cells #[.int .i64 0,.int .i64 0,.slice none 0 0,.slice none 0 0,.int .i64 0] 58 (0,0)):=(hb2.block _ (by simp)).trans (ep_ _ _ _ _);obtain⟨z0,z1,z2,z3,z4,y0,y1,y2,y3,y4,zz⟩:=a_ HL1;exact k206_.o _):P:=h
theorem m217_{P:Prop}(h:P:=by
 have e2:=hcs 2 _ rfl;have e3:=hcs 3 _ rfl;have e4:=hcs 4 _ rfl;have e5:=hcs 5 _ rfl;have e6:=hcs 6 _ rfl;have e7:=hcs 7 _ rfl;have e8:=hcs 8 _ rfl;have e9:=hcs 9 _ rfl;have fr:=hr.frozenAt;have f0:=fr (i*10);have f1:=fr (i*10+1);have f2:=fr (i*10+2);have f3:=fr (i*10+3);have f4:=fr (i*10+4);have f5:=fr (i*10+5);have f6:=fr (i*10+6);have f7:=fr (i*10+7);have f8:=fr (i*10+8);have f9:=fr (i*10+9);exact k217_.o _):P:=h
theorem m225_{P:Prop}(h:P:=by
 rintro r w3 ⟨rfl,A',c',hp3⟩;have HP3:=h_ (HTG.o.trans (HL1.o.trans hp3));have hst:=HL1.o.2.2.trans hp3.2.2;have HO3:=h_ (HOX.o.mv (S':=Off w3 X ((s.link i l).post A' c' _ K)) fun b hb=>hst b hb.2);have HFW:=h_ (show FrameAt w3 F FD.kind FD.heard FD.epoch fA FD.op.length fc FD.text from(hst F (HTU.o.1.fresh HBF.o.2 (Array.getElem?_eq_some_iff.1 HFB.o).1)).2.trans HFB.o);exact k225_.o _):P:=h
theorem m260_{P:Prop}(h:P:=by
 clear r0 r1 r2 r3 r4 r5 r6 r7 r8 r9 rz F0 F1 F2 F3 F4 F5 F6 F7 F8 F9;rintro H ⟨j1,j3⟩;obtain⟨r0,r1,r2,r3,r4,r5,r6,r7,r8,r9,rz⟩:=j_ j1;exact k260_.o _):P:=h
theorem m271_{P:Prop}(h:P:=by
 have HM31:decide (0<n.me)=false:=by simpa using hm
 have HM3:=h_ hm;clear hm;go_wp2_with fail
 go_meet
 exact⟨rfl,by rw [decide_eq_false (fun k=>absurd k.1 (by have:=HM3.o;omega))]⟩):P:=h
theorem bgx_(w:World)(base X:Nat)(s:EdV)(i:Nat)(hi:i<s.n.S.length)(f:FrameV)(hT: ∀W,Below base w W->Tabs W)(h:EdAt 71 w base X s)(hf:OpIn (Off w X s) w f.o.A f.o.ps)(hfm:SmallD f.o.ps)(hS:s.n.Small)(hL:s.L.length<=1000000000)(hR:s.RL.length<=1048576):Calls Tryz.prog 115 #[.pointer (some ⟨X,0,none⟩),.int .i64 i,frameV f.k f.h f.e f.o.A f.o.ps.length f.o.c f.s] w (Goes 71 base X w s (heardDD s.d i f.d)):=by
 have k70_:K_ (∀(P:Prop) (h:P:=by
 have HE:=h_ (fun W (hT:Tabs W) (ks:OpsIn W s.n.S[i].A s.n.S[i].L) (ho:OpIn (· <W.heap.size) W f.o.A f.o.ps)=>bgb_ W s.n.S[i].s s.n.S[i].h s.n.S[i].A s.n.S[i].c s.n.S[i].L hT ks HSI.o.ops HSI.o.len f.o.A f.o.c f.o.ps ho hfm f.h up);obtain⟨r0,hr0⟩:=q2_ (hearAns s.n.S[i].s s.n.S[i].h s.n.S[i].L f.o.ps f.h up);rw [<-hr0]at HE;have HR0:=h_ hr0;have HRS:=h_ (show HearSmall s.n.S[i].L r0 by rw [hr0];exact ha_ hfm);clear hcs hr hWA hT h hf hfm hS hL hR hg hr0 hup;go_enter Tryz.func115,Tryz.ntmps115
 go_wp2_with fail
 rw [HW.o];refine(cm_ _ X).mono ?_;rintro r w1 ⟨rfl,rfl⟩;go_wp2_with fail
 go_cut [7,8,9] (fun sx so se G=> ∃(B:Nat) (eA:OA_) (ec:Nat) (eL:List OpV) (oA:OA_) (oc:Nat),sx= .pointer (some ⟨B,0,none⟩)∧so= .slice oA r0.2.2.2.1.length oc∧se= .int .i64 r0.2.2.2.2∧eL.map OpV.ps=r0.2.2.1∧Below WA.heap.size WA G∧WA.heap.size<=B∧EdgeAt G B r0.1 r0.2.1 eA eL.length ec∧OpsS (fun b=>WA.heap.size<=b∧b<G.heap.size) G eA eL∧OpIn (fun b=>WA.heap.size<=b∧b<G.heap.size) G oA r0.2.2.2.1)
 case first=>
  by_cases hme:s.n.me=0
  ·have hmb:(s.n.me==0)=true:=(by simpa using hme);obtain rfl:up=true:=(by rw [HUP.o];simp [hme]);have k93_:K_ (∀(P:Prop) (h:P:=by
   have k137_:K_ (∀(P:Prop) (h:P:=by
   refine cp_ 18 32 rfl rfl (Or.inr ⟨by go_simp,rfl⟩) hHeld ?_ (fun _ _ _ h=>h);simp only [q3_,q4_];refine cp_ 19 33 rfl rfl (Or.inr ⟨by go_simp,rfl⟩) hHeld ?_ (fun _ _ _ h=>h);simp only [q3_,q4_];exact m64_
   ),P):=⟨@q6_⟩
   exact m137_
   ),P):=⟨@q6_⟩
   exact m93_
  ·have hmb:(s.n.me==0)=false:=(by simpa using hme);have hgt:decide (0<i)=up:=(by rw [HUP.o];simp [hme]);have k93_:K_ (∀(P:Prop) (h:P:=by
   have k137_:K_ (∀(P:Prop) (h:P:=by
   refine cp_ 18 32 (v:=?_) rfl rfl (Or.inl ⟨by go_simp,?_⟩) hHeld ?_ (fun _ _ _ h=>h);rotate_left;(intro w9 hS9;go_simp;try with_reducible rfl);simp only [q3_,q4_];refine cp_ 19 33 (v:=?_) rfl rfl (Or.inl ⟨by go_simp,?_⟩) hHeld ?_ (fun _ _ _ h=>h);rotate_left;(intro w9 hS9;go_simp;try with_reducible rfl);simp only [q3_,q4_];exact m64_
   ),P):=⟨@q6_⟩
   exact m137_
   ),P):=⟨@q6_⟩
   exact m93_
 have k114_:K_ (∀(P:Prop) (h:P:=by
 have HAP:=h_ (fun W hT hs=>bfz_ W s.n.t oA oc op hT hs HRS.o.op.1 HRS.o.op.2 HS.o.text);have k82_:K_ (∀(P:Prop) (h:P:=by
 have hgX: ¬g=X:=fun e=>s_ HT2.o.1.busy.srow HT2.o.1.busy.blk bi_.s (by rw [HG.o,e];rfl);have k227_:K_ (∀(P:Prop) (h:P:=by
 have HR1:=h_ ((HT2.o.1.setEdgeT bi_ hi HG.o es eh eA ec eL HS2.o));have HA1:=h_ (HR1.o.trans (EdAt.setText bi_ HR1.o.1 (applyText s.n.t op)));have HR2:=h_ (show Turns 71 base X w2 s _ (s.withT (applyText s.n.t op))from EdAt.setText bi_ HT2.o.1 (applyText s.n.t op));have HA2:=h_ (HR2.o.trans (HR2.o.1.setEdgeT bi_ hi HG.o es eh eA ec eL (HS2.o.mv fun b hb=>⟨⟨⟨hb.1.1,by rw [show(w2.setCell ⟨X,4,none⟩ (.string (applyText s.n.t op))).heap.size=w2.heap.size by simp [World.setCell]];exact hb.1.2⟩,hb.2⟩,bH_ hb.2.1⟩)));clear hr hlen fr hi hrA hgA hXB;go_wp2_with fail
 go_cut [] (fun G=>Turns 71 base X w2 s G ((s.edge i es eh eA ec eL).withT (applyText s.n.t op)))
 case first=>
  go_region
  all_goals(
   go_wp2_with fail
   go_meet
   first
   | exact HA1.o.la (Below.drew (Below.refl _ _))
   | exact HA2.o.la (Below.drew (Below.refl _ _)))
 rename World=>w3
 have k161_:K_ (∀(P:Prop) (h:P:=by
 refine(bho_ w3 base X ((s.edge i es eh eA ec eL).withT (applyText s.n.t op)) oA oc op false (fun W hb=>HT.o W (HC.o.2.1.trans hb)) HC.o.1 HO3.o HRS.o.op.1 HRS.o.op.2 HS.o.ml).mono ?_;have k176_:K_ (∀(P:Prop) (h:P:=by
 go_wp2_with fail
 refine(bhp_ w4 base X s3 oA oc op (fun W hb=>HT.o W (HK3.o.2.1.trans hb)) HK3.o.1 HO4.o HRS.o.op (by rw [mapLen HU3.o];exact HS.o.ul) (sg_ HU3.o HS.o.undo)).mono ?_;rintro r w5 ⟨rfl,s4,k1,k2,k3,k4⟩;have HK4:=h_ (HK3.o.trans ⟨k1,k3,k4⟩);have HO5:=h_ (HO4.o.mv fun b hb=>k4 b hb);have HD4:=h_ k2;clear k1 k2 k3 k4;go_wp2_with fail
 have HE4:=h_ (show s4.n.S.map SideV.d=((s.edge i es eh eA ec eL).withT (applyText s.n.t op)).n.S.map SideV.d∧s4.L.length=s.L.length∧s4.RL.length=s.RL.length from⟨(congrArg (fun d:EdD=>d.n.S) HD4.o).trans HE3.o.1,(mapLen (congrArg EdD.L HD4.o)).trans HE3.o.2.1,(mapLen (congrArg EdD.R HD4.o)).trans HE3.o.2.2⟩);refine(bak_ w5 base X s4 i oA oc op (fun W hb=>HT.o W (HK4.o.2.1.trans hb)) HK4.o.1 HO5.o HRS.o.op.1 HRS.o.op.2 (by rw [mapLen HE4.o.1,HSL.o];exact HS.o.sl) (md_ HE4.o.1 HSM.o) (by rw [HE4.o.2.1];exact HLR.o.1) (by rw [HE4.o.2.2];exact HLR.o.2)).mono ?_;rintro r w6 ⟨rfl,s5,k1,k2,k3,k4⟩;have HK5:=h_ (HK4.o.trans ⟨k1,k3,k4⟩);have HD5:=h_ (show s5.d=heardDD s.d i f.d by rw [k2,HD4.o,HD3.o,HD.o]);clear k1 k2 k3 k4;go_wp2_with fail
 exact bodyPost_end (results_none rfl _ _ _) rfl ⟨rfl,s5,HK5.o.1,HD5.o,HK5.o.2.1,HK5.o.2.2⟩
 ),P):=⟨@q6_⟩
 exact m176_
 ),P):=⟨@q6_⟩
 exact m161_
 ),P):=⟨@q6_⟩
 exact m227_
 ),P):=⟨@q6_⟩
 exact m82_
 ),P):=⟨@q6_⟩
 exact m114_
 ),P):=⟨@q6_⟩
 exact m70_
abbrev EdV.withRd (s:EdV) (b:Bool):EdV:=⟨⟨s.n.me,s.n.ep,s.n.up,b,s.n.t,s.n.sA,s.n.sc,s.n.S,s.n.uA,s.n.uc,s.n.U,s.n.mA,s.n.mc,s.n.M⟩,s.A,s.c,s.L,s.RA,s.rc,s.RL⟩
theorem EdAt.setRd{T:TypeId}{W:World}{base X:Nat}{s:EdV}(hT:TurnT T)(h:EdAt T W base X s)(b:Bool):Turns T base X W s (W.setCell ⟨X,3,none⟩ (.bool b)) (s.withRd b):=
 h.put hT (n':=(s.withRd b).n) q5_ ⟨rfl,rfl,rfl⟩ (.inl ⟨rfl,rfl,rfl⟩) (.inl ⟨rfl,rfl,rfl⟩) (f_ 3 _ h.busy.blk)
theorem bhz_(w:World)(base X:Nat)(s:EdV)(i:Nat)(hi:i<s.n.S.length)(f:FrameV)(hT: ∀W,Below base w W->Tabs W)(h:EdAt 71 w base X s)(hf:OpIn (Off w X s) w f.o.A f.o.ps)(hfm:SmallD f.o.ps)(hS:s.n.Small)(hL:s.L.length<=1000000000)(hR:s.RL.length<=1048576):
 Calls Tryz.prog 74 #[.pointer (some ⟨X,0,none⟩),.int .i64 i,frameV f.k f.h f.e f.o.A f.o.ps.length f.o.c f.s] w (Goes 71 base X w s (toldDD s.d i f.d)):=by
 have k171_:K_ (∀(P:Prop) (h:P:=by
 have HTU:=h_ (Turns.of_below h HBA.o);have HF:=h_ (hf.mv fun b hb=>HTU.o.2.2 b hb);have HI:=h_ hi;have HHD:=h_ (fun(_:True)=>bgx_ WA base X s i hi f (fun W hb=>hT W (HTU.o.2.1.trans hb)) HTU.o.1 HF.o hfm hS hL hR);obtain⟨g,hg⟩: ∃g,s.n.sA=some ⟨g,0,none⟩:=by
  exact m207_
 have HG:=h_ hg;have s1:WA.cell? ⟨g,i*10+1,none⟩=some (.bool s.n.S[i].j):=by
  have hr:=HTU.o.1.busy.srow;rw [HG.o]at hr;rw [hr.cellAt (i*10+1) (by omega),bx_ SideV.cells 10 SideV.cells_len s.n.S i 1 hi (by omega)];rfl
 have s1f:WA.frozen? ⟨g,i*10+1,none⟩=false:=by
  have hr:=HTU.o.1.busy.srow;rw [HG.o]at hr;exact hr.frozenAt (i*10+1)
 have hgX: ¬g=X:=fun e=>s_ HTU.o.1.busy.srow HTU.o.1.busy.blk bi_.s (by rw [HG.o,e];rfl);have hXg: ¬X=g:=fun e=>hgX e.symm;obtain⟨x0,x1,x2,x3,x4,x5,x6,x7,x8,x9,xz⟩:=j_ HTU.o.1.busy.blk;have f3:=tenF HTU.o.1.busy.blk 3;have f4:=tenF HTU.o.1.busy.blk 4;rw [hg]at x5;obtain⟨q0,q1,q2,q3,q4,_,_,_,_,_,qz⟩:=a_ HFA.o;have HD:=h_ (show s.d.n.S.getD i default=s.n.S[i].d by
  show(s.n.S.map SideV.d).getD i default=_;rw [ci_,List.getD_eq_getElem?_getD,List.getElem?_eq_getElem hi];rfl)
 have HTD:Hid ((f.k=1∧s.n.S[i].j=true->toldDD s.d i f.d=heardDD s.d i f.d)∧(¬(f.k=1∧s.n.S[i].j=true)->(f.k=3∧i=0∧0<s.n.me∧s.n.S[i].j=false∧f.e=s.n.ep->toldDD s.d i f.d=wholeDD s.d f.s)∧(¬(f.k=3∧i=0∧0<s.n.me∧s.n.S[i].j=false∧f.e=s.n.ep)->toldDD s.d i f.d=s.d))):=h_ (by
  unfold toldDD;rw [HD.o];exact⟨fun k=>if_pos k,fun k=>⟨fun q=>by rw [if_neg k,if_pos q],fun q=>by rw [if_neg k,if_neg q]⟩⟩)
 have HPJ:=h_ (show∃x:SideV,x=s.n.S[i]from⟨_,rfl⟩);obtain⟨j,hj⟩:=q2_ (s.n.S[i].j);have HJ:=h_ hj;rw [<-hj]at s1 HTD;clear hWA h hf hfm hS hL hR hg hT hj;go_enter Tryz.func74,Tryz.ntmps74
 go_wp2_with fail
 rw [HW.o];refine(cm_ _ X).mono ?_;rintro r w1 ⟨rfl,rfl⟩;go_upto_region 3 with fail
 go_cut [16] (fun t G=>WA=G∧t= .bool (decide (f.k=1∧j=true)))
 case first=>
  by_cases hk:f.k=1
  ·have hk1:(f.k==1)=true:=(by simpa using hk);rw [hk]at q0;go_wp2_with fail
   go_meet
   exact⟨rfl,by simp [hk]⟩
  ·have hk1:(f.k==1)=false:=(by simpa using hk);go_wp2_with fail
   go_meet
   exact⟨rfl,by simp [hk]⟩
 obtain⟨rfl,rfl⟩:=hcut;by_cases hc:f.k=1∧j=true
 ·have HE:=h_ (HTD.o.1 hc);simp only [hc];clear hc;go_wp2_with fail
  refine(HHD.o trivial).mono ?_;rintro r w2 ⟨rfl,s2,k1,k2,k3,k4⟩;have HK1:=h_ k1;have HK2:=h_ (k2.trans HE.o.symm);have HK3:=h_ (HTU.o.2.1.trans k3);have HK4:=h_ (HTU.o.2.2.trans k4);clear k1 k2 k3 k4;go_wp2_with fail
  exact bodyPost_end (results_none rfl _ _ _) rfl ⟨rfl,s2,HK1.o,HK2.o,HK3.o,HK4.o⟩
 ·have HE:=h_ (HTD.o.2 hc);have hcf:decide (f.k=1∧j=true)=false:=decide_eq_false hc;rw [hcf];clear hc hcf;go_upto_region 5 with fail
  go_cut [30] (fun t G=>Below WA.heap.size WA G∧t= .bool (decide (f.k=3∧i=0∧0<s.n.me∧j=false∧f.e=s.n.ep)))
  case first=>
   by_cases hk:f.k=3
   ·have HK31:(f.k==3)=true:=(by simpa using hk);have HK3:=h_ hk;clear hk;by_cases h0:i=0
    ·have H031:((i:Int)==0)=true:=(by simpa using h0);have H03:=h_ h0;clear h0;by_cases hm:0<s.n.me
     ·have HM31:decide (0<s.n.me)=true:=(by simpa using hm);have HM3:=h_ hm;clear hm;cases j
      ·by_cases he:f.e=s.n.ep
       ·have HE31:(f.e==s.n.ep)=true:=(by simpa using he);have HE3:=h_ he;clear he;go_quiet (fail)
        go_wp2_with fail
        go_meet
        exact⟨bz_,by simp [HK3.o,H03.o,HM3.o,HE3.o]⟩
       ·have HE31:(f.e==s.n.ep)=false:=(by simpa using he);have HE3:=h_ he;clear he;go_quiet (fail)
        go_wp2_with fail
        go_meet
        exact⟨bz_,by simp [HE3.o]⟩
      ·go_quiet (fail)
       go_wp2_with fail
       go_meet
       exact⟨bz_,by simp⟩
     ·have HM31:decide (0<s.n.me)=false:=(by simpa using hm);have HM3:=h_ hm;clear hm;go_quiet (fail)
      go_wp2_with fail
      go_meet
      exact⟨bz_,by rw [decide_eq_false (fun q=>absurd q.2.2.1 (by have:=HM3.o;omega))]⟩
    ·have H031:((i:Int)==0)=false:=(by simpa using h0);have H03:=h_ h0;clear h0;go_quiet (fail)
     go_wp2_with fail
     go_meet
     exact⟨bz_,by simp [H03.o]⟩
   ·have HK31:(f.k==3)=false:=(by simpa using hk);have HK3:=h_ hk;clear hk;go_quiet (fail)
    go_wp2_with fail
    go_meet
    exact⟨bz_,by simp [HK3.o]⟩
  obtain⟨hbc,rfl⟩:=hcut;have HTC:=h_ (HTU.o.la hbc);by_cases hc:f.k=3∧i=0∧0<s.n.me∧j=false∧f.e=s.n.ep
  ·have HE2:=h_ (HE.o.1 hc);have h0:i=0:=hc.2.1;rw [decide_eq_true hc];clear hc;have HI0:=h_ h0;have y4:=(World.cell?_of_block (a:=⟨w.heap.size,4,none⟩) (hbc.block w.heap.size qz)).trans q4;have hbc:=h_ hbc;have hgz:g<WA.heap.size:=World.block_lt_of_cell? _ _ s1;have t1:=(hbc.o.cell (p:=⟨g,i*10+1,none⟩) hgz).trans s1;have tf:=(hbc.o.frozen (p:=⟨g,i*10+1,none⟩) hgz).trans s1f;clear x0 x1 x2 x3 x4 x5 x6 x7 x8 x9 xz f3 f4 q0 q1 q2 q3 q4 s1 s1f;obtain⟨_,_,_,x3,x4,_,_,_,_,_,xz⟩:=j_ HTC.o.1.busy.blk;have f3:=tenF HTC.o.1.busy.blk 3;have f4:=tenF HTC.o.1.busy.blk 4;have HA1:=h_ (HTC.o.1.setRd bi_ true);have HA2:=h_ (HA1.o.trans (EdAt.setText bi_ HA1.o.1 f.s));have HA3:=h_ (HA2.o.trans (EdAt.setCell1 (i:=i) bi_ HA2.o.1 HI.o HG.o true));clear h0;go_wp2_with fail
   go_region
   all_goals(
    go_wp2_with fail
    have HA4:=HTC.o.trans (HA3.o.la (Below.drew (Below.refl _ _)));refine bodyPost_end (results_none rfl _ _ _) rfl ⟨rfl,_,HA4.1,?_,HA4.2.1,HA4.2.2⟩;rw [HE2.o,ix_];unfold wholeDD;refine EdD.ext' ?_ rfl rfl;dsimp only;have hi0:=HI0.o;subst hi0;rw [HD.o];rfl)
  ·have HE2:=h_ (HE.o.2 hc);rw [decide_eq_false hc];clear hc;go_wp2_with fail
   exact bodyPost_end (results_none rfl _ _ _) rfl ⟨rfl,s,HTC.o.1,HE2.o.symm,HTC.o.2.1,HTC.o.2.2⟩
 ),P):=⟨@q6_⟩
 exact m171_
end Go.Proofs.YtacacoklddogmaaGreatDoor
