/- Lemmas. -/
import Derived.Test.YtacacoklddogmaaGreatDoorKJAD
import Derived.Deep.DeepCutAuto
namespace Go.Proofs.YtacacoklddogmaaGreatDoor
set_option maxHeartbeats 4000000
open Go.ChangeShapes Go.WideShapes Go.ChangeAt Go.RowKit
set_option maxRecDepth 100000
theorem m11_{P:Prop}(h:P:=by
 obtain⟨i0,hi0,hz0,hz1,hz2⟩:=info_parts infoRec;have HCL:=h_ (fun W hs=>eb_ W pA pc ps hs hm);have HES:=h_ (fun W es eh eA ec eL hT hs hmm hll hop=>un_ W es eh eA ec eL hT hs hmm hll pA pc ps hop hm ht);have HFM:=h_ (show∀A c (h:Int),(⟨1,h,0,⟨A,c,ps⟩,⟨#[]⟩⟩:FrameV).Small from fun A c h=>⟨⟨hm,ht⟩,Nat.zero_le _⟩);have HT:=h_ hT;have HB:=h_ h;have HOP:=h_ hop;have HSS:=h_ hS;have hbw:=h.base_le;have HSL:=hSL;first
 |guard_hyp vU
  have hmb:(s.n.me==0)=false:=by simpa using hme
 |have hmb:(s.n.me==0)=true:=by simp [hme]
 have HME:=h_ hme;clear hT h hop hm ht hS hSL hme;obtain⟨x0,x1,x2,x3,x4,x5,x6,x7,x8,x9,xz⟩:=j_ HB.o.busy.blk;go_enter Tryz.func66,Tryz.ntmps66
 first
 |guard_hyp vU
  have HK1:=h_ HB.o;have HD1:=h_ (wa_ (ps:=ps) HME.o);have HBW1:=h_ (Below.refl base w);have HST1:=h_ (Stay.refl w X s)
 |go_wp2_with fail
  go_cut [] (fun G=> ∃s1:EdV,EdAt 35 G base X s1∧s1.d=recDD ps s.d∧Below base w G∧Stay w X s G s1)
  case first=>
   go_region_law (first
    | (refine bg_ _ rfl _ _ 33 rfl (X+1) 119 i0 (.agg #[.int .i64 0,.slice none 0 0]) 2 32 Tryz.underlying33 hi0 hz0 hz1 hz2 rfl (by decide) _ _ _ rfl (cx_ HR4 bz_) (fun _=>True) _ _ _ _ rfl (bl_ (by rfl) (by simp)) ?_ ?_ ?_ ?_ ?_;(intro u hu;simp at hu;rcases hu with rfl | rfl <;> rfl);(unfold maxLen;omega);omega;(simp;omega);intro A' c' w3 hown' hgrow hat;obtain⟨_,_,_,_,_,_,_,_,_,v9,_⟩:=j_ ((hgrow.block X (Nat.lt_of_lt_of_le z4 (show Below w4.heap.size w4 _ from bz_).size) (fun e1=>hNE e1.symm)).trans (((show Below w4.heap.size w4 _ from bz_).block X z4).trans hX4));have f9:=tenF ((hgrow.block X (Nat.lt_of_lt_of_le z4 (show Below w4.heap.size w4 _ from bz_).size) (fun e1=>hNE e1.symm)).trans (((show Below w4.heap.size w4 _ from bz_).block X z4).trans hX4)) 9)
    | (go_simp;go_at_call 8;(with_reducible refine(HCL.o _ ?_).mono ?_);exact Sl.la (HOP.o.mv fun b hb=>⟨hb.lt,rfl⟩) bz_;rintro r w4 ⟨A2,c2,rfl,ho2,hb2⟩;have HB4:Below w.heap.size w w4:=bThen bz_ hb2;have hX4:=(HB4.block X xz).trans HB.o.busy.blk;have HR4:=cx_ HB.o.rrow HB4;have hNE:=s_ HB.o.rrow HB.o.busy.blk (by decide);obtain⟨_,_,_,_,_,_,_,_,_,z9,z4⟩:=j_ hX4))
   all_goals(
    obtain⟨WQ,hWQ,hgQ,hbQ⟩:=jj_ (W4:=w4) hgrow bz_;rw [<-hWQ]at hat;have hx:=((Sl.of_own _ ho2).mv (S':=fun b=>w.heap.size<=b∧b<WQ.heap.size) (w':=WQ) fun b hb=>⟨⟨hb.1,Nat.lt_of_lt_of_le hb.2 hbQ.size⟩,hbQ.block b hb.2⟩)
    obtain⟨r1,r2,r3⟩:=EdAt.record (x:=⟨0,⟨A2,c2,ps⟩⟩) bn_ HB.o (bThen HB4 hbQ) hx hgQ hown' hat;clear hWQ hgQ hbQ hat hown' hgrow v9 f9 x0 x1 x2 x3 x4 x5 x6 x7 x8 x9 z9 z4 ho2 hx HB4 hX4 HR4 hNE hb2;go_wp2_with fail
    go_meet
    exact⟨_,r1,wb_ HME.o rfl,r2,r3⟩)
  obtain⟨s1,h1,h2,h3,h4⟩:=hcut;clear x0 x1 x2 x3 x4 x5 x6 x7 x8 x9 xz;have HK1:=h_ h1;have HD1:=h_ h2;have HBW1:=h_ h3;have HST1:=h_ h4;clear h1 h2 h3 h4;obtain⟨_,_,_,_,_,x5,_,_,_,_,xz⟩:=j_ HK1.o.busy.blk;have hl1:=fk_ (but:=0) (k:=0) HD1.o;rw [hl1]at x5;clear hl1
 go_wp2_with fail
 go_loopw [6] (fun i wr=> ∃(k:Nat) (s':EdV),k<=s.n.S.length∧i= .int .i64 k∧Hid (EdAt 35 wr base X s')∧Hid (s'.d=passesD ps but (recDD ps s.d) k)∧Hid (Below base w wr)∧Hid (Stay w X s wr s')) (fun i _=>s.n.S.length - (intOf i).toNat)
 first
 |guard_hyp vU
  case atStart=>exact⟨0,s,Nat.zero_le _,rfl,HK1,HD1,HBW1,HST1⟩
 |case atStart=>exact⟨0,s1,Nat.zero_le _,rfl,HK1,HD1,HBW1,HST1⟩
 case round=>
  obtain⟨k,s',hk,rfl,HR,HD,HBW,HST⟩:=hrel
  (try clear x0 x1 x2 x3 x4 x5 x6 x7 x8 x9 xz)
  have hln:=fk_ HD.o;by_cases hlt:k<s.n.S.length
  ·have k80_:K_ (∀(P:Prop) (h:P:=by
   by_cases hb:(k:Int)=but
   ·exact m244_
   ·have hbb:((k:Int)==but)=false:=(by simpa using hb);by_cases hj:x.j=false
    ·rw [hj]at s1;have HX:=h_ (show s'.d=passesD ps but (recDD ps s.d) (k+1) by rw [HSUC.o,<-HD.o];exact(HSK.o (.inr hj)).symm);clear hb hj s2 s3 s4;exact m166_
    ·have k219_:K_ (∀(P:Prop) (h:P:=by
     by_cases hE:sendErr x.s x.h x.L ps=0
     ·obtain⟨eA,ec,eL,rfl,hps,hown,hb2⟩:=hq.2 hE;have HX:=h_ (show passesD ps but (recDD ps s.d) (k+1)=sendDD (edgeDD s'.d k (x.s+1) (eL.map OpV.ps)) k ⟨1,x.h,0,ps,⟨#[]⟩⟩ by rw [HSUC.o,<-HD.o,hps];exact HYE.o HNJ.o hE);have HOW:=h_ hown;have HB2:=h_ hb2;clear hq hps hown hE s1 s2 s3 s4;go_wp2_with fail
      obtain⟨B,hB⟩:=q2_ (w2.heap.size);obtain⟨H,hH⟩:=q2_ (w2.alloc (.cells #[.int .i64 (x.s+1),.int .i64 x.h,.slice eA eL.length ec] 55));have hbh:Below w2.heap.size w2 H:=(by rw [hH];exact bA_);have HBH:=h_ (bThen hb2 hbh);have hBc:H.heap[B]?=some (.cells #[.int .i64 (x.s+1),.int .i64 x.h,.slice eA eL.length ec] 55 (0,0)):=(by rw [hH,hB];exact World.alloc_heap_new _ _);have HOS:=h_ ((OpsS.of HOW.o).mv fun b hb=>⟨HR.o.freshX (W:=H) hb.1 (Nat.lt_of_lt_of_le hb.2 hbh.size),hbh.block b hb.2⟩);have HBC:=h_ hBc;have hr:=(HR.o.la HBH.o).busy.srow;rw [HG.o]at hr;have hlen:(s'.n.S.flatMap SideV.cells).length=s'.n.S.length*10:=(by have h9:=hr.1;exact h9);have hks:=HKS.o;have e2: ∃v,H.cell? ⟨g,k*10+2,none⟩=some v:=⟨_,by rw [hr.cellAt (k*10+2) (by omega)];exact List.getElem?_eq_getElem (by omega)⟩
      have e3: ∃v,H.cell? ⟨g,k*10+3,none⟩=some v:=⟨_,by rw [hr.cellAt (k*10+3) (by omega)];exact List.getElem?_eq_getElem (by omega)⟩
      have e4: ∃v,H.cell? ⟨g,k*10+4,none⟩=some v:=⟨_,by rw [hr.cellAt (k*10+4) (by omega)];exact List.getElem?_eq_getElem (by omega)⟩
      obtain⟨v2,e2⟩:=e2;obtain⟨v3,e3⟩:=e3;obtain⟨v4,e4⟩:=e4;have fr:=hr.frozenAt;have f2:=fr (k*10+2);have f3:=fr (k*10+3);have f4:=fr (k*10+4);have hg2:g<H.heap.size:=(by have:=hb2.size;have:=hbh.size;omega);have hgB: ¬g=B:=(by have:=hb2.size;omega);have hBg: ¬B=g:=(by omega);obtain⟨b0,b1,b2,_,_,_,bz⟩:=b_ hBc;have x5':=(World.cell?_of_block (a:=⟨X,5,none⟩) (HBH.o.block X xz)).trans x5;have hxH:X<H.heap.size:=(by have:=HBH.o.size;omega);rw [<-hB,<-hH];clear hB hH hbh hBc hr hlen hks fr x5 xz hb2 hgz;go_region
      all_goals(
       obtain⟨q1,q2,q3⟩:=EdAt.setEdge bn_ (HR.o.la HBH.o) HKS.o HG.o (x.s+1) x.h eA ec eL HOS.o;have q4:=q3.below (HR.o.la HBH.o) q2.os q2.tape q2.output q2.size;have q5:=(q2.block B bz hBg).trans HBC.o;refine u_ (fun G=>EdAt 35 G base X (s'.edge k (x.s+1) x.h eA ec eL)∧Below base w G∧Stay w X s G (s'.edge k (x.s+1) x.h eA ec eL)∧G.heap[B]?=some (.cells #[.int .i64 (x.s+1),.int .i64 x.h,.slice eA eL.length ec] 55 (0,0)))
        ⟨q1.la (Below.drew (Below.refl _ _)),(HBW.o.trans (HBH.o.mono hwb)).trans (Below.drew q4),(HST.o.trans (Stay.of_below HBH.o)).trans (q3.trans (Stay.of_below (Below.drew (Below.refl _ _)))),q5⟩ ?_
       clear q1 q2 q3 q4 q5 e2 e3 e4 f2 f3 f4 hg2 hgB hBg b0 b1 b2 bz x5' hxH;have k215_:K_ (∀(P:Prop) (h:P:=by
       have HSN:Hid (∀W A c,Below G.heap.size G W->OpIn (· <W.heap.size) W A ps->Calls Tryz.prog 41 #[.pointer (some ⟨X,0,none⟩),.int .i64 k,.agg #[.int .i64 1,.int .i64 x.h,.int .i64 0,.slice A ps.length c,.string ⟨#[]⟩]] W (Goes 35 base X W (s'.edge k (x.s+1) x.h eA ec eL) (passesD ps but (recDD ps s.d) (k+1)))):=h_ (fun W A c hb ho=>by
        have hk2:k<(s'.edge k (x.s+1) x.h eA ec eL).n.S.length:=(by simp [NodeV.edge];exact HKS.o);have hsm:((s'.edge k (x.s+1) x.h eA ec eL).n.S[k]'hk2).k.Small:=by
         simp only [NodeV.edge,List.getElem_set_self];rw [hgs];exact HSM.o.link
        have h9:=nd_ W base X (s'.edge k (x.s+1) x.h eA ec eL) k hk2 ⟨1,x.h,0,⟨A,c,ps⟩,⟨#[]⟩⟩ (HT.o W (HG2.o.trans (hb.mono (by have:=HG2.o.size;omega)))) (HG1.o.la hb) hsm ho (HFM.o A c x.h) (by have h1:=HPL.o;have h2:=HLT.o;show s'.L.length<=_;omega);rw [HX.o,<-HSE.o];exact h9)
       have HOG:=h_ ((HOP.o.mv fun b hb=>HG3.o b hb).mv fun b hb=>⟨hb.lt,rfl⟩);clear g1 g2 g3 g4 hgs;go_wp2_with fail
       go_region_law (first
        | (go_simp;go_at_call 8;(with_reducible refine(HCL.o _ ?_).mono ?_);exact Sl.la HOG.o bz_;rintro r w4 ⟨A2,c2,rfl,ho2,hb2⟩;have HB4:Below G.heap.size G w4:=bThen bz_ hb2;have y1:=(World.cell?_of_block (a:=⟨B,1,none⟩) (HB4.block B bz)).trans b1;have HO4:=(Sl.of_own _ ho2).mv (S':=(· <w4.heap.size)) (w':=w4) fun b hb=>⟨hb.2,rfl⟩)
        | (go_simp;go_at_call 41;(with_reducible refine(HSN.o _ A2 c2 ?_ ?_).mono ?_);exact bThen HB4 bz_;exact HO4.la bz_;rintro r w5 ⟨rfl,hq⟩))
       all_goals(
        exact m150_)
       ),P):=⟨@q6_⟩
       exact m215_)
     ·obtain⟨rfl,hb2⟩:=hq.1 hE;have HX:=h_ (show s'.d=passesD ps but (recDD ps s.d) (k+1) by rw [HSUC.o,<-HD.o];exact(HNO.o HNJ.o hE).symm);have hne:(sendErr x.s x.h x.L ps==0)=false:=(by simpa using hE);exact m186_
     ),P):=⟨@q6_⟩
     exact m219_
   ),P):=⟨@q6_⟩
   exact m80_
  ·obtain rfl:k=s.n.S.length:=(by omega);obtain⟨_,_,_,_,_,x5,_,_,_,_,xz⟩:=j_ HR.o.busy.blk;rw [hln]at x5;clear hln;exact m274_):P:=h
theorem m12_{P:Prop}(h:P:=by
 obtain⟨i0,hi0,hz0,hz1,hz2⟩:=info_parts infoRec;have HCL:=h_ (fun W hs=>dj_ W pA pc ps hs hm);have HES:=h_ (fun W es eh eA ec eL hT hs hmm hll hop=>bbn_ W es eh eA ec eL hT hs hmm hll pA pc ps hop hm ht);have HFM:=h_ (show∀A c (h:Int),(⟨1,h,0,⟨A,c,ps⟩,⟨#[]⟩⟩:FrameV).Small from fun A c h=>⟨⟨hm,ht⟩,Nat.zero_le _⟩);have HT:=h_ hT;have HB:=h_ h;have HOP:=h_ hop;have HSS:=h_ hS;have hbw:=h.base_le;have HSL:=hSL;first
 |guard_hyp vV
  have hmb:(s.n.me==0)=false:=by simpa using hme
 |have hmb:(s.n.me==0)=true:=by simp [hme]
 have HME:=h_ hme;clear hT h hop hm ht hS hSL hme;obtain⟨x0,x1,x2,x3,x4,x5,x6,x7,x8,x9,xz⟩:=j_ HB.o.busy.blk;go_enter Tryz.func53,Tryz.ntmps53
 go_wp2_with fail
 refine(cm_ _ X).mono ?_;rintro r w1 ⟨rfl,rfl⟩;first
 |guard_hyp vV
  have HK1:=h_ HB.o;have HD1:=h_ (wa_ (ps:=ps) HME.o);have HBW1:=h_ (Below.refl base w);have HST1:=h_ (Stay.refl w X s)
 |go_wp2_with fail
  go_cut [] (fun G=> ∃s1:EdV,EdAt 71 G base X s1∧s1.d=recDD ps s.d∧Below base w G∧Stay w X s G s1)
  case first=>
   go_region_law (first
    | (refine bg_ _ rfl _ _ 33 rfl (X+1) 119 i0 (.agg #[.int .i64 0,.slice none 0 0]) 2 32 Tryz.underlying33 hi0 hz0 hz1 hz2 rfl (by decide) _ _ _ rfl (cx_ HR4 bz_) (fun _=>True) _ _ _ _ rfl (bl_ (by rfl) (by simp)) ?_ ?_ ?_ ?_ ?_;(intro u hu;simp at hu;rcases hu with rfl | rfl <;> rfl);(unfold maxLen;omega);omega;(simp;omega);intro A' c' w3 hown' hgrow hat;obtain⟨_,_,_,_,_,_,_,_,_,v9,_⟩:=j_ ((hgrow.block X (Nat.lt_of_lt_of_le z4 (show Below w4.heap.size w4 _ from bz_).size) (fun e1=>hNE e1.symm)).trans (((show Below w4.heap.size w4 _ from bz_).block X z4).trans hX4));have f9:=tenF ((hgrow.block X (Nat.lt_of_lt_of_le z4 (show Below w4.heap.size w4 _ from bz_).size) (fun e1=>hNE e1.symm)).trans (((show Below w4.heap.size w4 _ from bz_).block X z4).trans hX4)) 9)
    | (go_simp;go_at_call 100;(with_reducible refine(HCL.o _ ?_).mono ?_);exact Sl.la (HOP.o.mv fun b hb=>⟨hb.lt,rfl⟩) bz_;rintro r w4 ⟨A2,c2,rfl,ho2,hb2⟩;have HB4:Below w.heap.size w w4:=bThen bz_ hb2;have hX4:=(HB4.block X xz).trans HB.o.busy.blk;have HR4:=cx_ HB.o.rrow HB4;have hNE:=s_ HB.o.rrow HB.o.busy.blk (by decide);obtain⟨_,_,_,_,_,_,_,_,_,z9,z4⟩:=j_ hX4))
   all_goals(
    obtain⟨WQ,hWQ,hgQ,hbQ⟩:=jj_ (W4:=w4) hgrow bz_;rw [<-hWQ]at hat;have hx:=((Sl.of_own _ ho2).mv (S':=fun b=>w.heap.size<=b∧b<WQ.heap.size) (w':=WQ) fun b hb=>⟨⟨hb.1,Nat.lt_of_lt_of_le hb.2 hbQ.size⟩,hbQ.block b hb.2⟩)
    obtain⟨r1,r2,r3⟩:=EdAt.record (x:=⟨0,⟨A2,c2,ps⟩⟩) bi_ HB.o (bThen HB4 hbQ) hx hgQ hown' hat;clear hWQ hgQ hbQ hat hown' hgrow v9 f9 x0 x1 x2 x3 x4 x5 x6 x7 x8 x9 z9 z4 ho2 hx HB4 hX4 HR4 hNE hb2;go_wp2_with fail
    go_meet
    exact⟨_,r1,wb_ HME.o rfl,r2,r3⟩)
  obtain⟨s1,h1,h2,h3,h4⟩:=hcut;clear x0 x1 x2 x3 x4 x5 x6 x7 x8 x9 xz;have HK1:=h_ h1;have HD1:=h_ h2;have HBW1:=h_ h3;have HST1:=h_ h4;clear h1 h2 h3 h4;obtain⟨_,_,_,_,_,x5,_,_,_,_,xz⟩:=j_ HK1.o.busy.blk;have hl1:=fk_ (but:=0) (k:=0) HD1.o;rw [hl1]at x5;clear hl1
 go_wp2_with fail
 go_loopw [37] (fun i wr=> ∃(k:Nat) (s':EdV),k<=s.n.S.length∧i= .int .i64 k∧Hid (EdAt 71 wr base X s')∧Hid (s'.d=passesD ps but (recDD ps s.d) k)∧Hid (Below base w wr)∧Hid (Stay w X s wr s')) (fun i _=>s.n.S.length - (intOf i).toNat)
 first
 |guard_hyp vV
  case atStart=>exact⟨0,s,Nat.zero_le _,rfl,HK1,HD1,HBW1,HST1⟩
 |case atStart=>exact⟨0,s1,Nat.zero_le _,rfl,HK1,HD1,HBW1,HST1⟩
 case round=>
  obtain⟨k,s',hk,rfl,HR,HD,HBW,HST⟩:=hrel
  (try clear x0 x1 x2 x3 x4 x5 x6 x7 x8 x9 xz)
  have hln:=fk_ HD.o;by_cases hlt:k<s.n.S.length
  ·have k80_:K_ (∀(P:Prop) (h:P:=by
   by_cases hb:(k:Int)=but
   ·exact m244_
   ·have hbb:((k:Int)==but)=false:=(by simpa using hb);by_cases hj:x.j=false
    ·rw [hj]at s1;have HX:=h_ (show s'.d=passesD ps but (recDD ps s.d) (k+1) by rw [HSUC.o,<-HD.o];exact(HSK.o (.inr hj)).symm);clear hb hj s2 s3 s4;exact m166_
    ·have k219_:K_ (∀(P:Prop) (h:P:=by
     by_cases hE:sendErr x.s x.h x.L ps=0
     ·obtain⟨eA,ec,eL,rfl,hps,hown,hb2⟩:=hq.2 hE;have HX:=h_ (show passesD ps but (recDD ps s.d) (k+1)=sendDD (edgeDD s'.d k (x.s+1) (eL.map OpV.ps)) k ⟨1,x.h,0,ps,⟨#[]⟩⟩ by rw [HSUC.o,<-HD.o,hps];exact HYE.o HNJ.o hE);have HOW:=h_ hown;have HB2:=h_ hb2;have hr:=(HR.o.la hb2).busy.srow;rw [HG.o]at hr;have hlen:(s'.n.S.flatMap SideV.cells).length=s'.n.S.length*10:=(by have h9:=hr.1;exact h9);have hks:=HKS.o;have e2: ∃v,w2.cell? ⟨g,k*10+2,none⟩=some v:=⟨_,by rw [hr.cellAt (k*10+2) (by omega)];exact List.getElem?_eq_getElem (by omega)⟩
      have e3: ∃v,w2.cell? ⟨g,k*10+3,none⟩=some v:=⟨_,by rw [hr.cellAt (k*10+3) (by omega)];exact List.getElem?_eq_getElem (by omega)⟩
      have e4: ∃v,w2.cell? ⟨g,k*10+4,none⟩=some v:=⟨_,by rw [hr.cellAt (k*10+4) (by omega)];exact List.getElem?_eq_getElem (by omega)⟩
      obtain⟨v2,e2⟩:=e2;obtain⟨v3,e3⟩:=e3;obtain⟨v4,e4⟩:=e4;have fr:=hr.frozenAt;have f2:=fr (k*10+2);have f3:=fr (k*10+3);have f4:=fr (k*10+4);have hg2:g<w2.heap.size:=(by have:=hb2.size;omega);have hgB: ¬g=w2.heap.size:=(by omega);have hBg: ¬w2.heap.size=g:=(by omega);clear hq hps hown hb2 hr hlen hks fr hE s1 s2 s3 s4;go_wp2_with fail
      obtain⟨B,hB⟩:=q2_ (w2.heap.size);rw [<-hB];obtain⟨q1,q2,q3⟩:=EdAt.setEdge bi_ (HR.o.la HB2.o) HKS.o HG.o (x.s+1) x.h eA ec eL ((OpsS.of HOW.o).mv fun b hb=>⟨HR.o.freshX hb.1 hb.2,rfl⟩);have hz2:(((w2.setCell ⟨g,k*10+2,none⟩ (.int .i64 (x.s+1))).setCell ⟨g,k*10+3,none⟩ (.int .i64 x.h)).setCell ⟨g,k*10+4,none⟩ (.slice eA eL.length ec)).heap.size=w2.heap.size:=(by simp [World.setCell]);have q4:=q3.below (HR.o.la HB2.o) q2.os q2.tape q2.output q2.size;refine ja_ (fun G=>EdAt 71 G base X (s'.edge k (x.s+1) x.h eA ec eL)∧Below base w G∧Stay w X s G (s'.edge k (x.s+1) x.h eA ec eL)∧G.heap[B]?=some (.cells #[.int .i64 (x.s+1),.int .i64 x.h,.slice eA eL.length ec] 55 (0,0)))
       ⟨q1.la bA_,(HBW.o.trans (HB2.o.mono hwb)).trans (q4.trans (bA_.mono (by rw [hz2];have:=HB2.o.size;omega))),(HST.o.trans (Stay.of_below HB2.o)).trans (q3.trans (Stay.of_below bA_)),by rw [hB,<-hz2];exact World.alloc_heap_new _ _⟩ ?_
      clear q1 q2 q3 q4 hz2 hB e2 e3 e4 f2 f3 f4 hg2 hgB hBg x5 xz hgz;have k215_:K_ (∀(P:Prop) (h:P:=by
      have HSN:Hid (∀W A c,Below G.heap.size G W->OpIn (· <W.heap.size) W A ps->Calls Tryz.prog 77 #[.pointer (some ⟨X,0,none⟩),.int .i64 k,.agg #[.int .i64 1,.int .i64 x.h,.int .i64 0,.slice A ps.length c,.string ⟨#[]⟩]] W (Goes 71 base X W (s'.edge k (x.s+1) x.h eA ec eL) (passesD ps but (recDD ps s.d) (k+1)))):=h_ (fun W A c hb ho=>by
       have hk2:k<(s'.edge k (x.s+1) x.h eA ec eL).n.S.length:=(by simp [NodeV.edge];exact HKS.o);have hsm:((s'.edge k (x.s+1) x.h eA ec eL).n.S[k]'hk2).k.Small:=by
        simp only [NodeV.edge,List.getElem_set_self];rw [hgs];exact HSM.o.link
       have h9:=wl_ W base X (s'.edge k (x.s+1) x.h eA ec eL) k hk2 ⟨1,x.h,0,⟨A,c,ps⟩,⟨#[]⟩⟩ (HT.o W (HG2.o.trans (hb.mono (by have:=HG2.o.size;omega)))) (HG1.o.la hb) hsm ho (HFM.o A c x.h) (by have h1:=HPL.o;have h2:=HLT.o;show s'.L.length<=_;omega);rw [HX.o,<-HSE.o];exact h9)
      have HOG:=h_ ((HOP.o.mv fun b hb=>HG3.o b hb).mv fun b hb=>⟨hb.lt,rfl⟩);clear g1 g2 g3 g4 hgs;go_region_law (first
       | (go_simp;go_at_call 100;(with_reducible refine(HCL.o _ ?_).mono ?_);exact Sl.la HOG.o bz_;rintro r w4 ⟨A2,c2,rfl,ho2,hb2⟩;have HB4:Below G.heap.size G w4:=bThen bz_ hb2;have y1:=(World.cell?_of_block (a:=⟨B,1,none⟩) (HB4.block B bz)).trans b1;have HO4:=(Sl.of_own _ ho2).mv (S':=(· <w4.heap.size)) (w':=w4) fun b hb=>⟨hb.2,rfl⟩)
       | (go_simp;go_at_call 77;(with_reducible refine(HSN.o _ A2 c2 ?_ ?_).mono ?_);exact bThen HB4 bz_;exact HO4.la bz_;rintro r w5 ⟨rfl,hq⟩))
      all_goals(
       exact m150_)
      ),P):=⟨@q6_⟩
      exact m215_
     ·obtain⟨rfl,hb2⟩:=hq.1 hE;have HX:=h_ (show s'.d=passesD ps but (recDD ps s.d) (k+1) by rw [HSUC.o,<-HD.o];exact(HNO.o HNJ.o hE).symm);have hne:(sendErr x.s x.h x.L ps !=0)=true:=(by simpa using hE);exact m186_
     ),P):=⟨@q6_⟩
     exact m219_
   ),P):=⟨@q6_⟩
   exact m80_
  ·obtain rfl:k=s.n.S.length:=(by omega);exact m274_):P:=h
theorem m80_{P:Prop}(h:P:=by
 have hks:k<s'.n.S.length:=by omega
 obtain⟨g,hg⟩: ∃g,s'.n.sA=some ⟨g,0,none⟩:=by
  obtain⟨g,cap,hv,_,_⟩:=HR.o.busy.srow.form (by omega);exact⟨g,by injection hv⟩
 obtain⟨_,_,_,_,_,x5,_,_,_,_,xz⟩:=j_ HR.o.busy.blk;rw [hg]at x5;have HG:=h_ hg;obtain⟨x,hx⟩:=q2_ (s'.n.S[k]'hks);have hcs: ∀j u,(SideV.cells x)[j]?=some u->wr.cell? ⟨g,k*10+j,none⟩=some u:=fun j u hu=>by
  have hr:=HR.o.busy.srow;rw [HG.o]at hr;have hj:j<10:=by
   exact m184_
  rw [hr.cellAt (k*10+j) (by omega),bx_ SideV.cells 10 SideV.cells_len s'.n.S k j hks hj,<-hx];exact hu
 have s1:wr.cell? ⟨g,k*10+1,none⟩=some (.bool x.j):=hcs 1 _ rfl;have s2:wr.cell? ⟨g,k*10+2,none⟩=some (.int .i64 x.s):=hcs 2 _ rfl;have s3:wr.cell? ⟨g,k*10+3,none⟩=some (.int .i64 x.h):=hcs 3 _ rfl;have s4:wr.cell? ⟨g,k*10+4,none⟩=some (.slice x.A x.L.length x.c):=hcs 4 _ rfl;have hgz:g<wr.heap.size:=by
  have hr:=HR.o.busy.srow;rw [HG.o]at hr;exact(hr.lt g rfl).2
 have HSM:=h_ (show x.Small by rw [hx];exact SideV.Small.of_d (if_ HD.o hlt hks) (HSS.o _ (List.getElem_mem hlt)));have HIN:=h_ (show x.In wr by rw [hx];exact(HR.o.busy.side _ (List.getElem_mem hks)).in_ (fun b hb=>hb.1.2));have HLT:=h_ hlt;have HLN:=h_ hln;have HKS:=h_ hks;have HPL:=h_ (id_ HD.o);have hki:(k:Int)<(s.n.S.length:Int):=by omega
 have HSUC:=h_ (db_ ps but (recDD ps s.d) k);have HSK:=h_ (show(k:Int)=but∨x.j=false->passD ps but s'.d k=s'.d by rw [hx];exact fun h=>ic_ hks h);have HNO:=h_ (show¬((k:Int)=but∨x.j=false)->sendErr x.s x.h x.L ps≠0->passD ps but s'.d k=s'.d by rw [hx];exact fun h1 h2=>kz_ hks h1 h2);have HYE:=h_ (show¬((k:Int)=but∨x.j=false)->sendErr x.s x.h x.L ps=0->passD ps but s'.d k=sendDD (edgeDD s'.d k (x.s+1) (x.L.map OpV.ps++ [ps])) k ⟨1,x.h,0,ps,⟨#[]⟩⟩ by rw [hx];exact fun h1 h2=>jn_ hks h1 h2);have HXX:=h_ hx;clear hx;clear hcs hg hln;exact k80_.o _):P:=h
theorem m150_{P:Prop}(h:P:=by
 obtain⟨s3,k1,k2,k3,k4⟩:=hq;have hbG:base<=G.heap.size:=by have:=HG2.o.size;omega
 have HN1:=h_ k1;have HN2:=h_ k2;have HN3:=h_ (HG2.o.trans (Below.trans ((show Below G.heap.size G _ from bThen HB4 bz_).mono hbG) k3));have HN4:=h_ (HG3.o.trans (Stay.trans (Stay.of_below (show Below G.heap.size G _ from bThen HB4 bz_)) k4));clear k1 k2 k3 k4 hb2 HB4 y1 HO4 ho2 b0 b1 b2 bz;go_wp2_with fail
 go_roundw
 case rel=>exact⟨k+1,s3,by have:=HLT.o;omega,by go_num,HN1,HN2,HN3,HN4⟩
 case measure=>have:=HLT.o;simp [intOf];omega):P:=h
theorem m166_{P:Prop}(h:P:=by
 go_wp2_with fail
 go_roundw
 case rel=>exact⟨k+1,s',by have:=HLT.o;omega,by go_num,HR,HX,HBW,HST⟩
 case measure=>have:=HLT.o;simp [intOf];omega):P:=h
theorem m186_{P:Prop}(h:P:=by
 have HB2:=h_ hb2;clear hq hE hb2 s1 s2 s3 s4;generalize sendErr x.s x.h x.L ps=er at*;go_wp2_with fail
 go_roundw
 case rel=>exact⟨k+1,s',by have:=HLT.o;omega,by go_num,h_ (HR.o.la (bThen HB2.o bz_)),HX,h_ (HBW.o.trans ((bThen HB2.o bz_).mono hwb)),h_ (HST.o.trans (Stay.of_below (bThen HB2.o bz_)))⟩
 case measure=>have:=HLT.o;simp [intOf];omega):P:=h
theorem m207_{P:Prop}(h:P:=by
 obtain⟨g,cap,hv,_,_⟩:=h.busy.srow.form (by omega);exact⟨g,by injection hv⟩):P:=h
theorem m215_{P:Prop}(h:P:=by
 rintro G ⟨g1,g2,g3,g4⟩;have HG1:=h_ g1;have HG2:=h_ g2;have HG3:=h_ g3;obtain⟨b0,b1,b2,_,_,_,bz⟩:=b_ g4;have hgs:s'.n.S.getD k default=x:=by
  rw [List.getD_eq_getElem?_getD,List.getElem?_eq_getElem HKS.o,HXX.o];rfl
 have HSE:=h_ (show(s'.edge k (x.s+1) x.h eA ec eL).d=edgeDD s'.d k (x.s+1) (eL.map OpV.ps)from on_ s' k _ _ _ _ _ (by
  show x.h=((s'.n.S.map SideV.d).getD k default).h;rw [ci_,hgs]))
 exact k215_.o _):P:=h
theorem m219_{P:Prop}(h:P:=by
 have hj1:x.j=true:=by simpa using hj
 rw [hj1]at s1;have HNJ:=h_ (show¬((k:Int)=but∨x.j=false)from fun q=>q.elim hb hj);clear hb hj hj1;have HOK:=h_ (HOP.o.mv fun b hb=>HST.o b hb);have hwz:=HBW.o.size;have hwb:base<=wr.heap.size:=by omega
 go_wp2_with fail
 refine(HES.o wr x.s x.h x.A x.c x.L (HT.o _ HBW.o) HIN.o.ops HSM.o.ops HSM.o.len (HOK.o.mv fun b hb=>⟨hb.lt,rfl⟩)).mono ?_;rintro r w2 hq;exact k219_.o _):P:=h
theorem m244_{P:Prop}(h:P:=by
 have hbb:((k:Int)==but)=true:=by simpa using hb
 have HX:=h_ (show s'.d=passesD ps but (recDD ps s.d) (k+1) by rw [HSUC.o,<-HD.o];exact(HSK.o (.inl hb)).symm);clear hb s1 s2 s3 s4;exact m166_):P:=h
theorem m274_{P:Prop}(h:P:=by
 have HX:=h_ (show s'.d=spreadD ps but s.d from HD.o.trans (by unfold spreadD;simp));go_wp2_with fail
 exact bodyPost_end (results_none rfl _ _ _) rfl ⟨rfl,s',HR.o,HX.o,HBW.o,HST.o⟩):P:=h
section
variable(w:World) (base X:Nat) (s:EdV) (but:Int) (pA:OA_) (pc:Nat) (ps:LP_) (hT: ∀W,Below base w W->Tabs W)
include w base X s but pA pc ps hT
section
variable(h:EdAt 71 w base X s) (hop:OpIn (Off w X s) w pA ps) (hm:ps.length<=1048576) (ht: ∀p∈ps,p.text.size<=1048576) (hSL:s.n.S.length<=1048576) (hS: ∀x∈s.n.S,x.Small) (hL:s.L.length<=1000000000)
include h hop hm ht hSL hS hL
theorem bai_(hR:s.RL.length<=1048576)(hme:s.n.me=0):
 Calls Tryz.prog 53 #[.pointer (some ⟨X,0,none⟩),.slice pA ps.length pc,.int .i64 but] w (Goes 71 base X w s (spreadD ps but s.d)):=by
 exact m12_
theorem baj_(hme:s.n.me≠0):
 Calls Tryz.prog 53 #[.pointer (some ⟨X,0,none⟩),.slice pA ps.length pc,.int .i64 but] w (Goes 71 base X w s (spreadD ps but s.d)):=by
 have vV:=h_ trivial;exact m12_
end
section
variable(h:EdAt 35 w base X s) (hop:OpIn (Off w X s) w pA ps) (hm:ps.length<=1048576) (ht: ∀p∈ps,p.text.size<=1048576) (hSL:s.n.S.length<=1048576) (hS: ∀x∈s.n.S,x.Small) (hL:s.L.length<=1000000000)
include h hop hm ht hSL hS hL
theorem bds_(hR:s.RL.length<=1048576)(hme:s.n.me=0):
 Calls Tryz.prog 66 #[.pointer (some ⟨X,0,none⟩),.slice pA ps.length pc,.int .i64 but] w (Goes 35 base X w s (spreadD ps but s.d)):=by
 exact m11_
theorem bdt_(hme:s.n.me≠0):
 Calls Tryz.prog 66 #[.pointer (some ⟨X,0,none⟩),.slice pA ps.length pc,.int .i64 but] w (Goes 35 base X w s (spreadD ps but s.d)):=by
 have vU:=h_ trivial;exact m11_
end
theorem bak_(h:EdAt 71 w base X s)(hop:OpIn (Off w X s) w pA ps)(hm:ps.length<=1048576)(ht: ∀p∈ps,p.text.size<=1048576)(hSL:s.n.S.length<=1048576)(hS: ∀x∈s.n.S,x.Small)(hL:s.L.length<=1000000000)(hR:s.RL.length<=1048576):
 Calls Tryz.prog 53 #[.pointer (some ⟨X,0,none⟩),.slice pA ps.length pc,.int .i64 but] w (Goes 71 base X w s (spreadD ps but s.d)):=by
 by_cases hme:s.n.me=0
 ·exact bai_ w base X s but pA pc ps hT h hop hm ht hSL hS hL hR hme
 ·exact baj_ w base X s but pA pc ps hT h hop hm ht hSL hS hL hme
theorem bdu_(h:EdAt 35 w base X s)(hop:OpIn (Off w X s) w pA ps)(hm:ps.length<=1048576)(ht: ∀p∈ps,p.text.size<=1048576)(hSL:s.n.S.length<=1048576)(hS: ∀x∈s.n.S,x.Small)(hL:s.L.length<=1000000000)(hR:s.RL.length<=1048576):
 Calls Tryz.prog 66 #[.pointer (some ⟨X,0,none⟩),.slice pA ps.length pc,.int .i64 but] w (Goes 35 base X w s (spreadD ps but s.d)):=by
 by_cases hme:s.n.me=0
 ·exact bds_ w base X s but pA pc ps hT h hop hm ht hSL hS hL hR hme
 ·exact bdt_ w base X s but pA pc ps hT h hop hm ht hSL hS hL hme
end
end Go.Proofs.YtacacoklddogmaaGreatDoor
