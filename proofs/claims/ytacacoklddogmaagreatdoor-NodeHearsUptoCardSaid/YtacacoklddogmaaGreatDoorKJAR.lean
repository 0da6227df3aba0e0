/- Lemmas. -/
import Derived.Test.YtacacoklddogmaaGreatDoorKJAV
import Derived.Test.YtacacoklddogmaaGreatDoorKJAO
import Derived.Test.YtacacoklddogmaaGreatDoorKJAY
import Derived.BigRegion
namespace Go.Proofs.YtacacoklddogmaaGreatDoor
set_option maxHeartbeats 4000000
open Go.ChangeShapes Go.WideShapes Go.ChangeAt Go.RowKit
set_option maxRecDepth 100000
theorem m13_{P:Prop}(h:P:=by
 obtain⟨W1,hW1⟩:=q2_ (w.alloc (.cells #[.int .i64 s,.int .i64 h0,.slice A L.length c] 55));have k103_:K_ (∀(P:Prop) (h:P:=by
 have k198_:K_ (∀(P:Prop) (h:P:=by
 have k140_:K_ (∀(P:Prop) (h:P:=by
 go_enter Tryz.func132,Tryz.ntmps132
 have k122_:K_ (∀(P:Prop) (h:P:=by
 have k273_:K_ (∀(P:Prop) (h:P:=by
 refine(HO.o _ (HS.o.la H2.o.b)).mono ?_;rintro e wc ⟨A3,c3,L3,rfl,hps3,hown3,hb3⟩;have hL3:L3.length=L.length:=by have:=congrArg List.length hps3;simpa using this
 rw [hL3];obtain⟨e0,e1,e2,_,_,_,hez⟩:=b_ (H2.o.la hb3).e;have hcap:=(yt_ hown3.row).1;rw [hL3]at hcap;have a3:decide ((L.length:Int)<(K:Int))=false:=by simp;omega
 have a4:decide ((c3:Int)<(K:Int))=false:=by simp;omega
 have hw2:R<w2.heap.size:=hrz;have HB3:=h_ (bThen H2.o.b hb3);have HRC:=h_ (show EdgeAt wc R 0 0 none 0 0 from(hb3.block _ hrz).trans H2.o.r);have hcz:=hb3.size;have HTc:=h_ (HT.o.la HB3.o);have HSD:=h_ (show∀D∈(L.map OpV.ps).drop K,SmallD D from fun D hD=>by obtain⟨q,hq,rfl⟩:=List.mem_map.1 (List.mem_of_mem_drop hD);exact⟨(HM.o q hq).len,(HM.o q hq).text⟩);obtain⟨B0,hB0⟩:=q2_ (w2.heap.size);obtain⟨D,hD⟩:=q2_ ((L.map OpV.ps).drop K);rw [←hD]at HSD;go_wp2_with fail
 all_goals(
  refine he_ (fun G=>HearAt B0 wc.heap.size s (h0+1) D (L.length - K) G∧Below wc.heap.size wc G∧G.heap.size=wc.heap.size+1) ⟨by subst hB0 hD;first | exact lr_ hps3 hown3 hK hL3 | exact ot_ hown3 (by omega),bA_,by simp⟩ ?_;rintro G ⟨⟨A4,c4,L4,hps4,hl4,hX,hrow,hfz⟩,hbG,hGz⟩;refine(HD.o G (Sl.la HP.o (bThen HB3.o hbG))).mono ?_;rintro e wd ⟨A2,c2,rfl,hown2,hbd⟩;have hdz:=hbd.size;have HR0:=h_ (show HearR w R B0 wc.heap.size s (h0+1) A4 (L.length - K) c4 L4 A2 ps wd from
   ⟨(hbd.block _ (by omega)).trans hX, ((hbG.trans (hbd.mono hbG.size)).block _ (by omega)).trans HRC.o, bThen (bThen HB3.o hbG) hbd,
     hrow.mv fun b hb=>⟨⟨hb.1,by omega,by omega⟩,hbd.block _ (by omega)⟩,
     (Sl.of_own _ hown2).mv fun b hb => ⟨⟨⟨by omega, hb.2, by omega⟩, by
       rcases Nat.eq_zero_or_pos L4.length with h9 | h9
       · exact .inl h9
       · refine .inr fun e=>?_
         obtain⟨b',o',e',hb',_⟩:=hrow.row.2 h9;rw [e']at e;injection e with e
         have:b'=b:=e;omega⟩,rfl⟩,fun b h9=>⟨by have:=(hfz b h9).1;omega,fun j=>(hbd.frozen (p:=⟨b,j,none⟩) (by have:=(hfz b h9).1;show b<_;omega)).trans ((hfz b h9).2 j)⟩,by omega,by omega,by omega,by omega⟩)
  first
  |guard_hyp vW
   have HG0:=h_ (show hearG false ((L4.take 0).map OpV.ps) ps ((L4.drop 0).map OpV.ps)=hearG false [] ps D by rw [List.take_zero,List.drop_zero,hps4];rfl)
  |have HG0:=h_ (show hearG true ((L4.take 0).map OpV.ps) ps ((L4.drop 0).map OpV.ps)=hearG true [] ps D by rw [List.take_zero,List.drop_zero,hps4];rfl)
  have HSQ:=h_ (show∀q∈L4,SmallD q.ps from fun q hq=>HSD.o _ (by rw [←hps4];exact List.mem_map_of_mem hq));have HSP:=h_ hsp;obtain⟨x0,x1,x2,f0,f1,f2,hxz⟩:=b_ HR0.o.x;have HDD:=h_ hD;clear hX hrow hfz hbG hGz hown2 hbd hps4 hdz hB0 hcz hown3 hb3 hps3 e0 e1 e2 hez r0 r1 r2 q0 q1 q2 hrz a3 a4 hcap hD;go_wp2_with fail
  clear x0 x1 x2 f0 f1 f2 hxz;obtain⟨X,hXe⟩:=q2_ (wc.heap.size);rw [←hXe]at HR0⊢;clear hXe;first
  |guard_hyp vW
   go_loopw [1,68] (fun ov i wr=> ∃(k:Nat) (Q:List OpV) (hA:OA_) (hc:Nat) (hp:LP_),k≤L.length - K∧i= .int .i64 k∧ov= .slice hA hp.length hc∧Q.length=L.length - K∧Hid (hearG false ((Q.take k).map OpV.ps) hp ((Q.drop k).map OpV.ps)=hearG false [] ps D)∧Hid (∀q∈Q,SmallD q.ps)∧Hid (SmallD hp)∧Hid (HearR w R B0 X s (h0+1) A4 (L.length - K) c4 Q hA hp wr)) (fun _ i _=>(L.length - K) - (intOf i).toNat)
  |go_loopw [1,68] (fun ov i wr=> ∃(k:Nat) (Q:List OpV) (hA:OA_) (hc:Nat) (hp:LP_),k≤L.length - K∧i= .int .i64 k∧ov= .slice hA hp.length hc∧Q.length=L.length - K∧Hid (hearG true ((Q.take k).map OpV.ps) hp ((Q.drop k).map OpV.ps)=hearG true [] ps D)∧Hid (∀q∈Q,SmallD q.ps)∧Hid (SmallD hp)∧Hid (HearR w R B0 X s (h0+1) A4 (L.length - K) c4 Q hA hp wr)) (fun _ i _=>(L.length - K) - (intOf i).toNat)
  case atStart=>exact⟨0,L4,A2,c2,ps,Nat.zero_le _,rfl,rfl,hl4,HG0,HSQ,HSP,HR0⟩
  case round=>
   obtain⟨k,Q,hA,hc,hp,hk,rfl,rfl,hQ,HG,HQ,HP2,HR⟩:=hrel;obtain⟨x0,x1,x2,f0,f1,f2,hxz⟩:=b_ HR.o.x;by_cases hlt:k<L.length - K
   ·obtain⟨b,o,rfl,hbs,hcq⟩:=HR.o.row.row.2 (by omega);have c0:wr.cell? ⟨b,o+k,none⟩=some (.slice (Q[k]'(by omega)).A (Q[k]'(by omega)).ps.length (Q[k]'(by omega)).c):=hcq k _ (by rw [List.getElem?_map,List.getElem?_eq_getElem (by omega)];rfl);have hop:=HR.o.row.each (Q[k]'(by omega)) (List.getElem_mem _);have hsq:=HQ.o (Q[k]'(by omega)) (List.getElem_mem _);have HDR:=h_ (show(Q.drop k).map OpV.ps=(Q[k]'(by omega)).ps :: (Q.drop (k+1)).map OpV.ps by rw [List.drop_eq_getElem_cons (by omega)];rfl);generalize hqe:Q[k]'(by omega)=q at*;obtain⟨qA,qc,qp⟩:=q;dsimp only at*;first
    |guard_hyp vW
     have HTF:=h_ (show Calls Tryz.prog 139 #[.slice hA hp.length hc,.slice qA qp.length qc] wr (RetTwo wr (stH false qp hp) (stP false qp hp) (stE false qp hp))from ik_ wr hA qA hc qc hp qp (HT.o.la HR.o.b) (HR.o.o.mv fun b h9=>⟨h9.1.2.1,rfl⟩) (hop.mv fun b h9=>⟨h9.1.2.1,rfl⟩) HP2.o.1 hsq.1 HP2.o.2 hsq.2);by_cases he:stE false qp hp=0
    |have HTF:=h_ (show Calls Tryz.prog 139 #[.slice qA qp.length qc,.slice hA hp.length hc] wr (RetTwo wr (stP true qp hp) (stH true qp hp) (stE true qp hp))from ik_ wr qA hA qc hc qp hp (HT.o.la HR.o.b) (hop.mv fun b h9=>⟨h9.1.2.1,rfl⟩) (HR.o.o.mv fun b h9=>⟨h9.1.2.1,rfl⟩) hsq.1 HP2.o.1 hsq.2 HP2.o.2);by_cases he:stE true qp hp=0
    ·have HGS:=h_ (fs_ (acc:=(Q.take k).map OpV.ps) (ps:=(Q.drop (k+1)).map OpV.ps) he);first
     |guard_hyp vW
      have HN1:=h_ (ks_ false qp hp);have HN2:=h_ (gx_ false qp hp)
     |have HN1:=h_ (ks_ true qp hp);have HN2:=h_ (gx_ true qp hp)
     rw [he]at HTF;first
     |guard_hyp vW
      generalize stP false qp hp=pp at*;generalize stH false qp hp=op at*
     |generalize stP true qp hp=pp at*;generalize stH true qp hp=op at*
     have HOO:=h_ hop;clear hop hcq he hqe;go_wp2_with fail
     refine(HTF.o).mono ?_;first
     |guard_hyp vW
      rintro r w2 ⟨oA,oc,pA,pc,rfl,hO,hP,hb2⟩;skip
     |rintro r w2 ⟨pA,pc,oA,oc,rfl,hP,hO,hb2⟩
     have HR2:=h_ (HR.o.put (c':=pc) hb2 (k:=k) (by omega) hP hO);obtain⟨y0,y1,y2,g0,g1,g2,hyz⟩:=b_ (HR.o.la hb2).x;have c1:=(hb2.cell (p:=⟨b,o+k,none⟩) hbs.2.1).trans c0;have fz:=((HR.o.la hb2).fz b rfl).2 (o+k);clear x0 x1 x2 f0 f1 f2 hxz c0;go_wp2_with fail
     go_roundw
     case rel=>exact⟨k+1,Q.set k ⟨pA,pc,pp⟩,oA,oc,op,by omega,by go_num,rfl,by simp [hQ],h_ (by rw [wn_ (Q:=Q) (show k<Q.length by omega),wm_,←HGS.o,←HDR.o,HG.o]),h_ (fun q hq=>by rcases List.mem_or_eq_of_mem_set hq with hq | rfl;exact HQ.o q hq;exact HN1.o),HN2,HR2⟩
     case measure=>simp [intOf];omega
    ·have HGS:=h_ ((HG.o.symm.trans (by rw [HDR.o])).trans (ft_ (acc:=(Q.take k).map OpV.ps) (ps:=(Q.drop (k+1)).map OpV.ps) he));first
     |guard_hyp vW
      have hne:(stE false qp hp !=0)=true:=(by simpa using he);have HO0:=h_ (show hearOut s (h0+1) ([],[],stE false qp hp)=(0,0,[],[],stE false qp hp)from fu_ he);generalize stE false qp hp=er at*;generalize stP false qp hp=pp at*;generalize stH false qp hp=op at*
     |have hne:(stE true qp hp !=0)=true:=(by simpa using he);have HO0:=h_ (show hearOut s (h0+1) ([],[],stE true qp hp)=(0,0,[],[],stE true qp hp)from fu_ he);generalize stE true qp hp=er at*;generalize stP true qp hp=pp at*;generalize stH true qp hp=op at*
     clear hop hcq he hqe;go_wp2_with fail
     refine(HTF.o).mono ?_;first
     |guard_hyp vW
      rintro r w2 ⟨oA,oc,pA,pc,rfl,hO,hP,hb2⟩;skip
     |rintro r w2 ⟨pA,pc,oA,oc,rfl,hP,hO,hb2⟩
     obtain⟨r0,r1,r2,q0,q1,q2,hrz⟩:=b_ (HR.o.la hb2).r;go_wp2_with fail
     have z0:=b_ (x_ (x:= .slice none 0 0) (bc_ (x:= .int .i64 0) (bd_ (x:= .int .i64 0) (HR.o.la hb2).r)));obtain⟨z0,z1,z2,_,_,_,_⟩:=z0;refine bodyPost_ret (v:= .tuple #[edgeV 0 0 none 0 0,.slice none 0 0,.int .i64 er]) (by simp [results,Tryz.results132,go_sem,z0,z1,z2]) rfl ?_;rw [←HDD.o,HGS.o,HO0.o];exact m229_
   ·obtain rfl:k=L.length - K:=(by omega);first
    |guard_hyp vW
     have HGS:=h_ (show hearG false [] ps D=(Q.map OpV.ps,hp,0) by rw [←HG.o,←hQ,List.take_length,List.drop_length];rfl)
    |have HGS:=h_ (show hearG true [] ps D=(Q.map OpV.ps,hp,0) by rw [←HG.o,←hQ,List.take_length,List.drop_length];rfl)
    have HO0:=h_ (show hearOut s (h0+1) (Q.map OpV.ps,hp,0)=(s,h0+1,Q.map OpV.ps,hp,0)from hg_);obtain⟨r0,r1,r2,q0,q1,q2,hrz⟩:=b_ HR.o.r;go_wp2_with fail
    have z0:=b_ (x_ (x:= .slice A4 (L.length - K) c4) (bc_ (x:= .int .i64 (h0+1)) (bd_ (x:= .int .i64 s) HR.o.r)));obtain⟨z0,z1,z2,_,_,_,_⟩:=z0;refine bodyPost_ret (v:= .tuple #[edgeV s (h0+1) A4 (L.length - K) c4,.slice hA hp.length hc,.int .i64 0]) (by simp [results,Tryz.results132,go_sem,z0,z1,z2]) rfl ?_;rw [←HDD.o,HGS.o,HO0.o];have hRx:R<B0:=HR.o.rz;have hfar: ∀x,x≠R→(((wr.setCell ⟨R,0,none⟩ (.int .i64 s)).setCell ⟨R,1,none⟩ (.int .i64 (h0+1))).setCell ⟨R,2,none⟩ (.slice A4 (L.length - K) c4)).heap[x]?=wr.heap[x]?:=fun x hx=>(bH_ hx).trans ((bH_ hx).trans (bH_ hx));have hsz:(((wr.setCell ⟨R,0,none⟩ (.int .i64 s)).setCell ⟨R,1,none⟩ (.int .i64 (h0+1))).setCell ⟨R,2,none⟩ (.slice A4 (L.length - K) c4)).heap.size=wr.heap.size:=(by simp [World.setCell]);refine⟨A4,c4,Q,hA,hc,by rw [hQ],rfl,(RowE.ops HR.o.row).mv fun x hx=>⟨⟨by have:=hx.1;omega,by rw [hsz];exact hx.2.1⟩,hfar x (by have:=hx.1;omega)⟩,HR.o.o.mv fun x hx=>⟨⟨by have:=hx.1.1;omega,by rw [hsz];exact hx.1.2.1⟩,hfar x (by have:=hx.1.1;omega)⟩,?_⟩;exact bSet (bSet (bSet HR.o.b (p:=⟨R,0,none⟩) (Nat.le_of_lt hRB) _) (p:=⟨R,1,none⟩) (Nat.le_of_lt hRB) _) (p:=⟨R,2,none⟩) (Nat.le_of_lt hRB) _)
 ),P):=⟨@q6_⟩
 exact m273_
 ),P):=⟨@q6_⟩
 exact m122_
 ),P):=⟨@q6_⟩
 exact m140_
 ),P):=⟨@q6_⟩
 exact m198_
 ),P):=⟨@q6_⟩
 exact m103_):P:=h
theorem beq_(w:World)(l:LinkV)(f:FrameV)(hT:Tabs w)(hi:l.In w)(hm:l.Small)(hf:OpIn (· <w.heap.size) w f.o.A f.o.ps)(hfm:f.Small)(hk:linkMay l)(h0:l.e≠0)(he:frameFault f.d=0)(h1:l.n≠1048576):
 Calls Tryz.prog 81 #[l.val,frameV f.k f.h f.e f.o.A f.o.ps.length f.o.c f.s] w (RetSendF w (fillL (waitL l.d f.d)) (fillP (waitL l.d f.d)) 0):=by
 obtain⟨j0,hj0,hy0,hy1,hy2⟩:=info_parts infoFrame;have HC:=h_ (fun W hT hi=>ch_ W l hT hi hm);rw [decide_eq_true hk]at HC;have HF:=h_ (fun W hT hs=>en_ W f.k f.h f.e f.o.A f.o.c f.o.ps f.s hT hs hfm.op.len hfm.op.text hfm.text);rw [show frameFault ⟨f.k,f.h,f.e,f.o.ps,f.s⟩=0 from he]at HF;have HOW:=h_ (fun W hi=>cw_ W l hi hm);have HI:=h_ hi;have HT:=h_ hT;have HO:=h_ hf;have HM:=h_ hm;have HK:=h_ hk;have e0:(l.e==0)=false:=by simpa using h0
 have e1:decide (1048576≤l.n)=false:=by have:=hk.1.2.1.2;simp;omega
 have k247_:K_ (∀(P:Prop) (h:P:=by
 have HCF:=h_ (fun W hs=>dk_ W fk fh fe fA fc fp fs hs hsm);have k84_:K_ (∀(P:Prop) (h:P:=by
 go_enter Tryz.func81,Tryz.ntmps81
 have k67_:K_ (∀(P:Prop) (h:P:=by
 have HF3:=h_ (show FrameAt w3 F fk fh fe fA fp.length fc fs from(HB34.o.block F (by have:=HXE.o;omega)).symm.trans HF4.o);obtain⟨j0',j1',j2',j3',j4',_,_,_,_,_,_⟩:=a_ HF3.o;go_wp2_with fail
 rw [←HW4.o,←HXE.o];clear q0 q1 q2 q3 q4 x0 x1 x2 x3 x4 y0 y1 y2 y3 y4 hxz j0' j1' j2' j3' j4';refine(HCF.o _ (Sl.la HO.o HB4.o)).mono ?_;rintro r w5 ⟨A2,c2,rfl,ho2,hb2⟩;have HX5:=h_ ((hb2.block X (by omega)).trans HX4.o);have HR5:=h_ (show LinkAt w5 R zeroL from(hb2.block _ (by omega)).trans HR4.o);have HB45:=h_ hb2;have HO2:=h_ ho2;have hz5:=hb2.size;clear ho2 hb2;obtain⟨x0,x1,x2,x3,x4,y0,y1,y2,y3,y4,hxz⟩:=a_ HX5.o;go_wp2_with(refine bb_ rfl ?_)
 refine⟨?_⟩;have HXR:=h_ (((HQ3.o.la (bThen HB34.o HB45.o)).row.alloc (.cells #[.int .i64 fk,.int .i64 fh,.int .i64 fe,.slice A2 fp.length c2,.string fs] 46)).alloc (.cells #[.int .i64 fk,.int .i64 fh,.int .i64 fe,.slice A2 fp.length c2,.string fs] 46));refine l_ _ rfl _ _ 56 rfl mid 46 j0 (.agg #[.int .i64 0,.int .i64 0,.int .i64 0,.slice none 0 0,.string ⟨#[]⟩]) 5 64 Tryz.underlying56 hj0 hy0 hy1 hy2 rfl (by decide) _ _ _ rfl HXR.o (fun _=>True) _ _ _ _ rfl (bl_ (by rfl) (by simp)) ?c1 ?c2 ?c3 ?c4 ?_
 case c1=>intro u hu;simp at hu;rcases hu with rfl | rfl | rfl | rfl | rfl <;> rfl
 case c2=>unfold maxLen;omega
 case c3=>omega
 case c4=>have:=HMID.o;have:=HXE.o;simp;omega
 intro A' c' w6 hown' hgrow hat;obtain⟨WQ,hWQ,hgQ,hbQ⟩:=es_ (W4:=w5) hgrow bz_;have hzQ:=hbQ.size;have hqX:(Value.slice qA3 q3'.length qc3).ownBlock≠some X:=fun e1=>by have:=HXE.o;have:=(HQ3.o.row.lt X e1).2;omega
 have HX6:=h_ ((hgQ.block X (by omega) (fun e1=>hqX e1.symm)).trans ((hbQ.block X (by omega)).trans HX5.o));have hX5:=HX5.o;rw [HXE.o]at hX5;have hL:=LinkSt.make (f:=(⟨fk,fh,fe,⟨A2,c2,fp⟩,fs⟩:FrameV)) HS3.o HQ3.o HMID.o (bThen HB34.o (bThen HB45.o hbQ)) ((hbQ.block w3.heap.size (by have:=HXE.o;omega)).trans hX5) (HO2.o.mv fun b hb=>⟨⟨by have:=HXE.o;omega,by omega⟩,hbQ.block b hb.2⟩) hgQ hown' (by rw [hWQ];exact hat);rw [←HXE.o]at hL;have hR6:=(hgQ.block R (by omega) (fun e1=>by have:=(HQ3.o.row.lt R e1.symm).1;have:=HMID.o;omega)).trans ((hbQ.block R (by omega)).trans HR5.o);have hB6:=Below.grown (bThen HB4.o (bThen HB45.o hbQ)) hgQ (by omega) (fun g hg=>by have:=(HQ3.o.row.lt g hg).1;have:=HMID.o;omega);have hz6:=hgQ.size;have hll:(q3'++ [(⟨fk,fh,fe,⟨A2,c2,fp⟩,fs⟩:FrameV)]).length=q3'.length+1:=by simp
 have HD4:=h_ (show LinkV.d ⟨e3,n3,sA3,sc3,s3,A',c',q3'++ [(⟨fk,fh,fe,⟨A2,c2,fp⟩,fs⟩:FrameV)],h3⟩=D from by
  have h5:=HD3.o;rw [HDD.o];simp only [LinkV.d,LinkD.mk.injEq]at h5;obtain⟨a1,a2,a3,a4,a5⟩:=h5;unfold waitL;simp only [LinkV.d,List.map_append,a1,a2,a3,a4,a5];rfl)
 obtain⟨W6,hW6⟩:=q2_ (w6.setCell ⟨X,3,none⟩ (.slice A' (q3'.length+1) c'));rw [←hW6]at hL;have HR6:=h_ (show LinkAt W6 R zeroL by rw [hW6];exact(bH_ (by show R≠X;omega)).trans hR6);have HB6:=h_ (show Below w.heap.size w W6 by rw [hW6];exact bSet hB6 (by show w.heap.size≤X;omega) _);have hz66:X<W6.heap.size:=by rw [hW6];simp [World.setCell];omega
 have HFL:=bca_ w2.heap.size W6 ⟨e3,n3,sA3,sc3,s3,A',c',q3'++ [(⟨fk,fh,fe,⟨A2,c2,fp⟩,fs⟩:FrameV)],h3⟩ hL.inS hL.qcap HN3.o.2 HN3.o.1 (by simp;omega) ⟨HSM.o.1,fun f hf=>by
  rcases List.mem_append.1 hf with hf | hf
  · exact HSM.o.2 f hf
  · obtain rfl:=List.mem_singleton.1 hf
    exact hsm⟩
 rw [HD4.o]at HFL;dsimp only [LinkV.val]at HFL;rw [hll]at HFL;have HFL2:=h_ HFL;have HW6:=h_ hW6;clear HFL hL hR6 hB6 hX5 hown' hgrow hat hWQ hgQ hbQ hzQ hqX hW6 x0 x1 x2 x3 x4 y0 y1 y2 y3 y4 hxz hll;obtain⟨x0,x1,x2,x3,x4,y0,y1,y2,y3,y4,hxz⟩:=a_ HX6.o;go_wp2_with fail
 rw [←HW6.o];refine HFL2.o.mono ?_;rintro r w7 ⟨⟨e5,n5,sA5,sc5,s5,qA5,qc5,q5,h5⟩,A5,c5,L5,rfl,hd5,hp5,hi5,ho5,hb7⟩;have HR7:=h_ (show LinkAt w7 R zeroL from(hb7.block _ (by omega)).trans HR6.o);have HB7:=h_ (bThen HB6.o hb7);have hz7:=hb7.size;have HI5:=h_ hi5;have HO5:=h_ ho5;have HD5:=h_ hd5;have HP5:=h_ hp5;clear hb7 hi5 ho5 hd5 hp5 x0 x1 x2 x3 x4 y0 y1 y2 y3 y4 hxz;obtain⟨r0,r1,r2,r3,r4,t0,t1,t2,t3,t4,hrz⟩:=a_ HR7.o;go_wp2_with fail
 obtain⟨W9,hW9⟩:=q2_ ((((((w7.setCell ⟨R,0,none⟩ (.int .i64 e5)).setCell ⟨R,1,none⟩ (.int .i64 n5)).setCell ⟨R,2,none⟩ (.slice sA5 s5.length sc5)).setCell ⟨R,3,none⟩ (.slice qA5 q5.length qc5)).setCell ⟨R,4,none⟩ (.int .i64 h5)));rw [←hW9];have hO:Only R w7 W9:=by rw [hW9];exact(((q5_.trans q5_).trans q5_).trans q5_).trans q5_
 have hR9:LinkAt W9 R ⟨e5,n5,sA5,sc5,s5,qA5,qc5,q5,h5⟩:=by
  rw [hW9];exact f_ 4 (.int .i64 h5) (f_ 3 (.slice qA5 q5.length qc5) (f_ 2 (.slice sA5 s5.length sc5) (f_ 1 (.int .i64 n5) (f_ 0 (.int .i64 e5) HR7.o))))
 clear hW9 r0 r1 r2 r3 r4;have hRw2:R<w2.heap.size:=by omega
 have hww2:=HB2.o.size;have hI9:LinkV.InS (fun b=>w.heap.size≤b∧b<W9.heap.size) W9 ⟨e5,n5,sA5,sc5,s5,qA5,qc5,q5,h5⟩:=HI5.o.mv fun b hb=>⟨⟨by have:=hb.1;omega,Nat.lt_of_lt_of_le hb.2 hO.size⟩,hO.block b hb.2 (by have:=hb.1;omega)⟩
 have hO9:PksS (fun b=>w.heap.size≤b∧b<W9.heap.size) W9 A5 L5:=⟨(Sl.of_own _ HO5.o.row).mv fun b hb=>⟨⟨by have:=hb.1;omega,Nat.lt_of_lt_of_le hb.2 hO.size⟩,hO.block b hb.2 (by have:=hb.1;omega)⟩,fun p hp=>(HO5.o.each p hp).mv fun b hb=>⟨⟨by have:=hb.1.1;omega,Nat.lt_of_lt_of_le hb.1.2 hO.size⟩,hO.block b hb.1.2 (by have:=hb.1.1;omega)⟩⟩
 have hB9:Below w.heap.size w W9:=HB7.o.trans (hO.below (by omega) (by omega));refine u_ (fun G=>LinkAt G R ⟨e5,n5,sA5,sc5,s5,qA5,qc5,q5,h5⟩∧LinkV.InS (fun b=>w.heap.size≤b∧b<G.heap.size) G ⟨e5,n5,sA5,sc5,s5,qA5,qc5,q5,h5⟩∧PksS (fun b=>w.heap.size≤b∧b<G.heap.size) G A5 L5∧Below w.heap.size w G) ⟨(q_ _ _ _ (a_ hR9).2.2.2.2.2.2.2.2.2.2).trans hR9,hI9.mv fun b hb=>⟨⟨hb.1,by have:=hb.2;simp;omega⟩,q_ _ _ b hb.2⟩,hO9.mv fun b hb=>⟨⟨hb.1,by have:=hb.2;simp;omega⟩,q_ _ _ b hb.2⟩,bAlloc hB9 _⟩ ?_;rintro G ⟨hRG,hIG,hOG,hBG⟩;obtain⟨r0,r1,r2,r3,r4,_,_,_,_,_,_⟩:=a_ hRG;refine bodyPost_ret (v:= .tuple #[(⟨e5,n5,sA5,sc5,s5,qA5,qc5,q5,h5⟩:LinkV).val,.slice A5 L5.length c5,.int .i64 0]) (by simp [results,Tryz.results81,go_sem,r0,r1,r2,r3,r4]) rfl ?_;exact⟨⟨e5,n5,sA5,sc5,s5,qA5,qc5,q5,h5⟩,A5,c5,L5,rfl,HD5.o,HP5.o,hIG,hOG,hBG⟩
 ),P):=⟨@q6_⟩
 exact m67_
 ),P):=⟨@q6_⟩
 exact m84_
 ),P):=⟨@q6_⟩
 exact m247_
theorem bea_(w:World)(s h0:Int)(A:OA_)(c:Nat)(L:List OpV)(HT:Hid (Tabs w))(HS:Hid (OpsIn w A L))(HM:Hid (∀o∈L,o.Small))(B:OA_)(cc:Nat)(ps:LP_)(HP:Hid (OpIn (· <w.heap.size) w B ps))(hd:Int)(hw:wrap64 (s - (L.length:Int))=s - L.length)(_f1:decide (hd<s - (L.length:Int))=false)(_f2:decide (s<hd)=false)(_f3:(h0==1048576)=false)(K:Nat)(hK:K≤L.length)(hK1:wrap64 (hd - (s - (L.length:Int)))=(K:Int))(hh1:wrap64 (h0+1)=h0+1)(hsp:SmallD ps)(_hLm:L.length≤1048576)(HC:Hid (∀W,Tabs W→OpsIn W A L→(∀o∈L,o.Small)→Calls Tryz.prog 122 #[edgeV s h0 A L.length c] W (R_ W (.int .i64 0))))(HF:Hid (∀W,Tabs W→OpIn (· <W.heap.size) W B ps→Calls Tryz.prog 96 #[.slice B ps.length cc] W (R_ W (.int .i64 0))))(HO:Hid (∀W,OpsIn W A L→Calls Tryz.prog 127 #[edgeV s h0 A L.length c] W (RetEdge W s h0 L)))(HD:Hid (∀W,OpIn (· <W.heap.size) W B ps→Calls Tryz.prog 100 #[.slice B ps.length cc] W fun e w'=> ∃A2 c2,e= .returned (.slice A2 ps.length c2)∧w'.ownsRow W.heap.size 73 3 (.slice A2 ps.length c2) ps.length (opCells ps)∧Below W.heap.size W w')):
 Calls Tryz.prog 132 #[edgeV s h0 A L.length c,.slice B ps.length cc,.int .i64 hd,.bool true] w (RetHear w (hearOut s (h0+1) (hearG true [] ps ((L.map OpV.ps).drop K)))):=by
 exact m13_
end Go.Proofs.YtacacoklddogmaaGreatDoor
