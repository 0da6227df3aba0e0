/- Lemmas. -/
import Derived.Test.YtacacoklddogmaaGreatDoorKJAB
import Derived.BigRegion
import Derived.Deep.RegionHeld3
import Derived.Deep.DeepCutAuto
namespace Go.Proofs.YtacacoklddogmaaGreatDoor
set_option maxHeartbeats 4000000
open Go.ChangeShapes Go.WideShapes Go.ChangeAt Go.RowKit
set_option maxRecDepth 100000
theorem m63_{P:Prop}(h:P:=by
 refine ht_ 20 40 hHeld ?_;simp only [q3_,q4_];refine wpAnyH_ready (rs:= [21,26]) (by kernel_rfl) (by simp) (AllReadyH.cons rfl (fun K hK=>?_) (AllReadyH.cons rfl (fun K hK=>?_) AllReadyH.nil))
 ·go_simp;go_at_call 118;(with_reducible refine(HE.o _ ?_ ?_ ?_).mono ?_);exact(HT.o _ HBW.o).la bz_;exact HLI.o.la bz_;exact Sl.la HOF.o bz_;rintro r w2 ⟨A1,c1,L1,B1,cc1,rfl,hL1,hs1,ho1,hb2⟩;have HB2:Below WA.heap.size WA w2:=bThen bz_ hb2
  (refine hK.o _ _ (HSB.o _ bf_) (fun hHeld=>?_));clear hK K;try simp only [q3_,q4_]
  refine ht_ 22 19 hHeld ?_;simp only [q3_,q4_];refine ht_ 23 42 hHeld ?_;simp only [q3_,q4_];refine ht_ 24 43 hHeld ?_;simp only [q3_,q4_];refine ht_ 25 44 hHeld ?_;simp only [q3_,q4_];exact m123_
 ·go_simp
  (refine hK.o _ _ (HSB.o _ bz_) (fun hHeld=>?_));clear hK K;try simp only [q3_,q4_]
  refine wpAnyH_ready (rs:= [21]) (by kernel_rfl) (by simp) (AllReadyH.cons rfl (fun K hK=>?_) AllReadyH.nil);go_simp;go_at_call 118;(with_reducible refine(HE.o _ ?_ ?_ ?_).mono ?_);exact(HT.o _ HBW.o).la bz_;exact HLI.o.la bz_;exact Sl.la HOF.o bz_;rintro r w2 ⟨A1,c1,L1,B1,cc1,rfl,hL1,hs1,ho1,hb2⟩;have HB2:Below WA.heap.size WA w2:=bThen bz_ hb2
  have k268_:K_ (∀(P:Prop) (h:P:=by
  refine ht_ 22 19 hHeld ?_;simp only [q3_,q4_];refine ht_ 23 42 hHeld ?_;simp only [q3_,q4_];refine ht_ 24 43 hHeld ?_;simp only [q3_,q4_];refine ht_ 25 44 hHeld ?_;simp only [q3_,q4_];exact m109_
  ),P):=⟨@q6_⟩
  exact m268_):P:=h
theorem m136_{P:Prop}(h:P:=by
 refine ht_ 0 20 hHeld ?_;simp only [q3_,q4_];refine ht_ 1 21 hHeld ?_;simp only [q3_,q4_];refine ht_ 2 22 hHeld ?_;simp only [q3_,q4_];refine ht_ 3 23 hHeld ?_;simp only [q3_,q4_];refine ht_ 4 24 hHeld ?_;simp only [q3_,q4_];refine ht_ 5 25 hHeld ?_;simp only [q3_,q4_];refine ht_ 6 26 hHeld ?_;simp only [q3_,q4_];refine ht_ 7 27 hHeld ?_;simp only [q3_,q4_];refine ht_ 8 28 hHeld ?_;simp only [q3_,q4_];refine ht_ 9 29 hHeld ?_;simp only [q3_,q4_];refine ht_ 10 30 hHeld ?_;simp only [q3_,q4_];refine ht_ 11 31 hHeld ?_;simp only [q3_,q4_];refine ht_ 12 32 hHeld ?_;simp only [q3_,q4_];refine ht_ 13 33 hHeld ?_;simp only [q3_,q4_];refine ht_ 14 34 hHeld ?_;simp only [q3_,q4_];refine ht_ 15 35 hHeld ?_;simp only [q3_,q4_];refine ht_ 16 36 hHeld ?_;simp only [q3_,q4_];refine ht_ 17 37 hHeld ?_;simp only [q3_,q4_];exact k136_.o _):P:=h
theorem bfa_(w:World)(base X:Nat)(s:EdV)(i:Nat)(hi:i<s.n.S.length)(f:FrameV)(hT: ∀W,Below base w W->Tabs W)(h:EdAt 35 w base X s)(hf:OpIn (Off w X s) w f.o.A f.o.ps)(hfm:SmallD f.o.ps)(hS:s.n.Small)(hL:s.L.length<=1000000000)(hR:s.RL.length<=1048576):Calls Tryz.prog 80 #[.pointer (some ⟨X,0,none⟩),.int .i64 i,frameV f.k f.h f.e f.o.A f.o.ps.length f.o.c f.s] w (Goes 35 base X w s (heardDD s.d i f.d)):=by
 have k70_:K_ (∀(P:Prop) (h:P:=by
 have HE:=h_ (fun W (hT:Tabs W) (ks:OpsIn W s.n.S[i].A s.n.S[i].L) (ho:OpIn (· <W.heap.size) W f.o.A f.o.ps)=>beb_ W s.n.S[i].s s.n.S[i].h s.n.S[i].A s.n.S[i].c s.n.S[i].L hT ks HSI.o.ops HSI.o.len f.o.A f.o.c f.o.ps ho hfm f.h up);obtain⟨r0,hr0⟩:=q2_ (hearAns s.n.S[i].s s.n.S[i].h s.n.S[i].L f.o.ps f.h up);rw [<-hr0]at HE;have HR0:=h_ hr0;have HRS:=h_ (show HearSmall s.n.S[i].L r0 by rw [hr0];exact ha_ hfm);clear hcs hr hWA hT h hf hfm hS hL hR hg hr0 hup;go_enter Tryz.func80,Tryz.ntmps80
 go_wp2_with fail
 rw [HW.o];go_cut [7,8,9] (fun sx so se G=> ∃(B:Nat) (eA:OA_) (ec:Nat) (eL:List OpV) (oA:OA_) (oc:Nat),sx= .pointer (some ⟨B,0,none⟩)∧so= .slice oA r0.2.2.2.1.length oc∧se= .int .i64 r0.2.2.2.2∧eL.map OpV.ps=r0.2.2.1∧Below WA.heap.size WA G∧WA.heap.size<=B∧EdgeAt G B r0.1 r0.2.1 eA eL.length ec∧OpsS (fun b=>WA.heap.size<=b∧b<G.heap.size) G eA eL∧OpIn (fun b=>WA.heap.size<=b∧b<G.heap.size) G oA r0.2.2.2.1)
 case first=>
  by_cases hme:s.n.me=0
  ·have hmb:(s.n.me==0)=true:=(by simpa using hme);obtain rfl:up=true:=(by rw [HUP.o];simp [hme]);have k93_:K_ (∀(P:Prop) (h:P:=by
   have k136_:K_ (∀(P:Prop) (h:P:=by
   refine cp_ 18 38 rfl rfl (Or.inr ⟨by go_simp,rfl⟩) hHeld ?_ (fun _ _ _ h=>h);simp only [q3_,q4_];refine cp_ 19 39 rfl rfl (Or.inr ⟨by go_simp,rfl⟩) hHeld ?_ (fun _ _ _ h=>h);simp only [q3_,q4_];exact m63_
   ),P):=⟨@q6_⟩
   exact m136_
   ),P):=⟨@q6_⟩
   exact m93_
  ·have hmb:(s.n.me==0)=false:=(by simpa using hme);have hgt:decide (0<i)=up:=(by rw [HUP.o];simp [hme]);have k93_:K_ (∀(P:Prop) (h:P:=by
   have k136_:K_ (∀(P:Prop) (h:P:=by
   refine cp_ 18 38 (v:=?_) rfl rfl (Or.inl ⟨by go_simp,?_⟩) hHeld ?_ (fun _ _ _ h=>h);rotate_left;(intro w9 hS9;go_simp;try with_reducible rfl);simp only [q3_,q4_];refine cp_ 19 39 (v:=?_) rfl rfl (Or.inl ⟨by go_simp,?_⟩) hHeld ?_ (fun _ _ _ h=>h);rotate_left;(intro w9 hS9;go_simp;try with_reducible rfl);simp only [q3_,q4_];exact m63_
   ),P):=⟨@q6_⟩
   exact m136_
   ),P):=⟨@q6_⟩
   exact m93_
 have k114_:K_ (∀(P:Prop) (h:P:=by
 have HAP:=h_ (fun W hT hs=>bbb_ W s.n.t oA oc op hT hs HRS.o.op.1 HRS.o.op.2 HS.o.text);have k82_:K_ (∀(P:Prop) (h:P:=by
 have hgX: ¬g=X:=fun e=>s_ HT2.o.1.busy.srow HT2.o.1.busy.blk bn_.s (by rw [HG.o,e];rfl);have k227_:K_ (∀(P:Prop) (h:P:=by
 have HR1:=h_ ((HT2.o.1.setEdgeT bn_ hi HG.o es eh eA ec eL HS2.o));have HA1:=h_ (HR1.o.trans (EdAt.setText bn_ HR1.o.1 (applyText s.n.t op)));clear hr hlen fr hi hrA hgA hXB;go_wp2_with fail
 go_cut [] (fun G=>Turns 35 base X w2 s G (s.edge i es eh eA ec eL))
 case first=>
  go_region
  all_goals(
   go_wp2_with fail
   go_meet
   exact HR1.o.la (Below.drew (Below.refl _ _)))
 rename World=>w2b
 have HCB:=h_ hcut;clear hcut x4 x5 f4x b0 b1 b2 bz e2 e3 e4 f2 f3 f4 hBg hgB hBX hXB' hgX hXg xz;obtain⟨_,_,_,_,x4,_,_,_,_,_,xz⟩:=j_ HCB.o.1.busy.blk;have f4x:=tenF HCB.o.1.busy.blk 4;have hcut:=HCB.o.trans (EdAt.setText bn_ HCB.o.1 (applyText s.n.t op));have k161_:K_ (∀(P:Prop) (h:P:=by
 refine(bdi_ _ base X ((s.edge i es eh eA ec eL).withT (applyText s.n.t op)) oA oc op false (fun W hb=>HT.o W (HC.o.2.1.trans hb)) HC.o.1 HO3.o HRS.o.op.1 HRS.o.op.2 HS.o.ml).mono ?_;have k176_:K_ (∀(P:Prop) (h:P:=by
 have hw0:wrap64 ((s3.n.U.length:Int) - 1)=(s3.n.U.length:Int) - 1:=by have:=(mapLen HU3.o);have:=HS.o.ul;unfold wrap64;omega
 obtain⟨_,_,_,_,_,_,x6,_,_,_,xz⟩:=j_ HK3.o.1.busy.blk;go_wp2_with fail
 have HFIN:Hid (∀(w5:World) (s4:EdV),Turns 35 base X w4 s3 w5 s4->s4.d=overDD op s3.d->Calls Tryz.prog 66 #[.pointer (some ⟨X,0,none⟩),.slice oA op.length oc,.int .i64 i] w5 fun e w'=>e= .returned (.tuple #[])∧ ∃s5,Hid (Turns 35 base X w s w' s5)∧Hid (s5.d=heardDD s.d i f.d)):=h_ (fun w5 s4 h4 hd4=>by
  have hk4:=HK3.o.trans h4;have he4:s4.n.S.map SideV.d=((s.edge i es eh eA ec eL).withT (applyText s.n.t op)).n.S.map SideV.d∧s4.L.length=s.L.length∧s4.RL.length=s.RL.length:=⟨(congrArg (fun d:EdD=>d.n.S) hd4).trans HE3.o.1,(mapLen (congrArg EdD.L hd4)).trans HE3.o.2.1,(mapLen (congrArg EdD.R hd4)).trans HE3.o.2.2⟩
  refine(bdu_ w5 base X s4 i oA oc op (fun W hb=>HT.o W (hk4.2.1.trans hb)) hk4.1 (HO4.o.mv fun b hb=>h4.2.2 b hb) HRS.o.op.1 HRS.o.op.2 (by rw [mapLen he4.1,HSL.o];exact HS.o.sl) (md_ he4.1 HSM.o) (by rw [he4.2.1];exact HLR.o.1) (by rw [he4.2.2];exact HLR.o.2)).mono ?_;rintro r w6 ⟨rfl,s5,k1,k2,k3,k4⟩;exact⟨rfl,s5,h_ (hk4.trans ⟨k1,k3,k4⟩),h_ (by rw [k2,hd4,HD3.o,HD.o])⟩)
 go_loopw [11,12] (fun ov i wr=> ∃(z:Int) (k:Nat) (U:List OpV) (pA:OA_) (pc:Nat) (q:LP_),z+1=(k:Int)∧k<=s3.n.U.length∧i= .int .i64 z∧ov= .slice pA q.length pc∧Hid (U.length=s3.n.U.length)∧Hid (Turns 35 base X w4 s3 wr (s3.withU s3.n.uA s3.n.uc U))∧Hid (OpIn (Off wr X (s3.withU s3.n.uA s3.n.uc U)) wr pA q)∧Hid (SmallD q)∧Hid (overG q (U.map OpV.ps) k=overG op s3.d.n.U s3.d.n.U.length)∧Hid (∀u∈U,SmallD u.ps)) (fun _ i _=>(intOf i+1).toNat)
 case atStart=>exact⟨(s3.n.U.length:Int) - 1,s3.n.U.length,s3.n.U,oA,oc,op,by omega,Nat.le_refl _,by rw [hw0],rfl,h_ rfl,h_ (Turns.of_below HK3.o.1 (Below.refl _ _)),HO4,h_ HRS.o.op,h_ (by show _=overG op (s3.n.U.map OpV.ps) (s3.n.U.map OpV.ps).length;rw [List.length_map]),h_ (sg_ HU3.o HS.o.undo)⟩
 case round=>
  obtain⟨z,k,U,pA,pc,q,hzk,hk,rfl,rfl,HUL,HR,HO,HSO,HGG,HUS⟩:=hrel;clear x6 xz hw0;obtain⟨_,_,_,_,_,_,x6,_,_,_,xz⟩:=j_ HR.o.1.busy.blk;replace x6:wr.cell? ⟨X,6,none⟩=some (.slice s3.n.uA U.length s3.n.uc):=x6
  have f6:=tenF HR.o.1.busy.blk 6;cases k with
  | zero=>
   obtain rfl:z= -1:=(by omega);have HGE:=h_ (show U.map OpV.ps=overG op s3.d.n.U s3.d.n.U.length from HGG.o);go_wp2_with fail
   refine(HFIN.o _ _ HR.o (EdD.ext' (show(⟨_,_,_,_,_,_,U.map OpV.ps,_⟩:NodeD)=_ by rw [HGE.o];rfl) rfl rfl)).mono ?_;rintro r w6 ⟨rfl,s5,HK5,HD5⟩;go_wp2_with fail
   exact bodyPost_end (results_none rfl _ _ _) rfl ⟨rfl,s5,HK5.o.1,HD5.o,HK5.o.2.1,HK5.o.2.2⟩
  | succ k=>
   obtain rfl:z=(k:Int):=(by omega);have hkU:k<U.length:=(by have:=HUL.o;omega);obtain⟨gu,hgu⟩: ∃gu,s3.n.uA=some ⟨gu,0,none⟩:=by
    obtain⟨gu,cap,hv,_,_⟩:=HK3.o.1.urow.form (by omega);exact⟨gu,by injection hv⟩
   have hur:=HR.o.1.urow;have h9:wr.ownsRow base 30 1 (.slice s3.n.uA U.length s3.n.uc) U.length (U.map OpV.val):=hur;rw [hgu]at h9;have c0:wr.cell? ⟨gu,k,none⟩=some (.slice U[k].A U[k].ps.length U[k].c):=by
    rw [h9.cellAt k (by omega),List.getElem?_map,List.getElem?_eq_getElem hkU];rfl
   have fg:wr.frozen? ⟨gu,k,none⟩=false:=h9.frozenAt k;have hgl:base<=gu∧gu<wr.heap.size:=hur.lt gu (by show(Value.slice s3.n.uA _ _).ownBlock=some gu;rw [hgu];rfl);have huX: ¬gu=X:=fun e=>s_ HR.o.1.urow HR.o.1.busy.blk bn_.u (by show(Value.slice s3.n.uA _ _).ownBlock=some X;rw [hgu,e];rfl);have hXu: ¬X=gu:=fun e=>huX e.symm;rw [hgu]at x6;have HGU:=h_ hgu;have HGD:=h_ (show(U.map OpV.ps).getD k []=U[k].ps by rw [List.getD_eq_getElem?_getD,List.getElem?_map,List.getElem?_eq_getElem hkU];rfl);have HKU:=h_ hkU;have HUP:=h_ (HUS.o _ (List.getElem_mem hkU));have HUI:=h_ (show OpIn (· <wr.heap.size) wr U[k].A U[k].ps from(HR.o.1.undo _ (List.getElem_mem hkU)).mv fun b hb=>⟨hb.1.2,rfl⟩);have hul:(k:Int)<(U.length:Int):=(by omega);have hw2:wrap64 ((k:Int) - 1)=(k:Int) - 1:=(by have:=HUL.o;have:=(mapLen HU3.o);have:=HS.o.ul;unfold wrap64;omega);clear hur h9 hgu;generalize U[k]=u at*;obtain⟨qA,qc,qp⟩:=u;dsimp only at c0;go_wp2_with fail
   refine(gz_ wr pA qA pc qc q qp (HT.o _ (HK3.o.2.1.trans HR.o.2.1)) (HO.o.mv fun b hb=>⟨hb.lt,rfl⟩) HUI.o HSO.o.1 HUP.o.1 HSO.o.2 HUP.o.2).mono ?_;rintro r w5 ⟨A1,c1,A2,c2,rfl,ho1,ho2,hb5⟩;have HR2:=h_ (HR.o.la hb5);have x6b:=(hb5.cell (p:=⟨X,6,none⟩) HR.o.1.busy.lt).trans x6;have f6b:=tenF HR2.o.1.busy.blk 6;have HB5:=h_ hb5;have HO1:=h_ ((Sl.of_own _ ho1).mv (S':=Off w5 X (s3.withU s3.n.uA s3.n.uc U)) (w':=w5) fun b hb=>⟨EdAt.fresh HR.o.1 hb.1 hb.2,rfl⟩);have HO2:=h_ ((Sl.of_own _ ho2).mv (S':=fun b=>wr.heap.size<=b∧b<w5.heap.size) (w':=w5) fun b hb=>⟨hb,rfl⟩);have fgb:=(hb5.frozen (p:=⟨gu,k,none⟩) hgl.2).trans fg;have c0b:=(hb5.cell (p:=⟨gu,k,none⟩) hgl.2).trans c0;clear x6 f6 fg c0 ho1 ho2 hb5;by_cases he:trE q qp=0
   · have HE:=h_ he
     rw [he];go_wp2_with fail
     obtain⟨k1,k2,k3,k4⟩:=EdAt.setUndo (k:=k) bn_ HR2.o.1 HGU.o ⟨A2,c2,trR q qp⟩ (HO2.o.mv fun b hb=>⟨EdAt.freshX HR.o.1 hb.1 hb.2,rfl⟩);obtain⟨W3,hW3⟩:=q2_ (w5.setCell ⟨gu,k,none⟩ (.slice A2 (trR q qp).length c2));rw [show w5.setCell ⟨gu,k,none⟩ (OpV.val ⟨A2,c2,trR q qp⟩)=W3 from hW3.symm]at k1 k2 k4;have HTU:=h_ (HR2.o.trans (show Turns 35 base X w5 (s3.withU s3.n.uA s3.n.uc U) W3 (s3.withU s3.n.uA s3.n.uc (U.set k ⟨A2,c2,trR q qp⟩))from⟨k1,k4.below HR2.o.1 k2.os k2.tape k2.output k2.size,k4⟩));rw [<-hW3];have HOD:=h_ (HO1.o.mv fun b hb=>k4 b hb);clear hW3 k1 k2 k3 k4;go_roundw
     case rel=>
      refine⟨(k:Int) - 1,k,U.set k ⟨A2,c2,trR q qp⟩,A1,c1,trL q qp,by omega,by omega,by rw [hw2],rfl,h_ (by rw [List.length_set];exact HUL.o),HTU,HOD,h_ (ih_ _ _),h_ ?_,h_ (fun u hu=>?_)⟩
      · rw [List.map_set,<-HGG.o,jl_ (by rw [HGD.o];exact HE.o),HGD.o]
      · rcases List.mem_or_eq_of_mem_set hu with hu | rfl
        · exact HUS.o u hu
        · exact gy_ _ _
     case measure=>simp [intOf,hw2]
   · have hne:(trE q qp !=0)=true:=by simpa using he
     have HNE:=h_ he;clear he;go_wp2_with fail
     obtain⟨k1,k2,k3⟩:=EdAt.noUndo bn_ HR2.o.1;refine(HFIN.o _ _ (HR2.o.trans ⟨k1,k2,k3⟩) (EdD.ext' (show(⟨_,_,_,_,_,_,[],_⟩:NodeD)=⟨_,_,_,_,_,_,overG op s3.d.n.U s3.d.n.U.length,_⟩ by rw [<-HGG.o,jm_ (by rw [HGD.o];exact HNE.o)];rfl) rfl rfl)).mono ?_;rintro r w6 ⟨rfl,s5,HK5,HD5⟩;go_wp2_with fail
     exact bodyPost_end (results_none rfl _ _ _) rfl ⟨rfl,s5,HK5.o.1,HD5.o,HK5.o.2.1,HK5.o.2.2⟩
 ),P):=⟨@q6_⟩
 exact m176_
 ),P):=⟨@q6_⟩
 exact m161_
 ),P):=⟨@q6_⟩
 exact m227_
 ),P):=⟨@q6_⟩
 exact m82_
 ),P):=⟨@q6_⟩
 exact m114_
 ),P):=⟨@q6_⟩
 exact m70_
end Go.Proofs.YtacacoklddogmaaGreatDoor
