/- Lemmas. -/
import Derived.Test.YtacacoklddogmaaGreatDoorKJAZ
import Derived.Test.YtacacoklddogmaaGreatDoorKJBE
import Derived.BigRegion
import Derived.Deep.RegionHeld3
import Derived.Deep.DeepCutAuto
namespace Go.Proofs.YtacacoklddogmaaGreatDoor
set_option maxHeartbeats 4000000
open Go.ChangeShapes Go.WideShapes Go.ChangeAt Go.RowKit
set_option maxRecDepth 100000
theorem m74_{P:Prop}(h:P:=by
 refine wpAnyH_ready (rs:= [14]) (by kernel_rfl) (by simp) (AllReadyH.cons rfl (fun K hK=>?_) AllReadyH.nil);go_simp
 refine hK.o _ _ ?_ (fun hHeld=>?_)
 ·exact q1_
 clear hK K;try simp only [q3_,q4_]
 refine wpAnyH_ready (rs:= [15]) (by kernel_rfl) (by simp) (AllReadyH.cons rfl (fun K hK=>?_) AllReadyH.nil);go_simp
 refine hK.o _ _ ?_ (fun hHeld=>?_)
 ·exact q1_
 clear hK K;try simp only [q3_,q4_]
 refine ht_ 16 9 hHeld ?_;simp only [q3_,q4_];refine ht_ 17 10 hHeld ?_;simp only [q3_,q4_];refine ht_ 18 11 hHeld ?_;simp only [q3_,q4_];refine wpAnyH_done (by kernel_rfl) ?_ _;go_wp2_with fail
 exact k74_.o _):P:=h
theorem m108_{P:Prop}(h:P:=by
 refine hK.o _ _ ?_ (fun hHeld=>?_)
 ·exact q1_
 clear hK K;try simp only [q3_,q4_]
 refine ht_ 6 19 hHeld ?_;simp only [q3_,q4_];refine ht_ 7 26 hHeld ?_;simp only [q3_,q4_];refine ht_ 8 27 hHeld ?_;simp only [q3_,q4_];refine ht_ 9 28 hHeld ?_;simp only [q3_,q4_];refine ht_ 10 29 hHeld ?_;simp only [q3_,q4_];refine ht_ 11 30 hHeld ?_;simp only [q3_,q4_];exact k108_.o _):P:=h
theorem m147_{P:Prop}(h:P:=by
 go_simp;go_at_call 73;(refine(HE.o _ ((HT.o _ HTU.o.2.1).la hHeld) (HLI.o.la hHeld) (Sl.la HOF.o hHeld)).mono ?_);rintro r w2 ⟨l2,fA2,fc2,A2,c2,K2,rfl,hd2,hk2,hl2,ho2,hp2,hb2⟩;have HB2:=bThen hHeld hb2
 exact k147_.o _):P:=h
section
variable(w:World) (base X:Nat) (s:EdV) (i:Nat) (hi:i<s.n.S.length) (p:PacketV) (hT: ∀W,Below base w W->Tabs W) (h:EdAt 71 w base X s) (hf:OpIn (Off w X s) w p.f.o.A p.f.o.ps) (hfm:p.f.Small) (he:packetFault p.d=0)
include w base X s i hi p hT h hf hfm he
theorem bdh_(hk:linkMay s.n.S[i].k)(h0:s.n.S[i].k.e≠0)(h1:p.ep=s.n.S[i].k.e)(hS:s.n.Small)(hL:s.L.length<=100000000)(hR:s.RL.length<=1048576):
 Calls Tryz.prog 32 #[.pointer (some ⟨X,0,none⟩),.int .i64 i,packetV p.ep p.nu p.b p.ak p.f.k p.f.h p.f.e p.f.o.A p.f.o.ps.length p.f.o.c p.f.s] w (Goes 71 base X w s (sessDD s.d i p.d)):=by
 have k94_:K_ (∀(P:Prop) (h:P:=by
 have HSD:=h_ (sn_ (p:=p.d) hi);have HSM:=h_ (jp_ (p:=p) hk (hS.sides _ (List.getElem_mem hi)).link hfm);have HPL:=h_ (gn_ s.n.S[i].k.d p.d);have HE:=h_ (fun W (hT:Tabs W) (ki:s.n.S[i].k.In W) (ho:OpIn (· <W.heap.size) W p.f.o.A p.f.o.ps)=>bgg_ W s.n.S[i].k p hT ki (hS.sides _ (List.getElem_mem hi)).link ho hfm hk he h0 h1);have k62_:K_ (∀(P:Prop) (h:P:=by
 go_enter Tryz.func32,Tryz.ntmps32
 go_wp2_with fail
 rw [HW.o];refine(cm_ _ X).mono ?_;rintro r w1 ⟨rfl,rfl⟩;go_wp2_with fail
 go_cut [7,8,9,10,11] (fun sl sf st sp se G=>SessRel WA LD FD told PD sl sf st sp se G)
 case first=>
  clear x0 x1 x2 x3 x4 x6 x7 x8 x9 HFA HSD HSM HPL HW;refine wp_region_held_drew (S:=fun w'=>Below WA.heap.size WA w') (by kernel_rfl) (Below.drew (Below.refl _ _)) (fun hHeld=>?_);refine ht_ 0 20 hHeld ?_;simp only [q3_,q4_];refine ht_ 1 21 hHeld ?_;simp only [q3_,q4_];refine ht_ 2 22 hHeld ?_;simp only [q3_,q4_];refine cp_ 3 23 (v:=?_) rfl rfl (Or.inl ⟨by rfl,?_⟩) hHeld ?_ (fun _ _ _ h=>h);rotate_left;(intro w9 hS9;have hS9:=HSB.o w9 hS9;go_simp;try with_reducible rfl);simp only [q3_,q4_];refine cp_ 4 24 (v:=?_) rfl rfl (Or.inl ⟨by rfl,?_⟩) hHeld ?_ (fun _ _ _ h=>h);rotate_left;(intro w9 hS9;have hS9:=HSB.o w9 hS9;go_simp;try with_reducible rfl);simp only [q3_,q4_];refine wpAnyH_ready (rs:= [5,12,13]) (by kernel_rfl) (by simp) (AllReadyH.cons rfl (fun K hK=>?_) (AllReadyH.cons rfl (fun K hK=>?_) (AllReadyH.cons rfl (fun K hK=>?_) AllReadyH.nil)))
  ·have k147_:K_ (∀(P:Prop) (h:P:=by
   have k108_:K_ (∀(P:Prop) (h:P:=by
   refine wpAnyH_ready (rs:= [12,13]) (by kernel_rfl) (by simp) (AllReadyH.cons rfl (fun K hK=>?_) (AllReadyH.cons rfl (fun K hK=>?_) AllReadyH.nil))
   ·go_simp
    refine hK.o _ _ ?_ (fun hHeld=>?_)
    ·exact q1_
    clear hK K;try simp only [q3_,q4_]
    refine wpAnyH_ready (rs:= [13]) (by kernel_rfl) (by simp) (AllReadyH.cons rfl (fun K hK=>?_) AllReadyH.nil);go_simp
    refine hK.o _ _ ?_ (fun hHeld=>?_)
    ·exact q1_
    clear hK K;try simp only [q3_,q4_]
    have k74_:K_ (∀(P:Prop) (h:P:=by
    go_meet
    with_reducible exact yv_ HB2 (by simp) hd2 hk2 hl2 ho2 hp2
    ),P):=⟨@q6_⟩
    exact m74_
   ·go_simp
    refine hK.o _ _ ?_ (fun hHeld=>?_)
    ·exact q1_
    clear hK K;try simp only [q3_,q4_]
    refine wpAnyH_ready (rs:= [12]) (by kernel_rfl) (by simp) (AllReadyH.cons rfl (fun K hK=>?_) AllReadyH.nil);go_simp
    refine hK.o _ _ ?_ (fun hHeld=>?_)
    ·exact q1_
    clear hK K;try simp only [q3_,q4_]
    have k74_:K_ (∀(P:Prop) (h:P:=by
    go_meet
    with_reducible exact yw_ HB2 (by simp) hd2 hk2 hl2 ho2 hp2
    ),P):=⟨@q6_⟩
    exact m74_
   ),P):=⟨@q6_⟩
   exact m108_
   ),P):=⟨@q6_⟩
   exact m147_
  ·go_simp
   refine hK.o _ _ ?_ (fun hHeld=>?_)
   ·exact q1_
   clear hK K;try simp only [q3_,q4_]
   refine wpAnyH_ready (rs:= [5,13]) (by kernel_rfl) (by simp) (AllReadyH.cons rfl (fun K hK=>?_) (AllReadyH.cons rfl (fun K hK=>?_) AllReadyH.nil))
   ·have k147_:K_ (∀(P:Prop) (h:P:=by
    have HL0:w2.heap[WA.heap.size]?=some (.cells #[.int .i64 0,.int .i64 0,.slice none 0 0,.slice none 0 0,.int .i64 0] 58 (0,0)):=(hb2.block _ (by simp)).trans (World.alloc_heap_new _ _);obtain⟨z0,z1,z2,z3,z4,y0,y1,y2,y3,y4,zz⟩:=a_ HL0;have k108_:K_ (∀(P:Prop) (h:P:=by
    refine wpAnyH_ready (rs:= [13]) (by kernel_rfl) (by simp) (AllReadyH.cons rfl (fun K hK=>?_) AllReadyH.nil);go_simp
    refine hK.o _ _ ?_ (fun hHeld=>?_)
    ·exact q1_
    clear hK K;try simp only [q3_,q4_]
    have k74_:K_ (∀(P:Prop) (h:P:=by
    go_meet
    with_reducible exact yx_ HB2 (by simp) hd2 hk2 hl2 ho2 hp2 HL0 ⟨Nat.le_refl _,by simp⟩
    ),P):=⟨@q6_⟩
    exact m74_
    ),P):=⟨@q6_⟩
    exact m108_
    ),P):=⟨@q6_⟩
    exact m147_
   ·go_simp
    refine hK.o _ _ ?_ (fun hHeld=>?_)
    ·exact q1_
    clear hK K;try simp only [q3_,q4_]
    refine wpAnyH_ready (rs:= [5]) (by kernel_rfl) (by simp) (AllReadyH.cons rfl (fun K hK=>?_) AllReadyH.nil);have k147_:K_ (∀(P:Prop) (h:P:=by
    have k178_:K_ (∀(P:Prop) (h:P:=by
    have k108_:K_ (∀(P:Prop) (h:P:=by
    have k74_:K_ (∀(P:Prop) (h:P:=by
    go_meet
    with_reducible exact la_ HB2 (by simp) hd2 hk2 hl2 ho2 hp2 HL0 HF1 ⟨⟨Nat.le_refl _,by simp⟩,⟨by omega,by simp⟩,by omega⟩
    ),P):=⟨@q6_⟩
    exact m74_
    ),P):=⟨@q6_⟩
    exact m108_
    ),P):=⟨@q6_⟩
    exact m178_
    ),P):=⟨@q6_⟩
    exact m147_
  ·go_simp
   refine hK.o _ _ ?_ (fun hHeld=>?_)
   ·exact q1_
   clear hK K;try simp only [q3_,q4_]
   refine wpAnyH_ready (rs:= [5,12]) (by kernel_rfl) (by simp) (AllReadyH.cons rfl (fun K hK=>?_) (AllReadyH.cons rfl (fun K hK=>?_) AllReadyH.nil))
   ·have k147_:K_ (∀(P:Prop) (h:P:=by
    have HF0:w2.heap[WA.heap.size]?=some (.cells #[.int .i64 0,.int .i64 0,.int .i64 0,.slice none 0 0,.string ⟨#[]⟩] 46 (0,0)):=(hb2.block _ (by simp)).trans (World.alloc_heap_new _ _);obtain⟨t0,t1,t2,t3,t4,k0,k1,k2,k3,k4,tz⟩:=a_ HF0;have k108_:K_ (∀(P:Prop) (h:P:=by
    refine wpAnyH_ready (rs:= [12]) (by kernel_rfl) (by simp) (AllReadyH.cons rfl (fun K hK=>?_) AllReadyH.nil);go_simp
    refine hK.o _ _ ?_ (fun hHeld=>?_)
    ·exact q1_
    clear hK K;try simp only [q3_,q4_]
    have k74_:K_ (∀(P:Prop) (h:P:=by
    go_meet
    with_reducible exact yy_ HB2 (by simp) hd2 hk2 hl2 ho2 hp2 HF0 ⟨Nat.le_refl _,by simp⟩
    ),P):=⟨@q6_⟩
    exact m74_
    ),P):=⟨@q6_⟩
    exact m108_
    ),P):=⟨@q6_⟩
    exact m147_
   ·go_simp
    refine hK.o _ _ ?_ (fun hHeld=>?_)
    ·exact q1_
    clear hK K;try simp only [q3_,q4_]
    refine wpAnyH_ready (rs:= [5]) (by kernel_rfl) (by simp) (AllReadyH.cons rfl (fun K hK=>?_) AllReadyH.nil);have k147_:K_ (∀(P:Prop) (h:P:=by
    have k206_:K_ (∀(P:Prop) (h:P:=by
    have k108_:K_ (∀(P:Prop) (h:P:=by
    have k74_:K_ (∀(P:Prop) (h:P:=by
    go_meet
    with_reducible exact la_ HB2 (by simp) hd2 hk2 hl2 ho2 hp2 HL1 HF0 ⟨⟨by omega,by simp⟩,⟨Nat.le_refl _,by simp⟩,by omega⟩
    ),P):=⟨@q6_⟩
    exact m74_
    ),P):=⟨@q6_⟩
    exact m108_
    ),P):=⟨@q6_⟩
    exact m206_
    ),P):=⟨@q6_⟩
    exact m147_
 have k91_:K_ (∀(P:Prop) (h:P:=by
 have HL1:=h_ (HTG.o.1.setLink (W':=_) bi_ hi HG.o l HLX.o rfl);clear hr hlen fr hgz;go_wp2_with fail
 refine(bdf_ _ base X (s.link i l) i (by simp [NodeV.link];exact HI.o) HL1.o.1 A c K ?_ (by have h1:=HPL.o;have h2:=HLR.o.1;rw [<-HKD.o,List.length_map]at h1;show s.L.length+_<=_;omega)).mono ?_
 ·refine HKX.o.mv fun b hb=>?_;have hz:(((((wc.setCell ⟨g,i*10+5,none⟩ (.int .i64 l.e)).setCell ⟨g,i*10+6,none⟩ (.int .i64 l.n)).setCell ⟨g,i*10+7,none⟩ (.slice l.sA l.s.length l.sc)).setCell ⟨g,i*10+8,none⟩ (.slice l.qA l.q.length l.qc)).setCell ⟨g,i*10+9,none⟩ (.int .i64 l.h)).heap.size=wc.heap.size:=by simp [World.setCell]
  have hgb:b≠g:=fun e=>hb.2.2.2.2.1 (by rw [NodeV.sOwn,HG.o,e];rfl);have ho:Only g wc (((((wc.setCell ⟨g,i*10+5,none⟩ (.int .i64 l.e)).setCell ⟨g,i*10+6,none⟩ (.int .i64 l.n)).setCell ⟨g,i*10+7,none⟩ (.slice l.sA l.s.length l.sc)).setCell ⟨g,i*10+8,none⟩ (.slice l.qA l.q.length l.qc)).setCell ⟨g,i*10+9,none⟩ (.int .i64 l.h)):=(((q5_.trans q5_).trans q5_).trans q5_).trans q5_;have hs:(s.link i l).n.sOwn=s.n.sOwn:=by simp [NodeV.sOwn,NodeV.link]
  refine⟨⟨by have:=HXA.o;omega,⟨hb.2.1.1,by rw [hz];exact hb.2.1.2⟩,hb.2.2.1,hb.2.2.2.1,?_,hb.2.2.2.2.2⟩,ho.block b hb.2.1.2 hgb⟩;rw [hs];exact hb.2.2.2.2.1
 have k225_:K_ (∀(P:Prop) (h:P:=by
 clear hst hp3 b0 b1 b2 b3 b4 bz e5 e6 e7 e8 e9 f5 f6 f7 f8 f9 hBg hgB x5 xz hBX hXB hil;obtain⟨t0,t1,t2,t3,t4,_,_,_,_,_,tz⟩:=a_ HFW.o;have HLK:=h_ (show((s.link i l).post A' c' ((s.link i l).n.S[i]'(by simp [NodeV.link];exact HI.o)).p K).d=linkDD s.d i LD PD by rw [rx_ s i l A' c' K,HLD.o,HKD.o]);cases told
 ·have HD:=h_ (HSD.o.trans (if_neg (by decide)));go_wp2_with fail
  exact bodyPost_end (results_none rfl _ _ _) rfl ⟨rfl,_,HP3.o.1,HLK.o.trans HD.o.symm,HP3.o.2.1,HP3.o.2.2⟩
 ·have HD:=h_ (HSD.o.trans (if_pos rfl));go_wp2_with fail
  refine(bhz_ w3 base X _ i (by simp [NodeV.link];exact HI.o) ⟨FD.kind,FD.heard,FD.epoch,⟨fA,fc,FD.op⟩,FD.text⟩ (fun W hb=>HT.o W (HP3.o.2.1.trans hb)) HP3.o.1 HO3.o HSM.o.op (oz_ HS.o HI.o (HSM.o.link l HLD.o)) (by have h1:=HPL.o;have h2:=HLR.o.1;rw [<-HKD.o,List.length_map]at h1;simp only [List.length_append,List.length_map];omega) HLR.o.2).mono ?_;rintro r w4 ⟨rfl,s4,k1,k2,k3,k4⟩;have HK4:=h_ (HP3.o.trans ⟨k1,k3,k4⟩);have HD4:=h_ (show s4.d=sessDD s.d i p.d by rw [k2,HLK.o,HD.o]);clear k1 k2 k3 k4;go_wp2_with fail
  exact bodyPost_end (results_none rfl _ _ _) rfl ⟨rfl,s4,HK4.o.1,HD4.o,HK4.o.2.1,HK4.o.2.2⟩
 ),P):=⟨@q6_⟩
 exact m225_
 ),P):=⟨@q6_⟩
 exact m91_
 ),P):=⟨@q6_⟩
 exact m62_
 ),P):=⟨@q6_⟩
 exact m94_
theorem bfb_(h0:0<p.ep)(hk:p.f.k=2)(hS:s.n.Small)(hL:s.L.length<=10000000)(hR:s.RL.length<=1048576):
 Calls Tryz.prog 34 #[.pointer (some ⟨X,0,none⟩),.int .i64 i,packetV p.ep p.nu p.b p.ak p.f.k p.f.h p.f.e p.f.o.A p.f.o.ps.length p.f.o.c p.f.s] w (Makes 71 base X w (joinedDD s.d i p.d)):=by
 have hep:1<=p.ep∧p.ep<=1048576:=⟨by omega,(nb_ he).2⟩
 have HEP:=h_ hep;have k94_:K_ (∀(P:Prop) (h:P:=by
 have HF:=h_ (hf.mv fun b hb=>HTU.o.2.2 b hb);have HPO:=h_ (show Off WA X s w.heap.size from h.fresh (Nat.le_refl _) (Array.getElem?_eq_some_iff.1 HFA.o).1);have HOG:=h_ (fun W=>sd_ p.ep W hep.1 hep.2);have HSE:=h_ (fun W (s1:EdV) hi1 a b c d e f g k l=>bdh_ W base X s1 i hi1 p a b c hfm he d e f g k l);have HJA:=h_ (fun(s2:EdV) hd=>ow_ (s2:=s2) hi hk hep hfm hd);obtain⟨g,hg⟩: ∃g,s.n.sA=some ⟨g,0,none⟩:=by
  exact m207_
 have HG:=h_ hg;obtain⟨q0,q1,q2,q3,q4,q5,q6,q7,q8,_,_,_,_,_,_,_,_,_,qz⟩:=n_ HFA.o;clear hWA hT h hf hfm hS hL hR hg he hk h0 hep;go_enter Tryz.func34,Tryz.ntmps34
 go_wp2_with fail
 rw [HW.o];refine(cm_ _ X).mono ?_;rintro r w1 ⟨rfl,rfl⟩;go_wp2_with fail
 refine(HOG.o _).mono ?_;rintro r w1 ⟨rfl,hb1⟩;have HT1:=h_ hb1;clear hb1 q0 q1 q2 q3 q4 q5 q6 q7 q8 qz;go_wp2_with fail
 obtain⟨B,hB⟩:=q2_ (w1.heap.size);rw [<-hB];refine ja_ (fun G=>Below WA.heap.size WA G∧G.heap[B]?=some (.cells #[.int .i64 p.ep,.int .i64 1,.slice none 0 0,.slice none 0 0,.int .i64 0] 58 (0,0))∧WA.heap.size<=B) ⟨bThen HT1.o bA_,by rw [hB];exact World.alloc_heap_new _ _,by rw [hB];exact HT1.o.size⟩ ?_;clear hB;rintro G ⟨g1,g2,g3⟩;have HB0:=h_ g1;have HG1:=h_ (HTU.o.la g1);have HGO:=h_ ((Stay.of_below g1 _ HPO.o).1);have HPG:=h_ ((Stay.of_below g1 _ HPO.o).2.trans HFA.o);obtain⟨b0,b1,b2,b3,b4,_,_,_,_,_,bz⟩:=a_ g2;have hr:=HG1.o.1.busy.srow;rw [HG.o]at hr;have hi:=HI.o;have hrA:=HTU.o.1.busy.srow;rw [HG.o]at hrA;have hgA:=(hrA.lt g rfl).2;have hgB: ¬g=B:=by omega
 have hBg: ¬B=g:=fun e=>hgB e.symm;have hXA:X<WA.heap.size:=HTU.o.1.busy.lt;have hXB: ¬X=B:=by omega
 have hBX: ¬B=X:=fun e=>hXB e.symm;obtain⟨_,_,_,_,_,x5,_,_,_,_,xz⟩:=j_ HG1.o.1.busy.blk;rw [HG.o]at x5;have hcs: ∀j u,(SideV.cells s.n.S[i])[j]?=some u->G.cell? ⟨g,i*10+j,none⟩=some u:=fun j u hu=>by
  have hj:j<10:=by
   exact m184_
  exact m259_
 have e0:G.cell? ⟨g,i*10,none⟩=some (.int .i64 s.n.S[i].p):=hcs 0 _ rfl;have e1:G.cell? ⟨g,i*10+1,none⟩=some (.bool s.n.S[i].j):=hcs 1 _ rfl;have k217_:K_ (∀(P:Prop) (h:P:=by
 have hil:(i:Int)<(s.n.S.length:Int):=by omega
 have hga:EdAt 71 G base X s:=HG1.o.1;have hts:=EdAt.setSide bi_ hga hi HG.o ⟨s.n.S[i].p,true,0,0,none,0,[],⟨p.ep,1,none,0,[],none,0,[],0⟩⟩ (iq_ _ _ _ _ _) rfl;dsimp only [List.length_nil]at hts;have HTS0:=h_ hts;clear hts;clear hr hrA hcs fr g1 g2 g3 hga;go_cut [] (fun W=>Turns 71 base X G s W (s.side i ⟨s.n.S[i].p,true,0,0,none,0,[],⟨p.ep,1,none,0,[],none,0,[],0⟩⟩))
 case first=>
  go_region
  all_goals(
   go_wp2_with fail
   go_meet
   exact HTS0.o.la (Below.drew (Below.refl _ _)))
 rename World=>W5
 have HT5:=h_ (HG1.o.trans hcut);have HF5:=h_ ((HF.o.mv fun b hb=>(Stay.of_below (HB0.o) b hb)).mv fun b hb=>hcut.2.2 b hb);have HO5:=h_ (hcut.2.2 _ HGO.o).1;have HP5:=h_ ((hcut.2.2 _ HGO.o).2.trans HPG.o);clear hcut HTS0 x5 xz b0 b1 b2 b3 b4 bz e0 e1 e2 e3 e4 e5 e6 e7 e8 e9 f0 f1 f2 f3 f4 f5 f6 f7 f8 f9 hgB hBg hXB hBX hil hXA hgA;obtain⟨q0,q1,q2,q3,q4,q5,q6,q7,q8,_,_,_,_,_,_,_,_,_,qz⟩:=n_ HP5.o;have HIS:=h_ (show i<(s.side i ⟨s.n.S[i].p,true,0,0,none,0,[],⟨p.ep,1,none,0,[],none,0,[],0⟩⟩).n.S.length by simp [NodeV.side];exact hi);have HKS:=h_ (show((s.side i ⟨s.n.S[i].p,true,0,0,none,0,[],⟨p.ep,1,none,0,[],none,0,[],0⟩⟩).n.S[i]'HIS.o).k=⟨p.ep,1,none,0,[],none,0,[],0⟩ by simp [NodeV.side]);have HSS:=h_ (show(s.side i ⟨s.n.S[i].p,true,0,0,none,0,[],⟨p.ep,1,none,0,[],none,0,[],0⟩⟩).n.Small from⟨HS.o.text,by simp [NodeV.side];exact HS.o.sl,fun x hx=>by
  rcases List.mem_or_eq_of_mem_set (show x∈s.n.S.set i ⟨s.n.S[i].p,true,0,0,none,0,[],⟨p.ep,1,none,0,[],none,0,[],0⟩⟩from hx)with hm | rfl
  · exact HS.o.sides x hm
  · exact⟨by simp,by simp,go_ p.ep⟩,HS.o.ul,HS.o.undo,HS.o.ml⟩)
 go_wp2_with fail
 refine(HSE.o W5 (s.side i ⟨s.n.S[i].p,true,0,0,none,0,[],⟨p.ep,1,none,0,[],none,0,[],0⟩⟩) HIS.o (fun W hb=>HT.o W (HT5.o.2.1.trans hb)) HT5.o.1 HF5.o (by rw [HKS.o];exact kl_ HEP.o) (by rw [HKS.o];have:=HEP.o;show p.ep≠0;omega) (by rw [HKS.o]) HSS.o (by have:=HLR.o.1;show s.L.length<=_;omega) HLR.o.2).mono ?_;rintro r w6 ⟨rfl,s2,k1,k2,k3,k4⟩;have HT6:=h_ (HT5.o.trans ⟨k1,k3,k4⟩);have HJ6:=h_ (HJA.o s2 k2);have HP6:=h_ ((k4 _ HO5.o).2.trans HP5.o);clear k1 k2 k3 k4 q0 q1 q2 q3 q4 q5 q6 q7 q8 qz;obtain⟨q0,_,_,_,_,_,_,_,_,_,_,_,_,_,_,_,_,_,qz⟩:=n_ HP6.o;obtain⟨_,_,_,_,x4,_,_,_,_,_,xz⟩:=j_ HT6.o.1.busy.blk;have hi6:i<s2.n.S.length:=by rw [HJ6.o.len];exact hi
 have HSN:Hid (∀W,Below w6.heap.size w6 W->Calls Tryz.prog 77 #[.pointer (some ⟨X,0,none⟩),.int .i64 i,.agg #[.int .i64 3,.int .i64 0,.int .i64 p.ep,.slice none 0 0,.string s2.n.t]] W fun e w'=>e= .returned (.tuple #[])∧ ∃s',EdAt 71 w' base X s'∧s'.d=joinedDD s.d i p.d∧Below base W w'):=h_ (fun W hb=>by
  have h9:=wl_ W base X s2 i hi6 ⟨3,0,p.ep,⟨none,0,[]⟩,s2.n.t⟩ (HT.o W (HT6.o.2.1.trans (hb.mono HT6.o.1.base_le))) (HT6.o.1.la hb) (HJ6.o.link hi6) Sl.nil ⟨⟨by simp,by simp⟩,by rw [HJ6.o.t];exact HS.o.text⟩ (by have h1:=HJ6.o.l;have h2:=HLR.o.1;omega);refine h9.mono ?_;rintro e w' ⟨rfl,s',k1,k2,k3,_⟩;refine⟨rfl,s',k1,?_,k3⟩;rw [k2,<-HJ6.o.d,<-HJ6.o.t])
 go_wp2_with fail
 go_region_law (go_simp;go_at_call 77;refine(HSN.o _ bz_).mono ?_;rintro r w7 ⟨rfl,hq⟩)
 all_goals(
  go_wp2_with fail
  obtain⟨s9,m1,m2,m3⟩:=hq;exact bodyPost_end (results_none rfl _ _ _) rfl ⟨rfl,s9,m1,m2,HT6.o.2.1.trans (Below.trans ((show Below w6.heap.size w6 _ from bz_).mono HT6.o.1.base_le) m3)⟩)
 ),P):=⟨@q6_⟩
 exact m217_
 ),P):=⟨@q6_⟩
 exact m94_
end
end Go.Proofs.YtacacoklddogmaaGreatDoor
