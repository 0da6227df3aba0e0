/- Lemmas. -/
import Derived.Test.YtacacoklddogmaaGreatDoorKJAZ
import Derived.Test.YtacacoklddogmaaGreatDoorKJBE
import Derived.Test.YtacacoklddogmaaGreatDoorKHnHeardE
import Derived.BigRegion
import Derived.Deep.RegionHeld3
import Derived.BigQuiet
import Derived.Deep.DeepCutAuto
namespace Go.Proofs.YtacacoklddogmaaGreatDoor
set_option maxHeartbeats 4000000
open Go.ChangeShapes Go.WideShapes Go.ChangeAt Go.RowKit
set_option maxRecDepth 100000
theorem m8_{P:Prop}(h:P:=by
 obtain⟨i0,hi0',hz0',hz1',hz2'⟩:=info_parts infoSide;have HT:=h_ hT;have HZ:=h_ hz;have HI:=h_ hi;have HM:=h_ hm;have HF:=h_ hf;have HFM:=h_ hfm;have HEE:=h_ hE;have HDD:=h_ hD;have HVV:=h_ hV;clear hV;have H1:=h_ (fun W hT (hi:n.In W) hz=>gi_ W T N Nc zs n hT hi hm hz hN);have HPC:=h_ (fun W hT hs=>bu_ W p.ep p.nu p.b p.ak p.f.k p.f.h p.f.e p.f.o.A p.f.o.c p.f.o.ps p.f.s hT hs hfm.op.len hfm.op.text hfm.text);have HCP:=h_ (fun W (hi:n.In W)=>hd_ W n hi hm);have hsl:=hm.sl;clear hT hz hi hm hf hfm hE hD;have HA:=h_ (HdAt.new w #[.int .i64 n.me,.int .i64 n.ep,.int .i64 n.up,.bool n.rd,.string n.t,.slice n.sA n.S.length n.sc,.slice n.uA n.U.length n.uc,.slice n.mA n.M.length n.mc] #[.int .i64 p.ep,.int .i64 p.nu,.bool p.b,.int .i64 p.ak,.int .i64 p.f.k,.int .i64 p.f.h,.int .i64 p.f.e,.slice p.f.o.A p.f.o.ps.length p.f.o.c,.string p.f.s]);obtain⟨WA,hWA⟩:=q2_ (((w.alloc (.cells #[.int .i64 n.me,.int .i64 n.ep,.int .i64 n.up,.bool n.rd,.string n.t,.slice n.sA n.S.length n.sc,.slice n.uA n.U.length n.uc,.slice n.mA n.M.length n.mc] 28)).alloc (.cells #[.int .i64 p.ep,.int .i64 p.nu,.bool p.b,.int .i64 p.ak,.int .i64 p.f.k,.int .i64 p.f.h,.int .i64 p.f.e,.slice p.f.o.A p.f.o.ps.length p.f.o.c,.string p.f.s] 48)).alloc (.cells #[.int .i64 0,.int .i64 0,.int .i64 0,.bool false,.string ⟨#[]⟩,.slice none 0 0,.slice none 0 0,.slice none 0 0,.slice none 0 0,.slice none 0 0] 35));obtain⟨P,hP⟩:=q2_ (w.heap.size+1);obtain⟨R,hR⟩:=q2_ (w.heap.size+2);rw [<-hWA,<-hP,<-hR]at HA;have HW:=h_ hWA.symm;have HE1:=h_ (show w.heap.size+1=P by omega);have HE2:=h_ (show w.heap.size+1+1=R by omega);clear hWA hP hR;obtain⟨n0,n1,n2,n3,n4,n5,n6,n7,nz⟩:=r_ HA.o.nd;go_enter Tryz.func15,Tryz.ntmps15
 go_wp2_with fail
 rw [HW.o,HE2.o,HE1.o];clear n0 n1 n2 n3 n4 n5 n6 n7 nz;refine(H1.o _ (HT.o.la HA.o.b) (HI.o.la HA.o.b) (Sl.la HZ.o HA.o.b)).mono ?_;rintro r w1 ⟨rfl,hb1⟩;have HB:=h_ (HA.o.la hb1);have HB1:=h_ hb1;clear hb1;go_upto_if 23 with fail
 go_cut [10] (fun e G=>e= .int .i64 E∧Below WA.heap.size WA G)
 case first=>
  by_cases h0:nodeFault zs n=0
  ·have hn1:(nodeFault zs n==0)=true:=(by simpa using h0);have HPF:=h_ (show packetFault ⟨p.ep,p.nu,p.b,p.ak,⟨p.f.k,p.f.h,p.f.e,p.f.o.ps,p.f.s⟩⟩=E from(if_pos h0).symm.trans HEE.o);clear h0;obtain⟨q0,q1,q2,q3,q4,q5,q6,q7,q8,_,_,_,_,_,_,_,_,_,qz⟩:=n_ HB.o.pk;go_wp2_with fail
   refine(HPC.o w1 (HT.o.la HB.o.b) (Sl.la HF.o HB.o.b)).mono ?_;rintro r w2 ⟨rfl,hb2⟩;have HB2:=h_ (bThen HB1.o hb2);clear q0 q1 q2 q3 q4 q5 q6 q7 q8 qz;clear hb2;go_wp2_with fail
   go_meet
   exact⟨by rw [HPF.o],HB2.o⟩
  ·have hn1:(nodeFault zs n==0)=false:=(by simpa using h0);have HPF:=h_ (show nodeFault zs n=E from(if_neg h0).symm.trans HEE.o);clear h0;go_wp2_with fail
   go_meet
   exact⟨by rw [HPF.o],HB1.o⟩
 clear HB HB1;rename World=>w2
 obtain⟨rfl,hcut⟩:=hcut;have HB:=h_ (HA.o.la hcut);clear hcut;obtain⟨n0,n1,n2,n3,n4,n5,n6,n7,nz⟩:=r_ HB.o.nd;go_wp2_with fail
 go_loopw [11,12] (fun a i wr=> ∃(k:Nat) (m:Int),k<=n.S.length∧i= .int .i64 k∧a= .int .i64 m∧Hid (LastAt n.S q k m)∧Hid (w2=wr)) (fun _ i _=>n.S.length - (intOf i).toNat)
 case atStart=>exact⟨0, -1,Nat.zero_le _,rfl,rfl,h_ (LastAt.start _ _),h_ rfl⟩
 case round=>
  obtain⟨k,m,hk,rfl,rfl,hg,hw⟩:=hrel;obtain rfl:=hw.o;clear hw;by_cases hlt:k<n.S.length
  ·obtain⟨b,ofs,hsA,hbs,hc⟩:=bh_ SideV.cells 10 SideV.cells_len (HI.o.la HB.o.b).sides.row hlt;have c0:w2.cell? ⟨b,ofs+k*10,none⟩=some (.int .i64 n.S[k].p):=hc 0 _ rfl;rw [hsA]at n5;have hki:(k:Int)<(n.S.length:Int):=(by omega);have HLT:=h_ hlt;clear hc hsA hbs;by_cases hp:n.S[k].p=q
   ·have hp1:(n.S[k].p==q)=true:=(by simpa using hp);have HY:=h_ (LastAt.yes hlt hp);clear hp hg;go_wp2_with fail
    go_roundw
    case rel=>exact⟨k+1,k,by have:=HLT.o;omega,by go_num,rfl,HY,(by first | exact h_ rfl | exact h_ trivial)⟩
    case measure=>have:=HLT.o;simp [intOf];omega
   ·have hp1:(n.S[k].p==q)=false:=(by simpa using hp);have HY:=h_ (LastAt.no hlt hp hg.o);clear hp hg;go_wp2_with fail
    go_roundw
    case rel=>exact⟨k+1,m,by have:=HLT.o;omega,by go_num,rfl,HY,(by first | exact h_ rfl | exact h_ trivial)⟩
    case measure=>have:=HLT.o;simp [intOf];omega
  ·obtain rfl:k=n.S.length:=(by omega);have hki: ¬(n.S.length:Int)<(n.S.length:Int):=(by omega);obtain⟨D1,D2,D3⟩:=HDD.o m hg.o;have HD3:=h_ D3;by_cases hE:E=0
   ·have hE1:(E==0)=true:=(by simpa using hE);have hE2:(E !=0)=false:=(by simp [hE]);rcases hg.o with⟨hm1, -⟩ | ⟨i,hin, -,hmi,hpe, -⟩
    first
    |guard_hyp vQ
     ·obtain⟨i2,hi1,_⟩:=HVV.o.2 _ hg.o;omega
    |guard_hyp vP
     ·obtain⟨i2,hi1,_⟩:=HVV.o.2 _ hg.o;omega
    |guard_hyp vO
     ·obtain⟨i2,hi1,_⟩:=HVV.o.2 _ hg.o;omega
    |·obtain ⟨rfl, rfl⟩ := D2 hE hm1
      subst hm1;clear D1 D2 D3 hE hg hlt hk;have k149_:K_ (∀(P:Prop) (h:P:=by
      exact bodyPost_ret (v:= .tuple #[.agg #[.int .i64 0,.int .i64 0,.int .i64 0,.bool false,.string ⟨#[]⟩,.slice none 0 0,.slice none 0 0,.slice none 0 0,.slice none 0 0,.slice none 0 0],.int .i64 13]) (by simp [results,Tryz.results15,go_sem,r0,r1,r2,r3,r4,r5,r6,r7,r8,r9]) rfl (dp_ j3)
      ),P):=⟨@q6_⟩
      exact m149_
    ·have HANS:=h_ (D3 hE i hmi);first
     |guard_hyp vQ
      obtain⟨i2,hi1,hi2⟩:=HVV.o.2 m hg.o;obtain rfl:i=i2:=(by omega);have HV:=h_ hi2;clear hi1 hi2
     |guard_hyp vP
      obtain⟨i2,hi1,hi2⟩:=HVV.o.2 m hg.o;obtain rfl:i=i2:=(by omega);have HV:=h_ hi2;clear hi1 hi2
     |guard_hyp vO
      obtain⟨i2,hi1,hi2⟩:=HVV.o.2 m hg.o;obtain rfl:i=i2:=(by omega);have HV:=h_ hi2;clear hi1 hi2
     |have HV:=h_ (HVV.o hE i (by rw [<-hmi];exact hg.o))
     subst hmi;have HPF:=h_ (show packetFault p.d=0∧nodeFault zs n=0 by
      have h9:=HEE.o;rw [hE]at h9;by_cases h0:nodeFault zs n=0
      · rw [if_pos h0]at h9
        exact⟨h9,h0⟩
      · rw [if_neg h0]at h9
        exact absurd h9 h0)
     have hi0:decide ((i:Int)<0)=false:=(by simp);have HIN:=h_ hin
     have HPE:=h_ hpe;have HLM:=h_ (dd_ HPF.o.2 _ (List.getElem_mem hin));have HMAY:=h_ (dg_ HPF.o.2);have HGK:=h_ (show n.d.S.getD i default=n.S[i].d by
      show(n.S.map SideV.d).getD i default=_;rw [ci_,List.getD_eq_getElem?_getD,List.getElem?_eq_getElem hin];rfl)
     clear D1 D2 D3 HD3 hE hg hlt hk hpe;go_wp2_with fail
     rw [show(Value.agg #[.int .i64 n.me,.int .i64 n.ep,.int .i64 n.up,.bool n.rd,.string n.t,.slice n.sA n.S.length n.sc,.slice n.uA n.U.length n.uc,.slice n.mA n.M.length n.mc])=n.val from rfl];refine(HCP.o _ (HI.o.la HB.o.b)).mono ?_;rintro r w3 ⟨n',rfl,hd,hfree,hb2,hcap⟩;clear n0 n1 n2 n3 n4 n5 n6 n7 nz;have HC0:=h_ (HB.o.la hb2);have hz0:=HB.o.b.size;obtain⟨X,hX9⟩:=q2_ (w3.heap.size);go_upto_region 15 with fail
     rw [<-hX9];obtain⟨w4,hw4⟩:=q2_ (w3.alloc (.cells #[.int .i64 n'.me,.int .i64 n'.ep,.int .i64 n'.up,.bool n'.rd,.string n'.t,.slice n'.sA n'.S.length n'.sc,.slice n'.uA n'.U.length n'.uc,.slice n'.mA n'.M.length n'.mc,.slice none 0 0,.slice none 0 0] 35));rw [<-hw4];have hb4:Below w3.heap.size w3 w4:=(by rw [hw4];exact bA_);have hx:w4.heap[X]?=some (.cells (turnCells n' (.slice none 0 0) (.slice none 0 0)) 35 (0,0)):=(by rw [hw4,hX9];exact World.alloc_heap_new _ _);have hlo:w2.heap.size<=X:=(by have h2:=hb2.size;omega);have HB4:=h_ (HC0.o.la hb4);obtain⟨s0,hs0⟩:=q2_ (⟨n',none,0,[],none,0,[]⟩:EdV);have HT4:=h_ (Turns.of_below (show EdAt 35 w4 w2.heap.size X s0 by rw [hs0];exact EditAt.new hfree hX9 hlo hb4 hx) (Below.refl _ _));have HSD:=h_ (show s0.d=⟨n.d,[],[]⟩ by rw [hs0];exact EdD.ext' hd rfl rfl);have HSS:=h_ (show s0.n.Small by rw [hs0];exact NodeV.Small.of_d hd HM.o);have HS0:=h_ (show s0.A=none∧s0.c=0∧s0.L= []∧s0.RA=none∧s0.rc=0∧s0.RL= [] by rw [hs0];exact⟨rfl,rfl,rfl,rfl,rfl,rfl⟩);have HSL:=h_ (show s0.L.length=0∧s0.RL.length=0 by rw [hs0];exact⟨rfl,rfl⟩);have HCA:=h_ (show∀x∈s0.n.S,x.k.s.length<=x.k.sc by rw [hs0];exact hcap);have HTW:=h_ (show∀W,Below w2.heap.size w4 W->Tabs W from fun W hb=>HT.o.la (HB4.o.b.trans (hb.mono HB.o.b.size)));have HRX:=h_ (show R<w2.heap.size from HB.o.o.2.2);have HOO:=h_ (show OpIn (Off w4 X s0) w4 p.f.o.A p.f.o.ps from HF.o.mv fun b hb=>⟨HT4.o.1.off (Nat.lt_of_lt_of_le hb HB.o.b.size),HB4.o.b.block b hb⟩);have hsl0:s0.n.S.length=n.S.length:=(by have h9:=congrArg (fun d:EdD=>d.n.S.length) HSD.o;simpa using h9);have HI0:=h_ (show i<s0.n.S.length by rw [hsl0];exact HIN.o);have HSX:=h_ (show(s0.n.S[i]'HI0.o).d=n.S[i].d from sd_at (show s0.n.S.map SideV.d=n.S.map SideV.d from congrArg (fun d:EdD=>d.n.S) HSD.o) HIN.o HI0.o);clear hsl0 hs0 hd hfree hcap hx hlo hb4 hw4 hX9 hz0 hb2;obtain⟨n0,n1,n2,n3,n4,n5,n6,n7,nz⟩:=r_ HB4.o.nd;obtain⟨q0,q1,q2,q3,q4,q5,q6,q7,q8,_,_,_,_,_,_,_,_,_,qz⟩:=n_ HB4.o.pk;obtain⟨b,ofs,hsA,hbs,hc⟩:=bh_ SideV.cells 10 SideV.cells_len (HI.o.la HB4.o.b).sides.row HIN.o;have c5:w4.cell? ⟨b,ofs+i*10+5,none⟩=some (.int .i64 n.S[i].k.e):=hc 5 _ rfl;rw [hsA]at n5;have hil:(i:Int)<(n.S.length:Int):=(by have:=HIN.o;omega);clear hc hsA hbs;go_upto_region 16 with fail
     go_cut [69] (fun t G=>w4=G∧t= .bool (decide (p.ep=n.S[i].k.e∧0<n.S[i].k.e)))
     case first=>
      by_cases hm:0<n.S[i].k.e
      ·have HM31:decide (0<n.S[i].k.e)=true:=(by simpa using hm);have HM3:=h_ hm;clear hm;by_cases hz:p.ep=n.S[i].k.e
       ·have HZ31:(p.ep==n.S[i].k.e)=true:=(by simpa using hz);have HZ3:=h_ hz;clear hz;go_wp2_with fail
        go_meet
        exact⟨rfl,by rw [decide_eq_true ⟨HZ3.o,HM3.o⟩]⟩
       ·have HZ31:(p.ep==n.S[i].k.e)=false:=(by simpa using hz);have HZ3:=h_ hz;clear hz;go_wp2_with fail
        go_meet
        exact⟨rfl,by rw [decide_eq_false (fun k=>HZ3.o k.1)]⟩
      ·have HM31:decide (0<n.S[i].k.e)=false:=(by simpa using hm);have HM3:=h_ hm;clear hm;go_wp2_with fail
       go_meet
       exact⟨rfl,by rw [decide_eq_false (fun k=>absurd k.2 (by have:=HM3.o;omega))]⟩
     obtain⟨rfl,rfl⟩:=hcut;clear c5;by_cases hA:p.ep=n.S[i].k.e∧0<n.S[i].k.e;first
     |guard_hyp vQ
      ·exact absurd (show hnSess n.d i p.d by unfold hnSess;rw [HGK.o];exact hA) HV.o.1
     |guard_hyp vP
      ·exact absurd (show hnSess n.d i p.d by unfold hnSess;rw [HGK.o];exact hA) HV.o.1
     |guard_hyp vO
      ·exact absurd (show hnSess n.d i p.d by unfold hnSess;rw [HGK.o];exact hA) HV.o.1
     |·have HK0 := h_ (show (s0.n.S[i]'HI0.o).k.e ≠ 0 ∧ p.ep = (s0.n.S[i]'HI0.o).k.e by
        have h9:(s0.n.S[i]'HI0.o).k.e=n.S[i].k.e:=congrArg (fun x:SideD=>x.k.e) HSX.o;rw [h9];exact⟨by have:=hA.2;omega,hA.1⟩)
       obtain⟨rfl,rfl⟩:D=sessDD ⟨n.d,[],[]⟩ i p.d∧er=0:=by have h9:=HANS.o.symm.trans (yj_ (n:=n.d) (i:=i) (p:=p.d) (by unfold hnSess;rw [HGK.o];exact hA));simpa using h9
       rw [decide_eq_true hA];clear hA;go_wp2_with fail
       refine(yu_ w4 w2.heap.size X s0 i HI0.o p HTW.o HT4.o.1 HOO.o HFM.o HPF.o.1 (gt_ (congrArg SideD.k HSX.o) HLM.o) HK0.o.1 HK0.o.2 (HCA.o _ (List.getElem_mem _)) HSS.o (by rw [HSL.o.1];omega) (by rw [HSL.o.2];omega)).mono ?_;rintro r w5 ⟨rfl,s9,k1,k2,k3,k4⟩;have HK1:=h_ k1;have HK2:=h_ (show s9.d=sessDD ⟨n.d,[],[]⟩ i p.d by rw [k2,HSD.o]);have HB5:=h_ (HB4.o.made HRX.o k3 k3.size);clear k1 k2 k3 k4;clear n0 n1 n2 n3 n4 n5 n6 n7 nz;clear q0 q1 q2 q3 q4 q5 q6 q7 q8 qz;exact m58_
     ·have HNA:=h_ (show¬hnSess n.d i p.d by unfold hnSess;rw [HGK.o];exact hA);rw [decide_eq_false hA];clear hA;go_upto_region 19 with fail
      go_cut [80] (fun t G=>w4=G∧t= .bool (decide (0<n.me∧i=0)))
      case first=>
       by_cases hz:i=0
       ·have HZ31:((i:Int)==0)=true:=(by simpa using hz);have HZ3:=h_ hz;clear hz;by_cases hm:0<n.me
        ·have HM31:decide (0<n.me)=true:=(by simpa using hm);have HM3:=h_ hm;clear hm;go_wp2_with fail
         go_meet
         exact⟨rfl,by rw [decide_eq_true ⟨HM3.o,HZ3.o⟩]⟩
        ·exact m271_
       ·have HZ31:((i:Int)==0)=false:=(by simpa using hz);have HZ3:=h_ hz;clear hz;go_wp2_with fail
        go_meet
        exact⟨rfl,by rw [decide_eq_false (fun k=>HZ3.o k.2)]⟩
      obtain⟨rfl,rfl⟩:=hcut;by_cases hP:0<n.me∧i=0;first
      |guard_hyp vQ
       ·exact absurd hP HV.o.2.1
      |guard_hyp vP
      |guard_hyp vO
       ·exact absurd hP HV.o.2.1
      |·exact(HV.o.elim HNA.o (fun k=>k.1 hP)).elim
      ·first
       |guard_hyp vP
        have HPP:=h_ (show hnPar n.d i from hP);rw [decide_eq_true hP]
       |have HPP:=h_ (show¬hnPar n.d i from hP);rw [decide_eq_false hP]
       clear hP;first
       |guard_hyp vQ
        by_cases hle:p.ep<=n.S[i].k.e
        ·exact m246_
       |guard_hyp vP
        by_cases he0:p.ep=0
       |by_cases hle:p.ep<=n.S[i].k.e;all_goals(first
        |guard_hyp vO
         ·exact m246_
        |skip)
       ·first
        |guard_hyp vQ
         have hl1:decide (p.ep<=n.S[i].k.e)=false:=(by simpa using hle);have HLE:=h_ (show¬p.d.epoch<=(n.d.S.getD i default).k.e by rw [HGK.o];exact hle);have HP0:=h_ (show 0<p.ep by have h9:=HLM.o.1.1.1;omega);clear hle;have hw:p.b=true∨(p.b=false∧(p.nu !=1)=true)∨(p.b=false∧(p.nu !=1)=false∧(p.f.k !=2)=true)∨(p.b=false∧(p.nu !=1)=false∧(p.f.k !=2)=false∧(p.f.e !=p.ep)=true)∨(p.b=false∧(p.nu !=1)=false∧(p.f.k !=2)=false∧(p.f.e !=p.ep)=false∧(p.f.h !=n.ep)=true):=by
          have h9:=HV.o.2.2.2;cases h1:p.b
          ·cases h2:(p.nu !=1) <;> cases h3:(p.f.k !=2) <;> cases h4:(p.f.e !=p.ep) <;> cases h5:(p.f.h !=n.ep) <;> first | (exfalso;exact h9 ⟨h1,by simpa using h2,by simpa using h3,by simpa using h4,by simpa using h5⟩) | simp
          ·exact .inl rfl
         rcases hw with hb | ⟨hb,h1⟩ | ⟨hb,h1,h2⟩ | ⟨hb,h1,h2,h3⟩ | ⟨hb,h1,h2,h3,h4⟩
         all_goals(
          rw [hb]at q2;clear hb;have HJN:=h_ HV.o.2.2.2;obtain⟨rfl,rfl⟩:D=bareDD n.d i∧er=0:=by have h9:=HANS.o.symm.trans (ye_ (n:=n.d) (i:=i) (p:=p.d) HNA.o HPP.o HLE.o HJN.o);simpa using h9
          go_wp2_with fail
          obtain⟨W4,hW4⟩:=q2_ (w4.alloc (.cells #[.int .i64 0,.int .i64 0,.bool true,.int .i64 n.ep,.int .i64 0,.int .i64 0,.int .i64 0,.slice none 0 0,.string ⟨#[]⟩] 48));have hb4:Below w4.heap.size w4 W4:=(by rw [hW4];exact bA_);have hz4:W4.heap.size=w4.heap.size+1:=(by rw [hW4];simp);have HT6:=h_ (HT4.o.la hb4);have HB6:=h_ (HB4.o.la hb4);have hK4:=ux_ w4 n.ep (fun b=>X+1<=b∧FreeX W4 w2.heap.size X (Value.slice s0.A s0.L.length s0.c).ownBlock s0.n.sOwn [s0.n.mOwn,s0.n.uOwn,(Value.slice s0.RA s0.RL.length s0.rc).ownBlock] b) ⟨HT4.o.1.busy.lt,HT4.o.1.freshX (Nat.le_refl _) (by omega)⟩;rw [<-hW4]at hK4;rw [<-hW4];have HK4:=h_ hK4;clear hW4 hb4 hz4 hK4;refine(vz_ W4 w2.heap.size X s0 i HI0.o HT6.o.1 _ 1 [bareV n.ep] HK4.o (by rw [HSL.o.1];simp)).mono ?_;rintro r w5 ⟨rfl,A',c',hp⟩;obtain⟨s9,hs9⟩:=q2_ (s0.post A' c' (s0.n.S[i]'HI0.o).p [bareV n.ep]);rw [<-hs9]at hp;have HK1:=h_ hp.1;have HK2:=h_ (show s9.d=bareDD n.d i by rw [hs9];exact rg_ (n:=n.d) HSD.o (by rw [HGK.o];exact congrArg SideD.p HSX.o));have HB5:=h_ (HB6.o.made HRX.o hp.2.1 hp.2.1.size);clear hp hs9 n0 n1 n2 n3 n4 n5 n6 n7 nz q0 q1 q2 q3 q4 q5 q6 q7 q8 qz;exact m58_)
        |first
         |guard_hyp vP
          have he1:decide (0<p.ep)=false:=(by simp [he0]);obtain⟨rfl,rfl⟩:D=awayDD ⟨n.d,[],[]⟩ p.ak∧er=0:=by have h9:=HANS.o.symm.trans (yd_ (n:=n.d) (i:=i) (p:=p.d) HNA.o HPP.o he0);simpa using h9
          clear he0;obtain⟨Y,hY⟩:=q2_ (w4.heap.size);go_upto_region 23 with fail
          obtain⟨v5,hv5⟩:=q2_ (w4.alloc (.cells #[.int .i64 n.me,.int .i64 n.ep,.int .i64 p.ak,.bool false,.string ⟨#[]⟩,.slice none 0 0,.slice none 0 0,.slice none 0 0] 28));rw [<-hv5,<-hY];have hb5:Below w4.heap.size w4 v5:=(by rw [hv5];exact bA_);have HMK:=h_ (show MkAt v5 v5 Y n.me n.ep p.ak none 0 []from⟨by rw [hv5,hY];exact World.alloc_heap_new _ _,World.ownsRow_nil _ _ _ _,Turned.refl _ _ _⟩);have HV5:=h_ (HB4.o.la hb5);have HX5:=h_ (show v5.heap[X]?=some (.cells (turnCells s0.n (.slice none 0 0) (.slice none 0 0)) 35 (0,0)) by
           have h9:=(hb5.block X HT4.o.1.busy.lt).trans HT4.o.1.busy.blk;obtain⟨e1,e2,e3,e4,e5,e6⟩:=HS0.o;rw [e1,e2,e3,e4,e5,e6]at h9;exact h9)
          have HYR:=h_ (show R<Y∧X<Y∧w2.heap.size<=X∧Y<=v5.heap.size from⟨by have:=HB4.o.o;omega,by have:=HT4.o.1.busy.lt;omega,HT4.o.1.busy.lo,by have:=hb5.size;omega⟩);have HBV:=h_ (show Below w2.heap.size w4 v5 from hb5.mono (by have:=HT4.o.1.busy.lo;have:=HT4.o.1.busy.lt;omega));clear hY hv5 hb5 n0 n1 n2 n3 n4 n5 n6 n7 nz q0 q1 q2 q3 q4 q5 q6 q7 q8 qz hil he1;obtain⟨n0,n1,n2,n3,n4,n5,n6,n7,nz⟩:=r_ HV5.o.nd;go_wp2_with fail
          go_loopw [16] (fun i wr=> ∃(k:Nat) (A:OA_) (c:Nat) (Q:List Int),k<=n.S.length∧i= .int .i64 k∧Q.length=k∧Hid (Q=(n.S.map SideV.p).take k)∧Hid (MkAt wr v5 Y n.me n.ep p.ak A c Q)) (fun i _=>n.S.length - (intOf i).toNat)
          case atStart=>exact⟨0,none,0,[],Nat.zero_le _,rfl,rfl,h_ rfl,HMK⟩
          case round=>
           obtain⟨k,A,c,Q,hk,rfl,hQ,HQ,HR⟩:=hrel;subst hQ;clear n0 n1 n2 n3 n4 n5 n6 n7 nz;have hbl:Below Y v5 wr:=HR.o.turned.below (Nat.le_refl _) (by simp) HYR.o.2.2.2;have HBR:=h_ (HV5.o.made HYR.o.1 hbl hbl.size);have HBW:=h_ (show Below w2.heap.size w4 wr from HBV.o.trans (hbl.mono (by have:=HYR.o;omega)));have HXR:=h_ ((HR.o.turned.block X (Nat.lt_of_lt_of_le HYR.o.2.1 HYR.o.2.2.2) (by have:=HYR.o.2.1;omega) (by simp)).trans HX5.o);clear hbl;have hzr:=HR.o.turned.size;obtain⟨n0,n1,n2,n3,n4,n5,n6,n7,nz⟩:=r_ HBR.o.nd;obtain⟨y0,y1,y2,y3,y4,y5,y6,y7,yz⟩:=r_ HR.o.blk;by_cases hlt:Q.length<n.S.length
           ·obtain⟨b,ofs,hsA,hbs,hc⟩:=bh_ SideV.cells 10 SideV.cells_len (HI.o.la HBR.o.b).sides.row hlt;have c0:wr.cell? ⟨b,ofs+Q.length*10,none⟩=some (.int .i64 n.S[Q.length].p):=hc 0 _ rfl;rw [hsA]at n5;have hki:(Q.length:Int)<(n.S.length:Int):=(by omega);have HTK:=h_ (show Q++ [n.S[Q.length].p]=(n.S.map SideV.p).take (Q.length+1) by
             have h9:=List.take_succ_eq_append_getElem (l:=n.S.map SideV.p) (i:=Q.length) (by simpa using hlt);rw [h9,List.getElem_map];exact congrArg (· ++ [n.S[Q.length].p]) HQ.o)
            clear hc hsA hbs;generalize n.S[Q.length].p=pp at*;have HN2:=h_ hlt;have hX2:=HR.o.lt;have hne:(Value.slice A Q.length c).ownBlock≠some Y:=s_ HR.o.row HR.o.blk (by decide);clear n0 n1 n2 n3 n4 n6 n7 y0 y1 y2 y3 y4 y6 y7;go_upto_region 26 with fail
            go_region_law (first
             | (refine bg_ _ rfl _ _ 24 rfl v5.heap.size 60 i0 (.agg #[.int .i64 0,.bool false,.int .i64 0,.int .i64 0,.slice none 0 0,.int .i64 0,.int .i64 0,.slice none 0 0,.slice none 0 0,.int .i64 0]) 10 128 Tryz.underlying24 hi0' hz0' hz1' hz2' rfl (by decide) _ _ _ rfl (cx_ HR.o.row bz_) (fun _=>True) _ _ _ _ rfl (bl_ (by rfl) (by simp)) ?_ ?_ ?_ ?_ ?_;(intro u hu;simp at hu;rcases hu with rfl | rfl | rfl | rfl | rfl | rfl | rfl | rfl | rfl | rfl <;> rfl);(unfold maxLen;omega);omega;(simp;omega);intro A' c' w6 hown' hgrow hat;have hX6:=(hgrow.block Y (Nat.lt_of_lt_of_le hX2 (show Below wr.heap.size wr _ from bz_).size) (fun e1=>hne e1.symm)).trans (((show Below wr.heap.size wr _ from bz_).block Y hX2).trans HR.o.blk);obtain⟨_,_,_,_,_,v5c,_,_,vz⟩:=r_ hX6;have f5:=tenF hX6 5))
            all_goals(
             obtain⟨WQ,hWQ,hgQ,hbQ⟩:=lw_ (W4:=wr) hgrow bz_;have hPU:=HR.o.push hbQ hgQ hown';refine u_ (fun G=>MkAt G v5 Y n.me n.ep p.ak A' c' (Q++ [pp])) hPU ?_;clear hWQ hgQ hbQ hPU hown' hgrow hat hX6 v5c vz f5;rintro G hG;have HG:=h_ hG;clear hG y5 c0;go_wp2_with fail
             go_roundw
             case rel=>exact⟨Q.length+1,A',c',Q++ [pp],HN2.o,by go_num,by simp,HTK,HG⟩
             case measure=>have:=HN2.o;simp [intOf];omega)
           ·have hk':Q.length=n.S.length:=(by omega);have HQP:=h_ (show Q=n.d.S.map SideD.p by
             have h9:=HQ.o;rw [hk',show n.S.length=(n.S.map SideV.p).length by simp,List.take_length]at h9;rw [h9];show n.S.map SideV.p=(n.S.map SideV.d).map SideD.p;rw [List.map_map];rfl)
            have HQL:=h_ hk';have hki: ¬(Q.length:Int)<(n.S.length:Int):=(by omega);have HYB:=h_ (fun v=>(show Below w2.heap.size wr (wr.setCell ⟨Y,1,none⟩ v)from(Only.set wr 1 v).below (by have:=HYR.o;omega) (by have:=HYR.o;omega)));have f1:=tenF HR.o.blk 1;have F0:=tenF HXR.o 0;have F1:=tenF HXR.o 1;have F2:=tenF HXR.o 2;have F3:=tenF HXR.o 3;have F4:=tenF HXR.o 4;have F5:=tenF HXR.o 5;have F6:=tenF HXR.o 6;have F7:=tenF HXR.o 7;obtain⟨x0,x1,x2,x3,x4,x5,x6,x7,x8,x9,xz⟩:=j_ HXR.o;have hYX: ¬Y=X:=(by have:=HYR.o;omega);have hXY: ¬X=Y:=(by have:=HYR.o;omega);clear hk' hlt hk HQ;by_cases hlt2:n.ep<1048575
            ·have hb:decide (n.ep<1048575)=true:=(by simpa using hlt2);have HKE:=h_ (show(if n.d.ep<1048575 then n.d.ep+1 else n.d.ep)=(n.ep+1)from if_pos hlt2);have HEP:=h_ (show 1<=(n.ep+1)∧(n.ep+1)<=1048576 by have:=HMAY.o.1.2.1;omega);have hw:wrap64 (n.ep+1)=n.ep+1:=(by have:=HMAY.o.1.2.1;unfold wrap64;omega);clear hlt2;have HMT:=h_ (MkAt.turn (base:=w2.heap.size) (HR.o.setEp (n.ep+1)) (Nat.lt_of_lt_of_le HYR.o.2.1 HYR.o.2.2.2) HYR.o.2.2.1 ((bH_ (by show X≠Y;have:=HYR.o.2.1;omega)).trans HXR.o));go_wp2_with fail
             refine(rt_ _ w2.heap.size X ⟨⟨n.me,(n.ep+1),p.ak,false,⟨#[]⟩,A,c,Q.map newS,none,0,[],none,0,[]⟩,none,0,[],none,0,[]⟩ (by show 0<(Q.map newS).length;have:=HIN.o;have:=HQL.o;rw [List.length_map];omega) (fun W hb=>HTW.o W (HBW.o.trans ((Below.trans (HYB.o _) HMT.o.2).trans hb))) HMT.o.1 HEP.o (by show([]:List PostV).length<=_;simp)).mono ?_;rintro r w5 ⟨rfl,s9,k1,k2,k3⟩;have HK1:=h_ k1;have HK2:=h_ (show s9.d=awayDD ⟨n.d,[],[]⟩ p.ak by rw [k2,ym_ (n:=n.d) (ep:=(n.ep+1)) HQP.o HKE.o];rfl);have HB5:=h_ (HB4.o.made HRX.o ((HBW.o.trans (Below.trans (HYB.o _) HMT.o.2)).trans k3) ((HBW.o.trans (Below.trans (HYB.o _) HMT.o.2)).trans k3).size);clear k1 k2 k3 n0 n1 n2 n3 n4 n5 n6 n7 nz y0 y1 y2 y3 y4 y5 y6 y7 yz x0 x1 x2 x3 x4 x5 x6 x7 x8 x9 xz F0 F1 F2 F3 F4 F5 F6 F7 f1;exact m58_
            ·have hb:decide (n.ep<1048575)=false:=(by simpa using hlt2);have HKE:=h_ (show(if n.d.ep<1048575 then n.d.ep+1 else n.d.ep)=n.ep from if_neg hlt2);have HEP:=h_ (show 1<=n.ep∧n.ep<=1048576 by have:=HMAY.o.1.2.1;omega);clear hlt2;have HMT:=h_ (MkAt.turn (base:=w2.heap.size) HR.o (Nat.lt_of_lt_of_le HYR.o.2.1 HYR.o.2.2.2) HYR.o.2.2.1 HXR.o);go_wp2_with fail
             refine(rt_ _ w2.heap.size X ⟨⟨n.me,n.ep,p.ak,false,⟨#[]⟩,A,c,Q.map newS,none,0,[],none,0,[]⟩,none,0,[],none,0,[]⟩ (by show 0<(Q.map newS).length;have:=HIN.o;have:=HQL.o;rw [List.length_map];omega) (fun W hb=>HTW.o W (HBW.o.trans (HMT.o.2.trans hb))) HMT.o.1 HEP.o (by show([]:List PostV).length<=_;simp)).mono ?_;rintro r w5 ⟨rfl,s9,k1,k2,k3⟩;have HK1:=h_ k1;have HK2:=h_ (show s9.d=awayDD ⟨n.d,[],[]⟩ p.ak by rw [k2,ym_ (n:=n.d) (ep:=n.ep) HQP.o HKE.o];rfl);have HB5:=h_ (HB4.o.made HRX.o ((HBW.o.trans HMT.o.2).trans k3) ((HBW.o.trans HMT.o.2).trans k3).size);clear k1 k2 k3 n0 n1 n2 n3 n4 n5 n6 n7 nz y0 y1 y2 y3 y4 y5 y6 y7 yz x0 x1 x2 x3 x4 x5 x6 x7 x8 x9 xz F0 F1 F2 F3 F4 F5 F6 F7 f1;exact m58_
         |first
          |guard_hyp vO
           have hl1:decide (p.ep<=n.S[i].k.e)=false:=(by simpa using hle);have HLE:=h_ (show¬p.d.epoch<=(n.d.S.getD i default).k.e by rw [HGK.o];exact hle);have HP0:=h_ (show 0<p.ep by have h9:=HLM.o.1.1.1;omega)
          |have hl1:decide (p.ep<=n.S[i].k.e)=true:=(by simpa using hle);obtain⟨rfl,rfl⟩:D=zeroD∧er=12:=by have h9:=HANS.o.symm.trans (yg_ (n:=n.d) (i:=i) (p:=p.d) HNA.o HPP.o (by rw [HGK.o];exact hle));simpa using h9
          clear hle;first
          |guard_hyp vO
           obtain⟨jb0,j1,j2,j3,j4⟩:=HV.o.2.2.2;have jb:p.b=false:=jb0;rw [jb]at q2;have J1:(p.nu !=1)=false:=(by simpa using j1);have J2:(p.f.k !=2)=false:=(by simpa using j2);have J3:(p.f.e !=p.ep)=false:=(by simpa using j3);have J4:(p.f.h !=n.ep)=false:=(by simpa using j4);clear jb jb0 j1 j2 j3 j4
          |obtain⟨r0,r1,r2,r3,r4,r5,r6,r7,r8,r9,rz⟩:=j_ HB4.o.r;obtain⟨F0,F1,F2,F3,F4,F5,F6,F7,F8,F9⟩:=cd_ HB4.o.r;go_wp2_with fail
           refine u_ (fun H=>H.heap[R]?=some (.cells #[.int .i64 0,.int .i64 0,.int .i64 0,.bool false,.string ⟨#[]⟩,.slice none 0 0,.slice none 0 0,.slice none 0 0,.slice none 0 0,.slice none 0 0] 35 (0,0))∧Below w.heap.size w H) ⟨dh_ HB4.o.r _ _ _ _ _ _ _ _ _ _,?_⟩ ?_
          ·first
           |guard_hyp vO
            have HJN:=h_ HV.o.2.2.2;by_cases hrd:n.rd=true
            ·have hsr:n.rd=true:=hrd;rw [hrd]at n3;obtain⟨rfl,rfl⟩:D=joinedDD ⟨n.d,[],[]⟩ i p.d∧er=0:=by have h9:=HANS.o.symm.trans (yf_ (n:=n.d) (i:=i) (p:=p.d) HNA.o HPP.o HLE.o HJN.o hrd);simpa using h9
             clear hrd hsr;obtain⟨g,hg⟩: ∃g,s0.n.sA=some ⟨g,0,none⟩:=by
              obtain⟨g,cap,hv,_,_⟩:=HT4.o.1.busy.srow.form (by have:=HI0.o;omega);exact⟨g,by injection hv⟩
             have HG:=h_ hg;have hep:1<=p.ep∧p.ep<=1048576:=⟨by have:=HP0.o;omega,(nb_ HPF.o.1).2⟩
             have HEP:=h_ hep;have HOG:=h_ (fun W=>ly_ p.ep W hep.1 hep.2);have HSE:=h_ (fun W (s1:EdV) hi1 a b c d e f x g k l=>yu_ W w2.heap.size X s1 i hi1 p a b c HFM.o HPF.o.1 d e f x g k l);have HPQ:=h_ (show(s0.n.S[i]'HI0.o).p=q from(congrArg SideD.p HSX.o).trans HPE.o);have HJA:Hid (∀s2:EdV,s2.d=sessDD (s0.side i ⟨q,true,0,0,none,0,[],⟨p.ep,1,none,0,[],none,0,[],0⟩⟩).d i p.d->Joined s0 i p.d s2):=h_ (fun s2 hd=>by
              rw [<-HPQ.o]at hd;exact ow_ (s2:=s2) HI0.o HJN.o.2.2.1 hep HFM.o hd)
             clear hg hep;go_wp2_with fail
             refine(HOG.o _).mono ?_;rintro r w1' ⟨rfl,hb1⟩;have HT1:=h_ hb1;clear hb1;go_upto_region 40 with fail
             obtain⟨B,hB⟩:=q2_ (w1'.heap.size);rw [<-hB];refine ja_ (fun G=>Below w4.heap.size w4 G∧G.heap[B]?=some (.cells #[.int .i64 p.ep,.int .i64 1,.slice none 0 0,.slice none 0 0,.int .i64 0] 58 (0,0))∧w4.heap.size<=B) ⟨bThen HT1.o bA_,by rw [hB];exact World.alloc_heap_new _ _,by rw [hB];exact HT1.o.size⟩ ?_;clear hB;rintro G ⟨g1,g2,g3⟩;have HB5:=h_ (HB4.o.la g1);clear n0 n1 n2 n3 n4 n5 n6 n7 nz q0 q1 q2 q3 q4 q5 q6 q7 q8 qz;obtain⟨n0,n1,n2,n3,n4,n5,n6,n7,nz⟩:=r_ HB5.o.nd;obtain⟨q0,q1,q2,q3,q4,q5,q6,q7,q8,_,_,_,_,_,_,_,_,_,qz⟩:=n_ HB5.o.pk;have HG1:=h_ (HT4.o.la g1);obtain⟨b0,b1,b2,b3,b4,_,_,_,_,_,bz⟩:=a_ g2;have hr:=HG1.o.1.busy.srow;rw [HG.o]at hr;have hi:=HI0.o;have hrA:=HT4.o.1.busy.srow;rw [HG.o]at hrA;have hgA:=(hrA.lt g rfl).2;have hgB: ¬g=B:=(by omega);have hBg: ¬B=g:=fun e=>hgB e.symm;have hXA:X<w4.heap.size:=HT4.o.1.busy.lt;have hXB: ¬X=B:=(by omega);have hBX: ¬B=X:=fun e=>hXB e.symm;obtain⟨_,_,_,_,_,x5,_,_,_,_,xz⟩:=j_ HG1.o.1.busy.blk;rw [HG.o]at x5;have hcs: ∀j u,(SideV.cells s0.n.S[i])[j]?=some u->G.cell? ⟨g,i*10+j,none⟩=some u:=fun j u hu=>by
              have hj:j<10:=by
               exact m184_
              rw [hr.cellAt (i*10+j) (by omega),bx_ SideV.cells 10 SideV.cells_len s0.n.S i j hi hj];exact hu
             have e0:G.cell? ⟨g,i*10,none⟩=some (.int .i64 s0.n.S[i].p):=hcs 0 _ rfl;have e1:G.cell? ⟨g,i*10+1,none⟩=some (.bool s0.n.S[i].j):=hcs 1 _ rfl;have k217_:K_ (∀(P:Prop) (h:P:=by
             have hil:(i:Int)<(s0.n.S.length:Int):=(by omega);have hga:EdAt 35 G w2.heap.size X s0:=HG1.o.1;have hts:=EdAt.setSide bn_ hga hi HG.o ⟨q,true,0,0,none,0,[],⟨p.ep,1,none,0,[],none,0,[],0⟩⟩ (iq_ _ _ _ _ _) rfl;dsimp only [List.length_nil]at hts;have HTS0:=h_ hts;clear hts;clear hr hrA hcs fr g1 g2 g3 hga;go_cut [] (fun W=>Turns 35 w2.heap.size X G s0 W (s0.side i ⟨q,true,0,0,none,0,[],⟨p.ep,1,none,0,[],none,0,[],0⟩⟩))
             case first=>
              go_wp2_with fail
              go_meet
              exact HTS0.o
             rename World=>W5
             have HT5:=h_ (HG1.o.trans hcut);clear HB5;have HB5:=h_ (HB4.o.made HRX.o HT5.o.2.1 HT5.o.2.1.size);have HF5:=h_ (show OpIn (Off W5 X (s0.side i ⟨q,true,0,0,none,0,[],⟨p.ep,1,none,0,[],none,0,[],0⟩⟩)) W5 p.f.o.A p.f.o.ps from HF.o.mv fun b hb=>⟨HT5.o.1.off (Nat.lt_of_lt_of_le hb HB.o.b.size),HB5.o.b.block b hb⟩);clear hcut HTS0 x5 xz b0 b1 b2 b3 b4 bz e0 e1 e2 e3 e4 e5 e6 e7 e8 e9 f0 f1 f2 f3 f4 f5 f6 f7 f8 f9 hgB hBg hXB hBX hil hXA hgA n0 n1 n2 n3 n4 n5 n6 n7 nz q0 q1 q2 q3 q4 q5 q6 q7 q8 qz;obtain⟨n0,n1,n2,n3,n4,n5,n6,n7,nz⟩:=r_ HB5.o.nd;obtain⟨q0,q1,q2,q3,q4,q5,q6,q7,q8,_,_,_,_,_,_,_,_,_,qz⟩:=n_ HB5.o.pk;have HIS:=h_ (show i<(s0.side i ⟨q,true,0,0,none,0,[],⟨p.ep,1,none,0,[],none,0,[],0⟩⟩).n.S.length by simp [NodeV.side];exact HI0.o);have HKS:=h_ (show((s0.side i ⟨q,true,0,0,none,0,[],⟨p.ep,1,none,0,[],none,0,[],0⟩⟩).n.S[i]'HIS.o).k=⟨p.ep,1,none,0,[],none,0,[],0⟩ by simp [NodeV.side]);have HS9:=h_ (show(s0.side i ⟨q,true,0,0,none,0,[],⟨p.ep,1,none,0,[],none,0,[],0⟩⟩).n.Small from⟨HSS.o.text,by simp [NodeV.side];exact HSS.o.sl,fun x hx=>by
              rcases List.mem_or_eq_of_mem_set (show x∈s0.n.S.set i ⟨q,true,0,0,none,0,[],⟨p.ep,1,none,0,[],none,0,[],0⟩⟩from hx)with hm | rfl
              · exact HSS.o.sides x hm
              · exact⟨by simp,by simp,go_ p.ep⟩,HSS.o.ul,HSS.o.undo,HSS.o.ml⟩)
             go_wp2_with fail
             refine(HSE.o W5 (s0.side i ⟨q,true,0,0,none,0,[],⟨p.ep,1,none,0,[],none,0,[],0⟩⟩) HIS.o (fun W hb=>HTW.o W (HT5.o.2.1.trans hb)) HT5.o.1 HF5.o (by rw [HKS.o];exact kl_ HEP.o) (by rw [HKS.o];have:=HEP.o;show p.ep≠0;omega) (by rw [HKS.o]) (by rw [HKS.o];simp) HS9.o (by show s0.L.length<=_;rw [HSL.o.1];omega) (by show s0.RL.length<=_;rw [HSL.o.2];omega)).mono ?_;rintro r w6 ⟨rfl,s2,k1,k2,k3,k4⟩;have HT6:=h_ (HT5.o.trans ⟨k1,k3,k4⟩);have HJ6:=h_ (HJA.o s2 k2);have HB6:=h_ (HB4.o.made HRX.o HT6.o.2.1 HT6.o.2.1.size);clear k1 k2 k3 k4 q0 q1 q2 q3 q4 q5 q6 q7 q8 qz n0 n1 n2 n3 n4 n5 n6 n7 nz;obtain⟨n0,n1,n2,n3,n4,n5,n6,n7,nz⟩:=r_ HB6.o.nd;obtain⟨q0,q1,q2,q3,q4,q5,q6,q7,q8,_,_,_,_,_,_,_,_,_,qz⟩:=n_ HB6.o.pk;have hi6:i<s2.n.S.length:=(by rw [HJ6.o.len];exact HI0.o);have HTX:=h_ (show s2.n.t=n.t from HJ6.o.t.trans (congrArg (fun d:EdD=>d.n.t) HSD.o));have HSN:Hid (∀W,Below w6.heap.size w6 W->Calls Tryz.prog 41 #[.pointer (some ⟨X,0,none⟩),.int .i64 i,.agg #[.int .i64 3,.int .i64 0,.int .i64 p.ep,.slice none 0 0,.string n.t]] W fun e w'=>e= .returned (.tuple #[])∧ ∃s',EdAt 35 w' w2.heap.size X s'∧s'.d=joinedDD s0.d i p.d∧Below w2.heap.size W w'):=h_ (fun W hb=>by
              have h9:=nd_ W w2.heap.size X s2 i hi6 ⟨3,0,p.ep,⟨none,0,[]⟩,s2.n.t⟩ (HTW.o W (HT6.o.2.1.trans (hb.mono HT6.o.1.base_le))) (HT6.o.1.la hb) (HJ6.o.link hi6) Sl.nil ⟨⟨by simp,by simp⟩,by rw [HJ6.o.t];exact HSS.o.text⟩ (by have h1:=HJ6.o.l;have h2:=HSL.o.1;omega);rw [<-HTX.o];refine h9.mono ?_;rintro e w' ⟨rfl,s',k1,k2,k3,_⟩;refine⟨rfl,s',k1,?_,k3⟩;rw [k2,<-HJ6.o.d,<-HJ6.o.t])
             go_wp2_with fail
             refine(HSN.o _ (Below.refl _ _)).mono ?_;rintro r w5 ⟨rfl,s9,k1,k2,k3⟩;have HK1:=h_ k1;have HK2:=h_ (show s9.d=joinedDD ⟨n.d,[],[]⟩ i p.d by rw [k2,HSD.o]);have HB7:=h_ (HB6.o.made HRX.o k3 k3.size);clear k1 k2 k3 HB5;have HB5:=HB7;clear HB7 n0 n1 n2 n3 n4 n5 n6 n7 nz q0 q1 q2 q3 q4 q5 q6 q7 q8 qz;exact m58_
             ),P):=⟨@q6_⟩
             exact m217_
            ·have hr0:n.rd=false:=(by simpa using hrd);rw [hr0]at n3;obtain⟨rfl,rfl⟩:D=zeroD∧er=12:=by have h9:=HANS.o.symm.trans (yh_ (n:=n.d) (i:=i) (p:=p.d) HNA.o HPP.o HLE.o HJN.o hrd);simpa using h9
             clear hrd hr0;exact m113_
           |have hwR:w.heap.size<=R:=(by have:=HA.o.o;omega);repeat(refine bSet ?_ (by exact hwR) _)
            exact HB4.o.b
          all_goals(first
          |guard_hyp vO
          |exact m165_)
       all_goals(first
       |guard_hyp vQ
       |guard_hyp vP
        ·have he1:decide (0<p.ep)=true:=(by have h9:=(nb_ HPF.o.1).1;have h8:0<=p.ep:=h9;simp;omega);obtain⟨rfl,rfl⟩:D=zeroD∧er=12:=by have h9:=HANS.o.symm.trans (yi_ (n:=n.d) (i:=i) (p:=p.d) HNA.o HPP.o he0);simpa using h9
         clear he0;exact m113_
       |guard_hyp vO
       |·exact(HV.o.elim HNA.o (fun k=>hle (by have h9:=k.2;rw [HGK.o]at h9;exact h9))).elim)
      all_goals(first
      |guard_hyp vP
       ·exact absurd HV.o.2 hP
      |skip)
   first
   |guard_hyp vQ
    ·exact absurd HVV.o.1 hE
   |guard_hyp vP
    ·exact absurd HVV.o.1 hE
   |guard_hyp vO
    ·exact absurd HVV.o.1 hE
   |·have hE1 : (E == 0) = false := by simpa using hE
     have hE2:(E !=0)=true:=(by simp [hE]);obtain⟨rfl,rfl⟩:=D1 hE;clear D1 D2 D3 hg hlt hk;clear hE;have k149_:K_ (∀(P:Prop) (h:P:=by
     exact bodyPost_ret (v:= .tuple #[.agg #[.int .i64 0,.int .i64 0,.int .i64 0,.bool false,.string ⟨#[]⟩,.slice none 0 0,.slice none 0 0,.slice none 0 0,.slice none 0 0,.slice none 0 0],.int .i64 er]) (by simp [results,Tryz.results15,go_sem,r0,r1,r2,r3,r4,r5,r6,r7,r8,r9]) rfl (dp_ j3)
     ),P):=⟨@q6_⟩
     exact m149_):P:=h
theorem m58_{P:Prop}(h:P:=by
 obtain⟨x0,x1,x2,x3,x4,x5,x6,x7,x8,x9,xz⟩:=j_ HK1.o.busy.blk;obtain⟨r0,r1,r2,r3,r4,r5,r6,r7,r8,r9,rz⟩:=j_ HB5.o.r;obtain⟨F0,F1,F2,F3,F4,F5,F6,F7,F8,F9⟩:=cd_ HB5.o.r;have hXb:w2.heap.size<=X:=HK1.o.busy.lo;have hRX': ¬R=X:=by have:=HRX.o;omega
 have hXR: ¬X=R:=fun e=>hRX' e.symm;go_wp2_with fail
 have hq:=turnFin (w:=w) (wr:=w5) (R:=R) (EditAt.held bn_ HK1.o) HB5.o.r HRX.o (by have:=HA.o.o;omega) HB5.o.b;have k135_:K_ (∀(P:Prop) (h:P:=by
 refine bodyPost_ret (v:= .tuple #[.agg #[.int .i64 s9.n.me,.int .i64 s9.n.ep,.int .i64 s9.n.up,.bool s9.n.rd,.string s9.n.t,.slice s9.n.sA s9.n.S.length s9.n.sc,.slice s9.n.uA s9.n.U.length s9.n.uc,.slice s9.n.mA s9.n.M.length s9.n.mc,.slice s9.A s9.L.length s9.c,.slice s9.RA s9.RL.length s9.rc],.int .i64 0]) (by simp [results,Tryz.results15,go_sem,r0,r1,r2,r3,r4,r5,r6,r7,r8,r9]) rfl ?_;exact⟨s9,rfl,HK2.o,j2,j3,j4,j5⟩
 ),P):=⟨@q6_⟩
 exact m135_):P:=h
theorem m75_{P:Prop}(h:P:=by
 refine wpAnyH_ready (rs:= [19]) (by kernel_rfl) (by simp) (AllReadyH.cons rfl (fun K hK=>?_) AllReadyH.nil);go_simp
 refine hK.o _ _ ?_ (fun hHeld=>?_)
 ·exact q1_
 clear hK K;try simp only [q3_,q4_]
 refine wpAnyH_ready (rs:= [20]) (by kernel_rfl) (by simp) (AllReadyH.cons rfl (fun K hK=>?_) AllReadyH.nil);go_simp
 refine hK.o _ _ ?_ (fun hHeld=>?_)
 ·exact q1_
 clear hK K;try simp only [q3_,q4_]
 refine ht_ 21 8 hHeld ?_;simp only [q3_,q4_];refine ht_ 22 9 hHeld ?_;simp only [q3_,q4_];refine ht_ 23 10 hHeld ?_;simp only [q3_,q4_];refine wpAnyH_done (by kernel_rfl) ?_ _;go_wp2_with fail
 exact k75_.o _):P:=h
theorem m105_{P:Prop}(h:P:=by
 refine hK.o _ _ ?_ (fun hHeld=>?_)
 ·exact q1_
 clear hK K;try simp only [q3_,q4_]
 refine ht_ 11 11 hHeld ?_;simp only [q3_,q4_];refine ht_ 12 23 hHeld ?_;simp only [q3_,q4_];refine ht_ 13 24 hHeld ?_;simp only [q3_,q4_];refine ht_ 14 25 hHeld ?_;simp only [q3_,q4_];refine ht_ 15 26 hHeld ?_;simp only [q3_,q4_];refine ht_ 16 27 hHeld ?_;simp only [q3_,q4_];exact k105_.o _):P:=h
theorem m113_{P:Prop}(h:P:=by
 obtain⟨r0,r1,r2,r3,r4,r5,r6,r7,r8,r9,rz⟩:=j_ HB4.o.r;obtain⟨F0,F1,F2,F3,F4,F5,F6,F7,F8,F9⟩:=cd_ HB4.o.r;go_wp2_with fail
 refine u_ (fun H=>H.heap[R]?=some (.cells #[.int .i64 0,.int .i64 0,.int .i64 0,.bool false,.string ⟨#[]⟩,.slice none 0 0,.slice none 0 0,.slice none 0 0,.slice none 0 0,.slice none 0 0] 35 (0,0))∧Below w.heap.size w H) ⟨dh_ HB4.o.r _ _ _ _ _ _ _ _ _ _,?_⟩ ?_
 ·have hwR:w.heap.size<=R:=by have:=HA.o.o;omega
  repeat(refine bSet ?_ (by exact hwR) _)
  exact HB4.o.b
 exact m165_):P:=h
theorem m143_{P:Prop}(h:P:=by
 go_simp;go_at_call 79;(refine(HE.o _ ((HT.o _ HTU.o.2.1).la hHeld) (HLI.o.la hHeld) (Sl.la HOF.o hHeld)).mono ?_);rintro r w2 ⟨l2,fA2,fc2,A2,c2,K2,rfl,hd2,hk2,hl2,ho2,hp2,hb2⟩;have HB2:=bThen hHeld hb2
 exact k143_.o _):P:=h
theorem m149_{P:Prop}(h:P:=by
 obtain⟨r0,r1,r2,r3,r4,r5,r6,r7,r8,r9,rz⟩:=j_ HB.o.r;obtain⟨F0,F1,F2,F3,F4,F5,F6,F7,F8,F9⟩:=cd_ HB.o.r;go_wp2_with fail
 refine u_ (fun H=>H.heap[R]?=some (.cells #[.int .i64 0,.int .i64 0,.int .i64 0,.bool false,.string ⟨#[]⟩,.slice none 0 0,.slice none 0 0,.slice none 0 0,.slice none 0 0,.slice none 0 0] 35 (0,0))∧Below w.heap.size w H) ⟨dh_ HB.o.r _ _ _ _ _ _ _ _ _ _,?_⟩ ?_
 ·have hwR:w.heap.size<=R:=by have:=HA.o.o;omega
  repeat(refine bSet ?_ (by exact hwR) _)
  exact HB.o.b
 have k260_:K_ (∀(P:Prop) (h:P:=by
 exact k149_.o _
 ),P):=⟨@q6_⟩
 exact m260_):P:=h
theorem m165_{P:Prop}(h:P:=by
 have k260_:K_ (∀(P:Prop) (h:P:=by
 exact bodyPost_ret (v:= .tuple #[.agg #[.int .i64 0,.int .i64 0,.int .i64 0,.bool false,.string ⟨#[]⟩,.slice none 0 0,.slice none 0 0,.slice none 0 0,.slice none 0 0,.slice none 0 0],.int .i64 12]) (by simp [results,Tryz.results15,go_sem,r0,r1,r2,r3,r4,r5,r6,r7,r8,r9]) rfl (dp_ j3)
 ),P):=⟨@q6_⟩
 exact m260_):P:=h
theorem m246_{P:Prop}(h:P:=by
 exact absurd hle (by have h9:=HV.o.2.2.1;have h8:((List.map SideV.d n.S).getD i default).k.e=n.S[i].k.e:=congrArg (fun x:SideD=>x.k.e) HGK.o;first | omega | exact fun k=>h9 (by rw [HGK.o];exact k))):P:=h
theorem yu_(w:World)(base X:Nat)(s:EdV)(i:Nat)(hi:i<s.n.S.length)(p:PacketV)(hT: ∀W,Below base w W->Tabs W)(h:EdAt 35 w base X s)(hf:OpIn (Off w X s) w p.f.o.A p.f.o.ps)(hfm:p.f.Small)(he:packetFault p.d=0)(hk:linkMay s.n.S[i].k)(h0:s.n.S[i].k.e≠0)(h1:p.ep=s.n.S[i].k.e)(hsc:s.n.S[i].k.s.length<=s.n.S[i].k.sc)(hS:s.n.Small)(hL:s.L.length<=100000000)(hR:s.RL.length<=1048576):
 Calls Tryz.prog 37 #[.pointer (some ⟨X,0,none⟩),.int .i64 i,packetV p.ep p.nu p.b p.ak p.f.k p.f.h p.f.e p.f.o.A p.f.o.ps.length p.f.o.c p.f.s] w (Goes 35 base X w s (sessDD s.d i p.d)):=by
 have k94_:K_ (∀(P:Prop) (h:P:=by
 have HSD:=h_ (sn_ (p:=p.d) hi);have HSM:=h_ (jp_ (p:=p) hk (hS.sides _ (List.getElem_mem hi)).link hfm);have HPL:=h_ (gn_ s.n.S[i].k.d p.d);have HE:=h_ (fun W (hT:Tabs W) (ki:s.n.S[i].k.In W) (ho:OpIn (· <W.heap.size) W p.f.o.A p.f.o.ps)=>beh_ W s.n.S[i].k p hT ki (hS.sides _ (List.getElem_mem hi)).link ho hfm hk he h0 h1 hsc);have k62_:K_ (∀(P:Prop) (h:P:=by
 go_enter Tryz.func37,Tryz.ntmps37
 go_wp2_with fail
 rw [HW.o];go_cut [6,7,8,9,10] (fun sl sf st sp se G=>SessRel WA LD FD told PD sl sf st sp se G)
 case first=>
  clear x0 x1 x2 x3 x4 x6 x7 x8 x9 HFA HSD HSM HPL HW;refine wp_region_held_drew (S:=fun w'=>Below WA.heap.size WA w') (by kernel_rfl) (Below.drew (Below.refl _ _)) (fun hHeld=>?_);refine ht_ 0 12 hHeld ?_;simp only [q3_,q4_];refine ht_ 1 13 hHeld ?_;simp only [q3_,q4_];refine ht_ 2 14 hHeld ?_;simp only [q3_,q4_];refine ht_ 3 15 hHeld ?_;simp only [q3_,q4_];refine cp_ 4 16 (v:=?_) rfl rfl (Or.inl ⟨by rfl,?_⟩) hHeld ?_ (fun _ _ _ h=>h);rotate_left;(intro w9 hS9;have hS9:=HSB.o w9 hS9;go_simp;try with_reducible rfl);simp only [q3_,q4_];refine ht_ 5 17 hHeld ?_;simp only [q3_,q4_];refine ht_ 6 18 hHeld ?_;simp only [q3_,q4_];refine ht_ 7 19 hHeld ?_;simp only [q3_,q4_];refine cp_ 8 20 (v:=?_) rfl rfl (Or.inl ⟨by rfl,?_⟩) hHeld ?_ (fun _ _ _ h=>h);rotate_left;(intro w9 hS9;have hS9:=HSB.o w9 hS9;go_simp;try with_reducible rfl);simp only [q3_,q4_];refine cp_ 9 21 (v:=?_) rfl rfl (Or.inl ⟨by rfl,?_⟩) hHeld ?_ (fun _ _ _ h=>h);rotate_left;(intro w9 hS9;have hS9:=HSB.o w9 hS9;go_simp;try with_reducible rfl);simp only [q3_,q4_];refine wpAnyH_ready (rs:= [10,17,18]) (by kernel_rfl) (by simp) (AllReadyH.cons rfl (fun K hK=>?_) (AllReadyH.cons rfl (fun K hK=>?_) (AllReadyH.cons rfl (fun K hK=>?_) AllReadyH.nil)))
  ·have k143_:K_ (∀(P:Prop) (h:P:=by
   have k105_:K_ (∀(P:Prop) (h:P:=by
   refine wpAnyH_ready (rs:= [17,18]) (by kernel_rfl) (by simp) (AllReadyH.cons rfl (fun K hK=>?_) (AllReadyH.cons rfl (fun K hK=>?_) AllReadyH.nil))
   ·go_simp
    refine hK.o _ _ ?_ (fun hHeld=>?_)
    ·exact q1_
    clear hK K;try simp only [q3_,q4_]
    refine wpAnyH_ready (rs:= [18]) (by kernel_rfl) (by simp) (AllReadyH.cons rfl (fun K hK=>?_) AllReadyH.nil);go_simp
    refine hK.o _ _ ?_ (fun hHeld=>?_)
    ·exact q1_
    clear hK K;try simp only [q3_,q4_]
    have k75_:K_ (∀(P:Prop) (h:P:=by
    go_meet
    with_reducible exact yv_ HB2 (by simp) hd2 hk2 hl2 ho2 hp2
    ),P):=⟨@q6_⟩
    exact m75_
   ·go_simp
    refine hK.o _ _ ?_ (fun hHeld=>?_)
    ·exact q1_
    clear hK K;try simp only [q3_,q4_]
    refine wpAnyH_ready (rs:= [17]) (by kernel_rfl) (by simp) (AllReadyH.cons rfl (fun K hK=>?_) AllReadyH.nil);go_simp
    refine hK.o _ _ ?_ (fun hHeld=>?_)
    ·exact q1_
    clear hK K;try simp only [q3_,q4_]
    have k75_:K_ (∀(P:Prop) (h:P:=by
    go_meet
    with_reducible exact yw_ HB2 (by simp) hd2 hk2 hl2 ho2 hp2
    ),P):=⟨@q6_⟩
    exact m75_
   ),P):=⟨@q6_⟩
   exact m105_
   ),P):=⟨@q6_⟩
   exact m143_
  ·go_simp
   refine hK.o _ _ ?_ (fun hHeld=>?_)
   ·exact q1_
   clear hK K;try simp only [q3_,q4_]
   refine wpAnyH_ready (rs:= [10,18]) (by kernel_rfl) (by simp) (AllReadyH.cons rfl (fun K hK=>?_) (AllReadyH.cons rfl (fun K hK=>?_) AllReadyH.nil))
   ·have k143_:K_ (∀(P:Prop) (h:P:=by
    have HL0:w2.heap[WA.heap.size]?=some (.cells #[.int .i64 0,.int .i64 0,.slice none 0 0,.slice none 0 0,.int .i64 0] 58 (0,0)):=(hb2.block _ (by simp)).trans (World.alloc_heap_new _ _);obtain⟨z0,z1,z2,z3,z4,y0,y1,y2,y3,y4,zz⟩:=a_ HL0;have k105_:K_ (∀(P:Prop) (h:P:=by
    refine wpAnyH_ready (rs:= [18]) (by kernel_rfl) (by simp) (AllReadyH.cons rfl (fun K hK=>?_) AllReadyH.nil);go_simp
    refine hK.o _ _ ?_ (fun hHeld=>?_)
    ·exact q1_
    clear hK K;try simp only [q3_,q4_]
    have k75_:K_ (∀(P:Prop) (h:P:=by
    go_meet
    with_reducible exact yx_ HB2 (by simp) hd2 hk2 hl2 ho2 hp2 HL0 ⟨Nat.le_refl _,by simp⟩
    ),P):=⟨@q6_⟩
    exact m75_
    ),P):=⟨@q6_⟩
    exact m105_
    ),P):=⟨@q6_⟩
    exact m143_
   ·go_simp
    refine hK.o _ _ ?_ (fun hHeld=>?_)
    ·exact q1_
    clear hK K;try simp only [q3_,q4_]
    refine wpAnyH_ready (rs:= [10]) (by kernel_rfl) (by simp) (AllReadyH.cons rfl (fun K hK=>?_) AllReadyH.nil);have k143_:K_ (∀(P:Prop) (h:P:=by
    have k178_:K_ (∀(P:Prop) (h:P:=by
    have k105_:K_ (∀(P:Prop) (h:P:=by
    have k75_:K_ (∀(P:Prop) (h:P:=by
    go_meet
    with_reducible exact la_ HB2 (by simp) hd2 hk2 hl2 ho2 hp2 HL0 HF1 ⟨⟨Nat.le_refl _,by simp⟩,⟨by omega,by simp⟩,by omega⟩
    ),P):=⟨@q6_⟩
    exact m75_
    ),P):=⟨@q6_⟩
    exact m105_
    ),P):=⟨@q6_⟩
    exact m178_
    ),P):=⟨@q6_⟩
    exact m143_
  ·go_simp
   refine hK.o _ _ ?_ (fun hHeld=>?_)
   ·exact q1_
   clear hK K;try simp only [q3_,q4_]
   refine wpAnyH_ready (rs:= [10,17]) (by kernel_rfl) (by simp) (AllReadyH.cons rfl (fun K hK=>?_) (AllReadyH.cons rfl (fun K hK=>?_) AllReadyH.nil))
   ·have k143_:K_ (∀(P:Prop) (h:P:=by
    have HF0:w2.heap[WA.heap.size]?=some (.cells #[.int .i64 0,.int .i64 0,.int .i64 0,.slice none 0 0,.string ⟨#[]⟩] 46 (0,0)):=(hb2.block _ (by simp)).trans (World.alloc_heap_new _ _);obtain⟨t0,t1,t2,t3,t4,k0,k1,k2,k3,k4,tz⟩:=a_ HF0;have k105_:K_ (∀(P:Prop) (h:P:=by
    refine wpAnyH_ready (rs:= [17]) (by kernel_rfl) (by simp) (AllReadyH.cons rfl (fun K hK=>?_) AllReadyH.nil);go_simp
    refine hK.o _ _ ?_ (fun hHeld=>?_)
    ·exact q1_
    clear hK K;try simp only [q3_,q4_]
    have k75_:K_ (∀(P:Prop) (h:P:=by
    go_meet
    with_reducible exact yy_ HB2 (by simp) hd2 hk2 hl2 ho2 hp2 HF0 ⟨Nat.le_refl _,by simp⟩
    ),P):=⟨@q6_⟩
    exact m75_
    ),P):=⟨@q6_⟩
    exact m105_
    ),P):=⟨@q6_⟩
    exact m143_
   ·go_simp
    refine hK.o _ _ ?_ (fun hHeld=>?_)
    ·exact q1_
    clear hK K;try simp only [q3_,q4_]
    refine wpAnyH_ready (rs:= [10]) (by kernel_rfl) (by simp) (AllReadyH.cons rfl (fun K hK=>?_) AllReadyH.nil);have k143_:K_ (∀(P:Prop) (h:P:=by
    have k206_:K_ (∀(P:Prop) (h:P:=by
    have k105_:K_ (∀(P:Prop) (h:P:=by
    have k75_:K_ (∀(P:Prop) (h:P:=by
    go_meet
    with_reducible exact la_ HB2 (by simp) hd2 hk2 hl2 ho2 hp2 HL1 HF0 ⟨⟨by omega,by simp⟩,⟨Nat.le_refl _,by simp⟩,by omega⟩
    ),P):=⟨@q6_⟩
    exact m75_
    ),P):=⟨@q6_⟩
    exact m105_
    ),P):=⟨@q6_⟩
    exact m206_
    ),P):=⟨@q6_⟩
    exact m143_
 have k91_:K_ (∀(P:Prop) (h:P:=by
 have HL1:=h_ (HTG.o.1.setLink (W':=_) bn_ hi HG.o l HLX.o rfl);clear hr hlen fr hgz;go_wp2_with fail
 go_cut [] (fun G=>Turns 35 base X wc s G (s.link i l))
 case first=>
  go_region
  all_goals(
   go_wp2_with fail
   go_meet
   exact HL1.o.la (Below.drew (Below.refl _ _)))
 rename World=>w2
 have HL1:=h_ hcut;have hws:=hcut.2.1.size;clear hcut b0 b1 b2 b3 b4 bz e5 e6 e7 e8 e9 f5 f6 f7 f8 f9 hBg hgB x5 xz hBX hXB hil;go_wp2_with fail
 refine(vz_ w2 base X (s.link i l) i (by simp [NodeV.link];exact HI.o) HL1.o.1 A c K ?_ (by have h1:=HPL.o;have h2:=HLR.o.1;rw [<-HKD.o,List.length_map]at h1;show s.L.length+_<=_;omega)).mono ?_
 ·refine HKX.o.mv fun b hb=>?_;obtain⟨k1,k2⟩:=HL1.o.2.2 b (bez_ hb.2);have hs:(s.link i l).n.sOwn=s.n.sOwn:=by simp [NodeV.sOwn,NodeV.link]
  refine⟨⟨by have:=HXA.o;omega,⟨hb.2.1.1,k1.1.2⟩,k1.2.1,k1.2.2.1,k1.2.2.2.1,k1.2.2.2.2⟩,k2⟩
 have k225_:K_ (∀(P:Prop) (h:P:=by
 have HOF3:=h_ (show Off w3 X ((s.link i l).post A' c' ((s.link i l).n.S[i]'(by simp [NodeV.link];exact HI.o)).p K) F from(hst F (HTU.o.1.fresh HBF.o.2 (Array.getElem?_eq_some_iff.1 HFB.o).1)).1);have HLK:=h_ (show((s.link i l).post A' c' ((s.link i l).n.S[i]'(by simp [NodeV.link];exact HI.o)).p K).d=linkDD s.d i LD PD by rw [rx_ s i l A' c' K,HLD.o,HKD.o]);have HI3:=h_ (show i<((s.link i l).post A' c' ((s.link i l).n.S[i]'(by simp [NodeV.link];exact HI.o)).p K).n.S.length by simp [NodeV.link];exact HI.o);have HS3:=h_ (show((s.link i l).post A' c' ((s.link i l).n.S[i]'(by simp [NodeV.link];exact HI.o)).p K).n.Small from oz_ HS.o HI.o (HSM.o.link l HLD.o));have HL3:=h_ (show((s.link i l).post A' c' ((s.link i l).n.S[i]'(by simp [NodeV.link];exact HI.o)).p K).L.length<=1000000000∧((s.link i l).post A' c' ((s.link i l).n.S[i]'(by simp [NodeV.link];exact HI.o)).p K).RL.length<=1048576 from⟨by have h1:=HPL.o;have h2:=HLR.o.1;rw [<-HKD.o,List.length_map]at h1;simp only [List.length_append,List.length_map];omega,HLR.o.2⟩);have HG3:=h_ (show((s.link i l).post A' c' ((s.link i l).n.S[i]'(by simp [NodeV.link];exact HI.o)).p K).n.sA=some ⟨g,0,none⟩from HG.o);clear hst hp3 hws;generalize((s.link i l).post A' c' ((s.link i l).n.S[i]'(by simp [NodeV.link];exact HI.o)).p K)=s3 at*;obtain⟨t0,t1,t2,t3,t4,_,_,_,_,_,tz⟩:=a_ HFW.o;obtain⟨x0,x1,x2,x3,x4,x5,x6,x7,x8,x9,xz⟩:=j_ HP3.o.1.busy.blk;rw [HG3.o]at x5;have hr:=HP3.o.1.busy.srow;rw [HG3.o]at hr;have hi3:=HI3.o;have s1:w3.cell? ⟨g,i*10+1,none⟩=some (.bool s3.n.S[i].j):=by
  rw [hr.cellAt (i*10+1) (by omega),bx_ SideV.cells 10 SideV.cells_len s3.n.S i 1 hi3 (by omega)];rfl
 have s1f:=hr.frozenAt (i*10+1);have hgz:=(hr.lt g rfl).2;have hgX: ¬g=X:=fun e=>s_ HP3.o.1.busy.srow HP3.o.1.busy.blk bn_.s (by rw [HG3.o,e];rfl);have hXg: ¬X=g:=fun e=>hgX e.symm;have hil:(i:Int)<(s3.n.S.length:Int):=by omega
 have h0l:(0:Int)<(s3.n.S.length:Int):=by omega
 have HDG:=h_ (show s3.d.n.S.getD i default=s3.n.S[i].d by
  show(s3.n.S.map SideV.d).getD i default=_;rw [ci_,List.getD_eq_getElem?_getD,List.getElem?_eq_getElem hi3];rfl)
 have HTD:Hid ((FD.kind=1∧s3.n.S[i].j=true->toldDD s3.d i FD=heardDD s3.d i FD)∧(¬(FD.kind=1∧s3.n.S[i].j=true)->(FD.kind=3∧i=0∧0<s3.n.me∧s3.n.S[i].j=false∧FD.epoch=s3.n.ep->toldDD s3.d i FD=wholeDD s3.d FD.text)∧(¬(FD.kind=3∧i=0∧0<s3.n.me∧s3.n.S[i].j=false∧FD.epoch=s3.n.ep)->toldDD s3.d i FD=s3.d))):=h_ (by
  unfold toldDD;rw [HDG.o];exact⟨fun k=>if_pos k,fun k=>⟨fun q=>by rw [if_neg k,if_pos q],fun q=>by rw [if_neg k,if_neg q]⟩⟩)
 have HHD:=h_ (fun(_:True)=>bfa_ w3 base X s3 i hi3 ⟨FD.kind,FD.heard,FD.epoch,⟨fA,fc,FD.op⟩,FD.text⟩ (fun W hb=>HT.o W (HP3.o.2.1.trans hb)) HP3.o.1 HO3.o HSM.o.op HS3.o HL3.o.1 HL3.o.2);obtain⟨j,hj⟩:=q2_ (s3.n.S[i].j);have HJ:=h_ hj;rw [<-hj]at s1 HTD;clear hr hj;go_upto_region 5 with fail
 go_cut [59] (fun t G=>w3=G∧t= .bool (decide (told=true∧FD.kind=1∧j=true)))
 case first=>
  cases told
  ·go_wp2_with fail
   go_meet
   exact⟨rfl,by simp⟩
  ·by_cases hk:FD.kind=1
   ·have hk1:(FD.kind==1)=true:=(by simpa using hk);have HK9:=h_ hk;clear hk;go_wp2_with fail
    go_meet
    exact⟨rfl,by simp [HK9.o]⟩
   ·have hk1:(FD.kind==1)=false:=(by simpa using hk);have HK9:=h_ hk;clear hk;go_wp2_with fail
    go_meet
    exact⟨rfl,by simp [HK9.o]⟩
 obtain⟨rfl,rfl⟩:=hcut;by_cases hc:told=true∧FD.kind=1∧j=true
 ·have HE:=h_ (HTD.o.1 hc.2);have HSX:=h_ (HSD.o.trans (if_pos hc.1));have hk3:(FD.kind==3)=false:=by have h9:=hc.2.1;rw [h9];rfl
  have ht:=hc.1;rw [decide_eq_true hc];clear hc;subst ht;go_wp2_with fail
  refine(HHD.o trivial).mono ?_;rintro r w4 ⟨rfl,s4,k1,k2,k3,k4⟩;have HK4:=h_ (HP3.o.trans ⟨k1,k3,k4⟩);have HD4:=h_ (show s4.d=sessDD s.d i p.d by rw [HSX.o,<-HLK.o,HE.o];exact k2);have HF4:=(k4 F HOF3.o).2.trans HFW.o;clear k1 k2 k3 k4 t0 t1 t2 t3 t4 x0 x1 x2 x3 x4 x5 x6 x7 x8 x9 s1 s1f;obtain⟨t0,t1,t2,t3,t4,_,_,_,_,_,tz⟩:=a_ HF4;go_wp2_with fail
  go_quiet (fail)
  go_wp2_with fail
  exact bodyPost_end (results_none rfl _ _ _) rfl ⟨rfl,s4,(HK4.o.la bz_).1,HD4.o,(HK4.o.la bz_).2.1,(HK4.o.la bz_).2.2⟩
 ·have HNC:=h_ hc;rw [decide_eq_false hc];clear hc;go_upto_region 7 with fail
  go_cut [102] (fun t G=>Below w3.heap.size w3 G∧t= .bool (decide (told=true∧FD.kind=3∧i=0∧0<s3.n.me∧j=false∧FD.epoch=s3.n.ep)))
  case first=>
   cases told
   ·go_quiet (fail)
    go_wp2_with fail
    go_meet
    exact⟨bz_,by simp⟩
   ·by_cases hk:FD.kind=3
    ·have HK31:(FD.kind==3)=true:=(by simpa using hk);have HK3:=h_ hk;clear hk;by_cases h0:i=0
     ·have H031:((i:Int)==0)=true:=(by simpa using h0);have H03:=h_ h0;clear h0;have s10:w3.cell? ⟨g,1,none⟩=some (.bool j):=(by have h9:=s1;rw [H03.o]at h9;simpa using h9);by_cases hm:0<s3.n.me
      ·have HM31:decide (0<s3.n.me)=true:=(by simpa using hm);have HM3:=h_ hm;clear hm;cases j
       ·by_cases he:FD.epoch=s3.n.ep
        ·have HE31:(FD.epoch==s3.n.ep)=true:=(by simpa using he);have HE3:=h_ he;clear he;go_quiet (fail)
         go_wp2_with fail
         go_meet
         exact⟨bz_,by simp [HK3.o,H03.o,HM3.o,HE3.o]⟩
        ·have HE31:(FD.epoch==s3.n.ep)=false:=(by simpa using he);have HE3:=h_ he;clear he;go_quiet (fail)
         go_wp2_with fail
         go_meet
         exact⟨bz_,by simp [HE3.o]⟩
       ·go_quiet (fail)
        go_wp2_with fail
        go_meet
        exact⟨bz_,by simp⟩
      ·have HM31:decide (0<s3.n.me)=false:=(by simpa using hm);have HM3:=h_ hm;clear hm;go_quiet (fail)
       go_wp2_with fail
       go_meet
       exact⟨bz_,by rw [decide_eq_false (fun q=>absurd q.2.2.2.1 (by have:=HM3.o;omega))]⟩
     ·have H031:((i:Int)==0)=false:=(by simpa using h0);have H03:=h_ h0;clear h0;go_quiet (fail)
      go_wp2_with fail
      go_meet
      exact⟨bz_,by rw [decide_eq_false (fun q=>absurd q.2.2.1 H03.o)]⟩
    ·have HK31:(FD.kind==3)=false:=(by simpa using hk);have HK3:=h_ hk;clear hk;go_quiet (fail)
     go_wp2_with fail
     go_meet
     exact⟨bz_,by rw [decide_eq_false (fun q=>absurd q.2.1 HK3.o)]⟩
  obtain⟨hbc,rfl⟩:=hcut;have HTC:=h_ (HP3.o.la hbc);by_cases hc:told=true∧FD.kind=3∧i=0∧0<s3.n.me∧j=false∧FD.epoch=s3.n.ep
  ·have HSX:=h_ (HSD.o.trans (if_pos hc.1));have HE2:=h_ ((HTD.o.2 (fun q=>HNC.o ⟨hc.1,q⟩)).1 hc.2);have h0:i=0:=hc.2.2.1;rw [decide_eq_true hc];clear hc;have HF4:=(Stay.of_below hbc F HOF3.o).2.trans HFW.o;have t1':=(hbc.cell (p:=⟨g,i*10+1,none⟩) hgz).trans s1;have tf:=(hbc.frozen (p:=⟨g,i*10+1,none⟩) hgz).trans s1f;clear t0 t1 t2 t3 t4 x0 x1 x2 x3 x4 x5 x6 x7 x8 x9 xz s1 s1f hbc;obtain⟨t0,t1,t2,t3,t4,_,_,_,_,_,tz⟩:=a_ HF4;obtain⟨_,_,_,x3,x4,x5,_,_,_,_,xz⟩:=j_ HTC.o.1.busy.blk;rw [HG3.o]at x5;have f3:=tenF HTC.o.1.busy.blk 3;have f4:=tenF HTC.o.1.busy.blk 4;subst h0;have t9:wc.cell? ⟨g,1,none⟩=some (.bool j):=(by simpa using t1');have t9f:wc.frozen? ⟨g,1,none⟩=false:=(by simpa using tf);have HA1:=h_ (HTC.o.1.setRd bn_ true);have HA2:=h_ (HA1.o.trans (EdAt.setText bn_ HA1.o.1 FD.text));have HA3:=h_ (HA2.o.trans (EdAt.setCell1 (i:=0) bn_ HA2.o.1 HI3.o HG3.o true));clear t1' tf;go_wp2_with fail
   have HA4:=HTC.o.trans HA3.o;refine bodyPost_end (results_none rfl _ _ _) rfl ⟨rfl,_,HA4.1,?_,HA4.2.1,HA4.2.2⟩;rw [HSX.o,<-HLK.o,HE2.o,ix_];unfold wholeDD;refine EdD.ext' ?_ rfl rfl;dsimp only;rw [HDG.o]
  ·have HE2:=h_ (show sessDD s.d i p.d=s3.d by
    rw [HSD.o,<-HLK.o];cases told
    · exact if_neg (by decide)
    · rw [if_pos rfl]
      exact(HTD.o.2 (fun q=>HNC.o ⟨rfl,q⟩)).2 (fun q=>hc ⟨rfl,q⟩))
   rw [decide_eq_false hc];clear hc;go_wp2_with fail
   exact bodyPost_end (results_none rfl _ _ _) rfl ⟨rfl,s3,HTC.o.1,HE2.o.symm,HTC.o.2.1,HTC.o.2.2⟩
 ),P):=⟨@q6_⟩
 exact m225_
 ),P):=⟨@q6_⟩
 exact m91_
 ),P):=⟨@q6_⟩
 exact m62_
 ),P):=⟨@q6_⟩
 exact m94_
end Go.Proofs.YtacacoklddogmaaGreatDoor
