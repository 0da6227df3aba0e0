/- Lemmas. -/
import Derived.Test.YtacacoklddogmaaGreatDoorKFilled
import Derived.Test.YtacacoklddogmaaGreatDoorKJAI
import Derived.Test.YtacacoklddogmaaGreatDoorKJAW
namespace Go.Proofs.YtacacoklddogmaaGreatDoor
set_option maxHeartbeats 4000000
open Go.ChangeShapes Go.WideShapes Go.ChangeAt Go.RowKit
set_option maxRecDepth 100000
theorem m2_{P:Prop}(h:P:=by
 obtain⟨i0,hi0,hz0,hz1,hz2⟩:=info_parts infoPacket;obtain⟨j0,hj0,hy0,hy1,hy2⟩:=info_parts infoFrame;obtain⟨k0,hk0,hx0,hx1,hx2⟩:=info_parts infoInt;obtain⟨W1,hW1⟩:=q2_ (w.alloc (.cells #[.int .i64 l.e,.int .i64 l.n,.slice l.sA l.s.length l.sc,.slice l.qA l.q.length l.qc,.int .i64 l.h] 58));obtain⟨WA,hWA⟩:=q2_ (W1.alloc (.cells #[.int .i64 0,.int .i64 0,.slice none 0 0,.slice none 0 0,.int .i64 0] 58));have k204_:K_ (∀(P:Prop) (h:P:=by
 have HBA:=h_ (bThen k1 k2);have HLA:=h_ (LinkSy.of hi hqc HBA.o ((k2.block _ (by omega)).trans (by rw [hW1];exact heap_alloc_new _ _)));have HRA:=h_ (show LinkAt WA (w.heap.size+1) zeroL by rw [←g1,hWA];exact heap_alloc_new _ _);have HW:=h_ (show(w.alloc (.cells #[.int .i64 l.e,.int .i64 l.n,.slice l.sA l.s.length l.sc,.slice l.qA l.q.length l.qc,.int .i64 l.h] 58)).alloc (.cells #[.int .i64 0,.int .i64 0,.slice none 0 0,.slice none 0 0,.int .i64 0] 58)=WA by rw [hWA,hW1]);obtain⟨P,hP⟩:=q2_ (w.heap.size);have HE:=h_ hP;have hPz:P+2=WA.heap.size:=by omega
 rw [←hP]at HLA HRA;have HM:=h_ hm;clear hP k1 k2 g1 g2 hWA hW1 hi hm;go_enter Tryz.func117,Tryz.ntmps117
 go_wp2_with fail
 rw [HW.o,←HE.o];go_loopw [4] (fun new wr=> ∃(m:Nat) (lm:LinkV) (An:OA_) (cn:Nat),new= .slice An m cn∧lm.d=moveL l.d m∧m≤l.q.length∧l.s.length+m≤8∧l.n+m≤1048576∧wr.ownsRow WA.heap.size 3 1 (.slice An m cn) m ((List.range m).map fun i=>Value.int .i64 (l.n+(i:Nat)))∧LinkSy lo wr P (Value.slice An m cn).ownBlock lm∧LinkAt wr (P+1) zeroL∧((∀f∈lm.s,f.o.ps.length≤1048576)∧ ∀f∈lm.q,f.o.ps.length≤1048576)∧Below w.heap.size w wr∧WA.heap.size≤wr.heap.size) (fun _ wr=>8 - lenAt wr P)
 case atStart=>exact⟨0,l,none,0,rfl,by unfold moveL;simp,Nat.zero_le _,by omega,by omega,World.ownsRow_nil _ _ _ _,HLA.o,HRA.o,HM.o,HBA.o,Nat.le_refl _⟩
 case round=>
  obtain⟨m,lm,An,cn,rfl,hd,hm1,hm2,hm3,hnew,hL,hR,hM,hbw,hsz⟩:=hrel;obtain⟨e,n,sA,sc,s,qA,qc,q,hh⟩:=lm;have hd':=hd;simp only [LinkV.d,moveL,LinkD.mk.injEq]at hd';obtain⟨d1,d2,d3,d4,d5⟩:=hd';have HSL:=h_ (show s.length=l.s.length+m by
   have:=congrArg List.length d3;simp at this;omega)
  have HQL:=h_ (show q.length=l.q.length - m by
   have:=congrArg List.length d4;simpa using this)
  have HN:=h_ d2;dsimp only at hM;have HD:=h_ hd;have HL:=h_ hL;have HM:=h_ hM;have HNW:=h_ hnew;have HR:=h_ hR;have HBW:=h_ hbw;obtain⟨x0,x1,x2,x3,x4,f0,f1,f2,f3,f4,hxz⟩:=a_ hL.at_;have hl0:=h_ (gb_ x2)
  (try dsimp only at x0 x1 x2 x3 x4)
  clear hd hL hR hM hbw hnew d1 d2 d3 d4 d5;by_cases hgo:0<q.length∧s.length<8∧n<1048576
  ·obtain⟨c1,c2,c3⟩:=hgo;cases q with
   | nil=>simp at c1
   | cons fr q=>
   go_wp2_with(refine bb_ rfl ?_)
   refine⟨?_⟩;refine l_ _ rfl _ _ 22 rfl WA.heap.size 3 k0 (.int .i64 0) 1 8 Tryz.underlying22 hk0 hx0 hx1 hx2 rfl (by decide) _ _ _ rfl (HNW.o.alloc _) (fun _=>True) _ _ _ _ rfl (bl_ (by rfl) (by simp)) ?c1 ?c2 ?c3 ?c4 ?_
   case c1=>intro u hu;simp at hu;subst hu;rfl
   case c2=>unfold maxLen;omega
   case c3=>omega
   case c4=>simp;omega
   intro A1 c1' wa hownN hgrowN hatN;have hnP:(Value.slice An m cn).ownBlock≠some P:=fun e1=>by have:=(HNW.o.lt P e1).1;omega
   have hnR:(Value.slice An m cn).ownBlock≠some (P+1):=fun e1=>by have:=(HNW.o.lt _ e1).1;omega
   have HLA2:=h_ (HL.o.grown hnP bA_ hgrowN hatN);have HRA2:=h_ (show LinkAt wa (P+1) zeroL from(hgrowN.block _ (by simp;omega) (fun e1=>hnR e1.symm)).trans ((q_ _ _ _ (by omega)).trans HR.o));have HBA2:=h_ (Below.grown (bAlloc HBW.o _) hgrowN (by have:=HBW.o.size;simp;omega) (fun g hg=>by have:=(HNW.o.lt g hg).1;have:=HE.o;omega));have hza:=hgrowN.size;simp at hza;have HNA:=h_ (show wa.ownsRow WA.heap.size 3 1 (.slice A1 (m+1) c1') (m+1) ((List.range (m+1)).map fun i=>Value.int .i64 (l.n+(i:Nat))) by
    rw [List.range_succ,List.map_append];have h9:=HN.o
    (try dsimp only at h9)
    simpa [h9]using hownN)
   clear hownN hgrowN hatN hnP hnR x0 x1 x2 x3 x4 f0 f1 f2 f3 f4 hxz;obtain⟨b,o,rfl,hbs,hcq⟩:=bh_ FrameV.cells 5 FrameV.cells_len HLA2.o.qr (k:=0) c1;have g0:=hcq 0 _ rfl;have g1:=hcq 1 _ rfl;have g2:=hcq 2 _ rfl;have g3:=hcq 3 _ rfl;have g4:=hcq 4 _ rfl;simp only [List.getElem_cons_zero,Nat.zero_mul,Nat.add_zero]at g0 g1 g2 g3 g4;have HOP:=h_ (show OpIn (· <wa.heap.size) wa fr.o.A fr.o.ps from(HLA2.o.q fr (by simp)).mv fun _ hb=>⟨hb.1.2,rfl⟩);have hsm:=HM.o.2 fr (by simp);obtain⟨fk,fh,fe,⟨fA,fc,fp⟩,fs⟩:=fr;dsimp only [FrameV.o,OpV.val]at g0 g1 g2 g3 g4
   (try dsimp only at hsm)
   clear hcq;obtain⟨x0,x1,x2,x3,x4,f0,f1,f2,f3,f4,hxz⟩:=a_ HLA2.o.at_
   (try dsimp only at x0 x1 x2 x3 x4)
   have HC1:=h_ (fun W hs=>cc_ W sA sc s hs (by have:=HSL.o;omega) HM.o.1);have HC2:=h_ (fun W hs=>dk_ W fk fh fe fA fc fp fs hs hsm);go_wp2_with(refine z_ ?_)
   refine⟨?_⟩;have hnb: ∀g,(Value.slice A1 (m+1) c1').ownBlock=some g→g<wa.heap.size:=fun g hg=>(HNA.o.lt g hg).2;have hPw:P<WA.heap.size:=(by omega);have hnP:(Value.slice A1 (m+1) c1').ownBlock≠some P:=fun e1=>by have:=(HNA.o.lt P e1).1;omega
   apply cutH
   ·intro hΦ;go_region_law (first
     | (refine bg_ _ rfl _ _ 56 rfl _ 46 j0 (.agg #[.int .i64 0,.int .i64 0,.int .i64 0,.slice none 0 0,.string ⟨#[]⟩]) 5 64 Tryz.underlying56 hj0 hy0 hy1 hy2 rfl (by decide) _ _ _ rfl (RowOwn.la ho2 bz_).row (fun _=>True) _ _ _ _ rfl (bl_ (by rfl) (by simp)) ?_ ?_ ?_ ?_ ?_;(intro u hu;simp at hu;rcases hu with rfl | rfl | rfl | rfl | rfl <;> rfl);(have:=HSL.o;have:=hl2.o;unfold maxLen;omega);(have:=HSL.o;have:=hl2.o;omega);(simp <;> omega);intro A4 c4 we hown' hgrow hat;obtain⟨v0,v1,v2,v3,v4,z0,z1,z2,z3,z4,yz⟩:=a_ (HLA2.o.la (eg_ hgrow bz_ (fun g hg=>by have:=(ho2.row.lt g hg).1;simp at this;omega))).at_)
     | (go_simp;go_at_call 42;refine(HC1.o _ ?_).mono ?_;exact HLA2.o.in_.s.la bz_;rintro r wc ⟨A2,c2',L2,rfl,hd2,ho2,hb2⟩;(have hl2:=h_ (show L2.length=s.length from(by rw [←List.length_map (f:=FrameV.d),hd2,List.length_map])));obtain⟨⟨d2,os2⟩,rfl⟩:=e_ hb2)
     | (go_simp;go_at_call 82;refine(HC2.o _ ?_).mono ?_;exact Sl.la HOP.o bz_;rintro r wd ⟨A3,c3,rfl,ho3,hb3⟩;obtain⟨⟨d3,os3⟩,rfl⟩:=e_ hb3))
    all_goals(
     obtain⟨WQ,hWQ,hgQ,hbQ⟩:=es_ (W4:=wa) hgrow bz_;have hll:(L2++ [(⟨fk,fh,fe,⟨A3,c3,fp⟩,fs⟩:FrameV)]).length=L2.length+1:=(by simp);have hP2:=RowOwn.push2 (x:=(⟨fk,fh,fe,⟨A3,c3,fp⟩,fs⟩:FrameV)) (base:=wa.heap.size) (RowOwn.mono ho2 (by simp)) (by simp) (W2:=WQ) (by rw [hWQ];exact bz_) (dw_ ho3 (by simp) (by rw [hWQ];exact bz_)) hgQ (vv_ hown' (by simp)) (by rw [hWQ];exact hat);have hBe:=eg_ hgQ hbQ (fun g hg=>by have:=(ho2.row.lt g hg).1;simp at this;omega);refine u_ (fun G=>LinkSy lo G P (Value.slice A1 (m+1) c1').ownBlock ⟨e,n,A4,c4,L2++ [(⟨fk,fh,fe,⟨A3,c3,fp⟩,fs⟩:FrameV)],some ⟨b,o,none⟩,qc,(⟨fk,fh,fe,⟨fA,fc,fp⟩,fs⟩:FrameV) :: q,hh⟩∧LinkAt G (P+1) zeroL∧G.ownsRow WA.heap.size 3 1 (.slice A1 (m+1) c1') (m+1) ((List.range (m+1)).map fun i=>Value.int .i64 (l.n+(i:Nat)))∧Below w.heap.size w G∧wa.heap.size≤G.heap.size) ⟨(HLA2.o.la hBe).sent hP2 (by omega) (by omega) hnb hll,(bH_ (by show P+1≠P;omega)).trans ((hBe.block _ (by omega)).trans HRA2.o),hl_ (ib_ HNA.o hBe) hnP,bSet (bThen HBA2.o hBe) (by have:=HE.o;show w.heap.size≤P;omega) _,by have:=hBe.size;simp [World.setCell];omega⟩ ?_;have HLL2:=h_ hl2.o;have HD2:=h_ hd2;clear hP2 hBe hWQ hgQ hbQ hown' hgrow hat ho2 ho3 hb2 hb3 v0 v1 v2 v3 v4 z0 z1 z2 z3 z4 yz hl2 hd2;clear WQ we d2 d3;revert os2 os3 A2 c2' L2 A3 c3 A4 c4;exact Hid.o hΦ)
   ·intro A2 c2' L2 os2 A3 c3 os3 A4 c4 hll HLL2 HD2;rintro G ⟨hLG,hRG,hNG,hBG,hzG⟩;have HLG:=h_ hLG;have HRG:=h_ hRG;have HNG:=h_ hNG;have HBG:=h_ hBG;clear x0 x1 x2 x3 x4 f0 f1 f2 f3 f4 hxz g0 g1 g2 g3 g4;obtain⟨x0,x1,x2,x3,x4,f0,f1,f2,f3,f4,hxz⟩:=a_ hLG.at_
    (try dsimp only at x0 x1 x2 x3 x4)
    have HFI:=h_ (show(qc=1→FramesIn G (some ⟨b,o,none⟩) q)∧(¬qc=1→FramesIn G (some ⟨b,o+5,none⟩) q)from by
     have hcap:q.length+1≤qc:=hLG.qcap;refine⟨fun h1=>?_,fun h1=>?_⟩
     · have hq0:q= []:=List.eq_nil_of_length_eq_zero (by omega)
       subst hq0;exact⟨⟨by simp,fun h=>absurd h (by simp)⟩,by simp⟩
     · have hqr:Sl (fun b=>(lo≤b∧b<G.heap.size)∧b≠P∧b≠P+1∧(Value.slice A1 (m+1) c1').ownBlock≠some b) G 5 (some ⟨b,o,none⟩) (q.length+1) ((⟨fk,fh,fe,⟨fA,fc,fp⟩,fs⟩:FrameV).cells++q.flatMap FrameV.cells):=hLG.qr
       exact⟨(hqr.tail rfl (by omega)).mv fun _ hb=>⟨hb.1.2,rfl⟩,fun f hf=>(hLG.q f (List.mem_cons_of_mem _ hf)).mv fun _ hb=>⟨hb.1.2,rfl⟩⟩)
    have HC3:=h_ (fun W A' cc hs=>cc_ W A' cc q hs (by have:=HQL.o;simp at this;omega) (fun f hf=>HM.o.2 f (List.mem_cons_of_mem _ hf)));clear hLG hRG hNG hBG;have hw:wrap64 (n+1)=n+1:=(by have:=HN.o;unfold wrap64;omega);have hcase:qc=1∨ ¬qc=1:=(by omega);rcases hcase with rfl | hq1
    all_goals(
     go_wp2_with fail
     refine(HC3.o _ _ _ (by first | exact HFI.o.1 trivial | exact HFI.o.1 rfl | exact HFI.o.1 (by assumption) | exact HFI.o.2 (by assumption) | exact HFI.o.2 (by omega))).mono ?_;rintro r wf ⟨A5,c5,L5,rfl,hd5,ho5,hb5⟩;have HLF:=h_ (HLG.o.la hb5);have hRf:=h_ ((hb5.block _ (a_ HRG.o).2.2.2.2.2.2.2.2.2.2).trans HRG.o);have hNf:=h_ (ib_ HNG.o hb5);have hBf:=h_ (bThen HBG.o hb5);have hzf:=hb5.size;have HO5:=h_ ho5;have HD5:=h_ hd5;clear ho5 hd5 hb5 x0 x1 x2 x3 x4 f0 f1 f2 f3 f4 hxz;obtain⟨x0,x1,x2,x3,x4,f0,f1,f2,f3,f4,hxz⟩:=a_ HLF.o.at_
     (try dsimp only at x0 x1 x2 x3 x4)
     go_wp2_with fail
     (try rw [hw])
     have hPP: ∀j:Nat,(⟨P,j,none⟩:Addr).block=P:=fun _=>rfl;have hF:=(HLF.o.queue HO5.o (by omega) (by omega) (fun g hg=>by have:=hnb g hg;omega) rfl).next (n+1);have hll2:(L2++ [(⟨fk,fh,fe,⟨A3,c3,fp⟩,fs⟩:FrameV)]).length=s.length+1:=(by rw [hll,HLL2.o]);have hsl:=HSL.o;have hql:=HQL.o;have hnn:=HN.o;have hw1:=HE.o;go_roundw
     case rel=>
      exact⟨m+1,⟨e,n+1,A4,c4,L2++ [(⟨fk,fh,fe,⟨A3,c3,fp⟩,fs⟩:FrameV)],A5,c5,L5,hh⟩,A1,c1',by simp,(show LinkD.mk e (n+1) ((L2++ [(⟨fk,fh,fe,⟨A3,c3,fp⟩,fs⟩:FrameV)]).map FrameV.d) (L5.map FrameV.d) hh=_ by rw [List.map_append,HD2.o,HD5.o];exact jh_ HD.o),by simp at hql;omega,by omega,by(try dsimp only at hnn);push_cast;omega,hl_ (hl_ hNf.o hnP) hnP,hF,(bH_ (by show P+1≠P;omega)).trans ((bH_ (by show P+1≠P;omega)).trans hRf.o),
       ⟨fun f hf=>by
        rcases List.mem_append.1 hf with hf | hf
        · exact oy_ HD2.o HM.o.1 f hf
        · obtain rfl:=List.mem_singleton.1 hf
          exact hsm,oy_ HD5.o (fun f hf=>HM.o.2 f (List.mem_cons_of_mem _ hf))⟩,bSet (bSet hBf.o (p:=⟨P,3,none⟩) (by show w.heap.size≤P;omega) _) (p:=⟨P,1,none⟩) (by show w.heap.size≤P;omega) _,by simp [World.setCell];omega⟩
     case measure=>
      have h2:=gb_ (a_ hF.at_).2.2.1;rw [h2,hl0.o]
      (try dsimp only)
      rw [hll2];omega)
  ·have hmN:m=fillN l.d:=by
    have h1:=HSL.o;have h2:=HQL.o;have h3:=HN.o
    (try dsimp only at h3)
    unfold fillN;simp only [List.length_map];omega
   have HF:=h_ (show(⟨e,n,sA,sc,s,qA,qc,q,hh⟩:LinkV).d=fillL l.d from HD.o.trans (by rw [hmN];rfl));have HMN:=h_ (show m=fillN l.d from hmN);have hn1:1≤n∧n≤1048576∧s.length≤8:=(by have:=HN.o;have:=HSL.o;exact⟨by omega,by omega,by omega⟩);have HPK:=h_ (fun W k hk2 hs=>pe_ W ⟨e,n,sA,sc,s,qA,qc,q,hh⟩ k hk2 hs HM.o.1 hn1);dsimp only at HPK;obtain⟨w1,hw1⟩:=q2_ (wr);subst hw1;clear hmN;have hm8:m≤8:=(by omega);have HIX:=h_ (show∀k:Nat,k<m→IntKind.i64.wrap (l.n+(k:Int) - IntKind.i64.wrap (n - (s.length:Int)))=((l.s.length+k:Nat):Int)from fun k hk=>by
    have h1:=HSL.o;have h2:=HN.o
    (try dsimp only at h2)
    rw [IntKind.wrap_i64,IntKind.wrap_i64];omega)
   have hsm1:=HSL.o;have HSM:=h_ hsm1;clear hsm1;go_wp2_with fail
   all_goals(
    go_loopw [5,6] (fun out i wr=> ∃(L':List PacketV) (Ao:OA_) (co:Nat),i= .int .i64 (L'.length:Nat)∧L'.length≤m∧out= .slice Ao L'.length co∧Hid (L'.map PacketV.d=(List.range L'.length).map (fun i=>packetX (fillL l.d) (l.s.length+i)))∧PacketsOwn wr w1.heap.size Ao co L'∧Below w1.heap.size w1 wr) (fun _ i _=>m - (intOf i).toNat)
    case atStart=>exact⟨[],none,0,rfl,Nat.zero_le _,rfl,rfl,RowOwn.nil _ _,Below.refl _ _⟩
    case round=>
     obtain⟨L',Ao,co,rfl,hjs,rfl,hps,hown,hbw⟩:=hrel;clear x0 x1 x2 x3 x4 f0 f1 f2 f3 f4 hxz;have HLR:=h_ (HL.o.la hbw);obtain⟨x0,x1,x2,x3,x4,f0,f1,f2,f3,f4,hxz⟩:=a_ HLR.o.at_;have hsz2:=hbw.size
     (try dsimp only at x0 x1 x2 x3 x4)
     by_cases hlt:L'.length<m
     ·have HT:=h_ (show(List.range (L'.length+1)).map (fun i=>packetX (fillL l.d) (l.s.length+i))=(List.range L'.length).map (fun i=>packetX (fillL l.d) (l.s.length+i))++ [packetD ⟨e,n,sA,sc,s,qA,qc,q,hh⟩ (l.s.length+L'.length)] by rw [List.range_succ,List.map_append,←kn_,HF.o];rfl);have HP:=h_ (fun W hs=>HPK.o W (l.s.length+L'.length) (by have:=HSM.o;omega) hs);obtain⟨b,o,rfl,hbn,hcn⟩:=(Sl.of_own _ HNW.o).2 (by omega);have hcn1:=hcn L'.length (.int .i64 (l.n+(L'.length:Nat))) (by rw [List.getElem?_map,List.getElem?_range hlt];rfl);have hcn2:=(hbw.cell (p:=⟨b,o+L'.length,none⟩) hbn.2).trans hcn1;have HO:=h_ hown;have hix:=HIX.o L'.length hlt;have HBW2:=h_ hbw;have hbr:b<wr.heap.size:=(by have:=hbn.2;omega);clear hown;have hcn0:((List.range m).map fun i=>Value.int .i64 (l.n+(i:Nat)))[L'.length]?=some (.int .i64 (l.n+(L'.length:Nat))):=(by rw [List.getElem?_map,List.getElem?_range hlt];rfl);generalize packetD ⟨e,n,sA,sc,s,qA,qc,q,hh⟩ (l.s.length+L'.length)=pk at*;obtain⟨pe,pn,pb,pa,⟨fk,fh,fe,fp,fs⟩⟩:=pk;unfold RetPacket at HP;dsimp only at HP;have HIX2:=h_ hix;clear hix;go_wp2_with(refine z_ ?_)
      refine⟨?_⟩;go_region_held3 (fun w'=>w'.cell? ⟨P,0,none⟩=some (.int .i64 e)∧w'.cell? ⟨P,1,none⟩=some (.int .i64 n)∧w'.cell? ⟨P,2,none⟩=some (.slice sA s.length sc)∧w'.cell? ⟨P,3,none⟩=some (.slice qA q.length qc)∧w'.cell? ⟨P,4,none⟩=some (.int .i64 hh)∧w'.cell? ⟨b,o+L'.length,none⟩=some (.int .i64 (l.n+(L'.length:Nat))))
       (go_keep)
       ((first
         | (refine bg_ _ rfl _ _ 90 rfl w1.heap.size 48 i0 (.agg #[.int .i64 0,.int .i64 0,.bool false,.int .i64 0,.int .i64 0,.int .i64 0,.int .i64 0,.slice none 0 0,.string ⟨#[]⟩]) 9 96 Tryz.underlying90 hi0 hz0 hz1 hz2 rfl (by decide) _ _ _ rfl (HO.o.la bz_).row (fun _=>True) _ _ _ _ rfl (bl_ (by rfl) (by simp)) ?_ ?_ ?_ ?_ ?_;(intro u hu;simp at hu;rcases hu with rfl | rfl | rfl | rfl | rfl | rfl | rfl | rfl | rfl <;> rfl);(unfold maxLen;omega);omega;(simp <;> omega);intro A4 c4 we hown' hgrow hat;(have hBe0:=eg_ (w0:=w1) hgrow (bThen HBW2.o bz_) (fun g hg=>(HO.o.row.lt g hg).1));obtain⟨v0,v1,v2,v3,v4,_,_,_,_,_,_⟩:=a_ (HL.o.la hBe0).at_;(have u0:=(hBe0.cell (p:=⟨b,o+L'.length,none⟩) hbn.2).trans (hcn L'.length _ hcn0)))
         | (go_simp;go_at_call 134;(try rw [HIX2.o]);refine(HP.o _ ?_).mono ?_;exact HLR.o.in_.s.la bz_;rintro r wd ⟨A2,c2,rfl,ho2,hb2⟩;obtain⟨⟨d2,os2⟩,rfl⟩:=e_ hb2)))
      all_goals(
       have hll:(L'++ [(⟨pe,pn,pb,pa,⟨fk,fh,fe,⟨A2,c2,fp⟩,fs⟩⟩:PacketV)]).length=L'.length+1:=(by simp);obtain⟨WQ,hWQ,hgQ,hbQ⟩:=es_ (W4:=wr) hgrow bz_;have hP2:=RowOwn.push2 (x:=(⟨pe,pn,pb,pa,⟨fk,fh,fe,⟨A2,c2,fp⟩,fs⟩⟩:PacketV)) HO.o hsz2 hbQ (dw_ ho2 (by simp) (by rw [hWQ];exact bz_)) hgQ hown' (by rw [hWQ];exact hat);clear hWQ hgQ hbQ hown' hgrow hat ho2 hb2;go_wp2_with fail
       go_roundw
       case rel=>
        have k266_:K_ (∀(P:Prop) (h:P:=by
        exact⟨L'++ [(⟨pe,pn,pb,pa,⟨fk,fh,fe,⟨A2,c2,fp⟩,fs⟩⟩:PacketV)],A4,c4,by rw [hll];go_num,by omega,by rw [hll],HPS,hP2,hBe0⟩
        ),P):=⟨@q6_⟩
        exact m266_
       case measure=>simp [intOf];omega)
     ·have HK:=h_ (show L'.length=fillN l.d by have:=HMN.o;omega);have HRw:=h_ ((hbw.block _ (a_ HR.o).2.2.2.2.2.2.2.2.2.2).trans HR.o);have HBw:=h_ (bThen HBW.o hbw);have HO:=h_ hown;obtain⟨r0,r1,r2,r3,r4,s0,s1,s2,s3,s4,hrz⟩:=a_ HRw.o;clear hown;go_wp2_with fail
      obtain⟨W9,hW9⟩:=q2_ ((((((wr.setCell ⟨P+1,0,none⟩ (.int .i64 e)).setCell ⟨P+1,1,none⟩ (.int .i64 n)).setCell ⟨P+1,2,none⟩ (.slice sA s.length sc)).setCell ⟨P+1,3,none⟩ (.slice qA q.length qc)).setCell ⟨P+1,4,none⟩ (.int .i64 hh)));rw [←hW9];have hO:Only (P+1) wr W9:=(by rw [hW9];exact(((q5_.trans q5_).trans q5_).trans q5_).trans q5_);have hR9:LinkAt W9 (P+1) ⟨e,n,sA,sc,s,qA,qc,q,hh⟩:=by
       rw [hW9];exact f_ 4 (.int .i64 hh) (f_ 3 (.slice qA q.length qc) (f_ 2 (.slice sA s.length sc) (f_ 1 (.int .i64 n) (f_ 0 (.int .i64 e) HRw.o))))
      clear hW9 r0 r1 r2 r3 r4;obtain⟨r0,r1,r2,r3,r4,_,_,_,_,_,_⟩:=a_ hR9;refine bodyPost_ret (v:= .tuple #[(⟨e,n,sA,sc,s,qA,qc,q,hh⟩:LinkV).val,.slice Ao L'.length co]) (by simp [results,Tryz.results117,go_sem,r0,r1,r2,r3,r4]) rfl ?_;have hEP:=HE.o;first
      |guard_hyp vE
       refine⟨⟨e,n,sA,sc,s,qA,qc,q,hh⟩,Ao,co,L',w1.heap.size,rfl,HF.o,?_,HLR.o.inS_only hO,(HO.o.kept hO.size (fun b hb hl=>hO.block b hl (by omega))).mono (by omega),HBw.o.trans (hO.below (by omega) (by omega)),HL.o.inS_m (fun b k1 k2=>(hO.block b (Nat.lt_of_lt_of_le k1 hbw.size) k2).trans (hbw.block b k1)),HO.o.kept hO.size (fun b hb hl=>hO.block b hl (by omega)),by omega,Nat.le_trans hbw.size hO.size⟩
      |refine⟨⟨e,n,sA,sc,s,qA,qc,q,hh⟩,Ao,co,L',rfl,HF.o,?_,HLR.o.inS_only hO,(HO.o.kept hO.size (fun b hb hl=>hO.block b hl (by omega))).mono (by omega),HBw.o.trans (hO.below (by omega) (by omega))⟩
      rw [hps.o,HK.o];unfold fillP;simp only [List.length_map])
 ),P):=⟨@q6_⟩
 exact m204_):P:=h
theorem m126_{P:Prop}(h:P:=by
 have HC:=h_ (fun W hT hi=>ch_ W l hT hi hm);rw [decide_eq_true hk]at HC;have HF:=h_ (fun W hT hs=>en_ W f.k f.h f.e f.o.A f.o.c f.o.ps f.s hT hs hfm.op.len hfm.op.text hfm.text);first
 |guard_hyp vBY
  rw [show frameFault ⟨f.k,f.h,f.e,f.o.ps,f.s⟩=0 from he]at HF
 |rw [show frameFault ⟨f.k,f.h,f.e,f.o.ps,f.s⟩=er from he]at HF
 have HI:=h_ hi;have HT:=h_ hT;have HO:=h_ hf;have e0:(l.e==0)=false:=by simpa using h0
 first
 |guard_hyp vBY
  clear hi hT hm hk hf hfm he h0
 |have e1:(er !=0)=true:=by simpa using h1
  have e2:(er==0)=false:=by simpa using h1
  clear hi hT hm hk hf hfm he h0 h1
 obtain⟨e,n,sA,sc,s,qA,qc,q,h⟩:=l;obtain⟨fk,fh,fe,⟨fA,fc,fp⟩,fs⟩:=f;dsimp only at*;first
 |guard_hyp vBY
  subst h1
 |skip
 go_enter Tryz.func81,Tryz.ntmps81
 have k188_:K_ (∀(P:Prop) (h:P:=by
 refine(HF.o _ (HT.o.la bz_) (Sl.la HO.o bz_)).mono ?_;rintro r w2 ⟨rfl,hb2⟩;obtain⟨⟨d2,os2⟩,rfl⟩:=e_ hb2;go_wp2_with fail
 first
 |guard_hyp vBY
  refine bodyPost_ret (v:= .tuple #[zeroL.val,.slice none 0 0,.int .i64 8]) (by simp [results,Tryz.results81,go_sem]) rfl ?_
 |refine bodyPost_ret (v:= .tuple #[zeroL.val,.slice none 0 0,.int .i64 er]) (by simp [results,Tryz.results81,go_sem]) rfl ?_
 exact m212_
 ),P):=⟨@q6_⟩
 exact m188_):P:=h
theorem m198_{P:Prop}(h:P:=by
 have HA:=h_ (show SendAt w WA W1.heap.size s h0 A L.length c from⟨(k2.block _ (by omega)).trans (by rw [hW1];show(w.heap.push _)[w.heap.size]?=_;simp),by rw [hWA];show(W1.heap.push _)[W1.heap.size]?=_;simp,bThen k1 k2⟩);have HW:=h_ (show(w.alloc (.cells #[.int .i64 s,.int .i64 h0,.slice A L.length c] 55)).alloc (.cells #[.int .i64 0,.int .i64 0,.slice none 0 0] 55)=WA by rw [hWA,hW1]);exact k198_.o _):P:=h
theorem m229_{P:Prop}(h:P:=by
 exact⟨none,0,[],none,0,rfl,rfl,⟨Sl.nil,by simp⟩,Sl.nil,bSet (bSet (bSet (HR.o.la hb2).b (p:=⟨R,0,none⟩) (Nat.le_of_lt hRB) _) (p:=⟨R,1,none⟩) (Nat.le_of_lt hRB) _) (p:=⟨R,2,none⟩) (Nat.le_of_lt hRB) _⟩):P:=h
theorem m273_{P:Prop}(h:P:=by
 go_wp2_with fail
 refine(HF.o _ (HT.o.la H1.o.b) (Sl.la HP.o H1.o.b)).mono ?_;rintro e w2 ⟨rfl,hb2⟩;have H2:=h_ (H1.o.la hb2);have hz2:=hb2.size;clear e0 e1 e2 hez r0 r1 r2 q0 q1 q2 hrz;obtain⟨e0,e1,e2,_,_,_,hez⟩:=b_ H2.o.e;obtain⟨r0,r1,r2,q0,q1,q2,hrz⟩:=b_ H2.o.r;clear hb2;go_wp2_with fail
 exact k273_.o _):P:=h
def opsSmall (x:LinkD):Prop:=(∀f∈x.s,f.op.length≤1048576)∧ ∀f∈x.q,f.op.length≤1048576
theorem jd_(x:LinkD):fillN x≤8∧fillN x≤x.q.length:=by
 unfold fillN;omega
theorem im_{x:LinkD}(h:opsSmall x):opsSmall (fillL x):=by
 refine⟨fun f hf=>?_,fun f hf=>h.2 f (List.mem_of_mem_drop hf)⟩;rcases List.mem_append.1 hf with hf | hf
 ·exact h.1 f hf
 ·exact h.2 f (List.mem_of_mem_take hf)
theorem lp_{x:LinkD}(h:opsSmall x):(fillP x).length≤8∧ ∀p∈fillP x,p.frame.op.length≤1048576:=by
 unfold fillP;refine⟨by simpa using(jd_ x).1,fun p hp=>?_⟩;obtain⟨k,_,rfl⟩:=List.mem_map.1 hp;have hs:=(im_ h).1;show((fillL x).s.getD _ default).op.length≤_;rw [List.getD_eq_getElem?_getD];cases hc:(fillL x).s[x.s.length+k]? with
 | none=>exact Nat.zero_le _
 | some f=>exact hs f (List.mem_of_getElem? hc)
theorem pr_{x:LinkD}{f:FrameD}(h:opsSmall x)(hf:f.op.length≤1048576):opsSmall (waitL x f):=by
 refine⟨h.1,fun g hg=>?_⟩;rcases List.mem_append.1 hg with hg | hg
 ·exact h.2 g hg
 ·obtain rfl:=List.mem_singleton.1 hg;exact hf
theorem LinkV.Small.ops{l:LinkV}(h:l.Small):opsSmall l.d:=by
 refine⟨fun f hf=>?_,fun f hf=>?_⟩
 ·obtain⟨g,hg,rfl⟩:=List.mem_map.1 hf;exact(h.s g hg).op.len
 ·obtain⟨g,hg,rfl⟩:=List.mem_map.1 hf;exact(h.q g hg).op.len
theorem yk_{L:List FrameV}(h: ∀f∈L.map FrameV.d,f.op.length≤1048576): ∀f∈L,f.o.ps.length≤1048576:=fun f hf=>h f.d (List.mem_map.2 ⟨f,hf,rfl⟩)
theorem gl_(x:LinkD):(fillP x).length≤8:=by
 unfold fillP;simpa using(jd_ x).1
theorem cw_(w:World)(l:LinkV)(hi:l.In w)(hm:l.Small):Calls Tryz.prog 18 #[l.val] w (RetOwn w l.d):=by
 have vBC:=h_ trivial;exact m37_
section
variable(w:World) (l:LinkV) (f:FrameV) (hT:Tabs w) (hi:l.In w) (hm:l.Small) (hf:OpIn (· <w.heap.size) w f.o.A f.o.ps) (hfm:f.Small)
include hT hi hm
theorem zu_(hk: ¬linkMay l):Calls Tryz.prog 81 #[l.val,frameV f.k f.h f.e f.o.A f.o.ps.length f.o.c f.s] w (RetSend w zeroL.d [] 9):=by
 have HC:=h_ (fun W hT hi=>ch_ W l hT hi hm);rw [decide_eq_false hk]at HC;have HI:=h_ hi;have HT:=h_ hT;clear hi hT hm;obtain⟨e,n,sA,sc,s,qA,qc,q,h⟩:=l;obtain⟨fk,fh,fe,⟨fA,fc,fp⟩,fs⟩:=f;go_enter Tryz.func81,Tryz.ntmps81
 have k188_:K_ (∀(P:Prop) (h:P:=by
 refine bodyPost_ret (v:= .tuple #[zeroL.val,.slice none 0 0,.int .i64 9]) (by simp [results,Tryz.results81,go_sem]) rfl ?_;exact m212_
 ),P):=⟨@q6_⟩
 exact m188_
theorem bbq_(hk:linkMay l)(h0:l.e=0):Calls Tryz.prog 81 #[l.val,frameV f.k f.h f.e f.o.A f.o.ps.length f.o.c f.s] w (RetSend w zeroL.d [] 12):=by
 have HC:=h_ (fun W hT hi=>ch_ W l hT hi hm);rw [decide_eq_true hk]at HC;have HI:=h_ hi;have HT:=h_ hT;clear hi hT hm hk;obtain⟨e,n,sA,sc,s,qA,qc,q,h⟩:=l;obtain⟨fk,fh,fe,⟨fA,fc,fp⟩,fs⟩:=f;dsimp only at h0;subst h0;go_enter Tryz.func81,Tryz.ntmps81
 have k188_:K_ (∀(P:Prop) (h:P:=by
 refine bodyPost_ret (v:= .tuple #[zeroL.val,.slice none 0 0,.int .i64 12]) (by simp [results,Tryz.results81,go_sem]) rfl ?_;exact m212_
 ),P):=⟨@q6_⟩
 exact m188_
include hf hfm
theorem zt_(hk:linkMay l)(h0:l.e≠0)(er:Int)(he:frameFault f.d=er)(h1:er≠0):Calls Tryz.prog 81 #[l.val,frameV f.k f.h f.e f.o.A f.o.ps.length f.o.c f.s] w (RetSend w zeroL.d [] er):=by
 exact m126_
theorem bbr_(hk:linkMay l)(h0:l.e≠0)(he:frameFault f.d=0)(h1:l.n=1048576):Calls Tryz.prog 81 #[l.val,frameV f.k f.h f.e f.o.A f.o.ps.length f.o.c f.s] w (RetSend w zeroL.d [] 8):=by
 have vBY:=h_ trivial;exact m126_
end
structure LinkSy (lo:Nat) (w:World) (P:Nat) (nb:Option Nat) (l:LinkV):Prop where
 at_:LinkAt w P l
 sr:Sl (fun b=>(lo≤b∧b<w.heap.size)∧b≠P∧b≠P+1∧nb≠some b) w 5 l.sA l.s.length (l.s.flatMap FrameV.cells)
 s: ∀f∈l.s,OpIn (fun b=>(lo≤b∧b<w.heap.size)∧b≠P∧b≠P+1∧nb≠some b) w f.o.A f.o.ps
 qr:Sl (fun b=>(lo≤b∧b<w.heap.size)∧b≠P∧b≠P+1∧nb≠some b) w 5 l.qA l.q.length (l.q.flatMap FrameV.cells)
 q: ∀f∈l.q,OpIn (fun b=>(lo≤b∧b<w.heap.size)∧b≠P∧b≠P+1∧nb≠some b) w f.o.A f.o.ps
 qcap:l.q.length≤l.qc
section
variable {lo:Nat}
include lo
theorem LinkSy.la{w w':World}{P:Nat}{nb:Option Nat}{l:LinkV}(h:LinkSy lo w P nb l)(hb:Below w.heap.size w w'):LinkSy lo w' P nb l:=by
 have hz:=hb.size;have key: ∀b,((lo≤b∧b<w.heap.size)∧b≠P∧b≠P+1∧nb≠some b)→((lo≤b∧b<w'.heap.size)∧b≠P∧b≠P+1∧nb≠some b)∧w'.heap[b]?=w.heap[b]?:=fun b hx=>⟨⟨⟨hx.1.1,by omega⟩,hx.2⟩,hb.block b hx.1.2⟩
 exact⟨(hb.block _ (a_ h.at_).2.2.2.2.2.2.2.2.2.2).trans h.at_,h.sr.mv key,fun f hf=>(h.s f hf).mv key,h.qr.mv key,fun f hf=>(h.q f hf).mv key,h.qcap⟩
theorem LinkSy.in_{w:World}{P:Nat}{nb:Option Nat}{l:LinkV}(h:LinkSy lo w P nb l):l.In w:=
 ⟨⟨h.sr.mv fun _ hb=>⟨hb.1.2,rfl⟩,fun f hf=>(h.s f hf).mv fun _ hb=>⟨hb.1.2,rfl⟩⟩,⟨h.qr.mv fun _ hb=>⟨hb.1.2,rfl⟩,fun f hf=>(h.q f hf).mv fun _ hb=>⟨hb.1.2,rfl⟩⟩⟩
theorem LinkSy.inS_only{w w':World}{P:Nat}{nb:Option Nat}{l:LinkV}(h:LinkSy lo w P nb l)(ho:Only (P+1) w w'):l.InS (fun b=>lo≤b∧b<w'.heap.size) w':=by
 have hz:=ho.size;have key: ∀b,((lo≤b∧b<w.heap.size)∧b≠P∧b≠P+1∧nb≠some b)→(lo≤b∧b<w'.heap.size)∧w'.heap[b]?=w.heap[b]?:=fun b hx=>⟨⟨hx.1.1,by omega⟩,ho.block b hx.1.2 hx.2.2.1⟩
 exact⟨h.sr.mv key,fun f hf=>(h.s f hf).mv key,h.qr.mv key,fun f hf=>(h.q f hf).mv key⟩
theorem LinkSy.of{w W:World}{l:LinkV}(hi:l.InS (fun b=>lo≤b∧b<w.heap.size) w)(hc:l.q.length≤l.qc)(hb:Below w.heap.size w W)(hl:LinkAt W w.heap.size l):LinkSy lo W w.heap.size none l:=by
 have hz:=hb.size;have key: ∀b,(lo≤b∧b<w.heap.size)→((lo≤b∧b<W.heap.size)∧b≠w.heap.size∧b≠w.heap.size+1∧(none:Option Nat)≠some b)∧W.heap[b]?=w.heap[b]?:=fun b hx=>⟨⟨⟨hx.1,by omega⟩,by omega,by omega,by simp⟩,hb.block b hx.2⟩
 exact⟨hl,hi.s.mv key,fun f hf=>(hi.so f hf).mv key,hi.q.mv key,fun f hf=>(hi.qo f hf).mv key,hc⟩
theorem LinkSy.grown{w W2 w3:World}{P:Nat}{nb nb':Option Nat}{l:LinkV}(k:LinkSy lo w P nb l)(hP:nb≠some P)(hW:Below w.heap.size w W2)(hg:W2.grownBy w3 nb)(hn:nb'=nb∨nb'=some W2.heap.size):LinkSy lo w3 P nb' l:=by
 have hz:=hW.size;have hz3:=hg.size;have key: ∀b,((lo≤b∧b<w.heap.size)∧b≠P∧b≠P+1∧nb≠some b)→((lo≤b∧b<w3.heap.size)∧b≠P∧b≠P+1∧nb'≠some b)∧w3.heap[b]?=w.heap[b]?:=fun b hx=>by
  refine⟨⟨⟨hx.1.1,by omega⟩,hx.2.1,hx.2.2.1,fun e1=>?_⟩,(hg.block b (by omega) (fun e1=>hx.2.2.2 e1.symm)).trans (hW.block b hx.1.2)⟩;rcases hn with h | h
  ·exact hx.2.2.2 (h.symm.trans e1)
  ·rw [h]at e1;injection e1 with e1
   omega
 have hPl:=(a_ k.at_).2.2.2.2.2.2.2.2.2.2;exact⟨(hg.block P (by omega) (fun e1=>hP e1.symm)).trans ((hW.block P hPl).trans k.at_),k.sr.mv key,fun f hf=>(k.s f hf).mv key,k.qr.mv key,fun f hf=>(k.q f hf).mv key,k.qcap⟩
end
section
variable {lo:Nat}{w:World}{P base:Nat}{nb:Option Nat}{e n h:Int}{sA qA A:Option Addr}{sc qc c m:Nat}{s q L:List FrameV}
section
variable(k:LinkSy lo w P nb ⟨e,n,sA,sc,s,qA,qc,q,h⟩) (hn:FramesOwn w base A c L) (hlo:lo≤base) (hb:P+1<base) (hnb: ∀g,nb=some g→g<base) (hm:L.length=m)
include k hn hlo hb hnb hm
theorem LinkSy.sent:LinkSy lo (w.setCell ⟨P,2,none⟩ (.slice A m c)) P nb ⟨e,n,A,c,L,qA,qc,q,h⟩:=by
 subst hm;have hs:(w.setCell ⟨P,2,none⟩ (.slice A L.length c)).heap.size=w.heap.size:=by simp [World.setCell]
 have key: ∀b,((lo≤b∧b<w.heap.size)∧b≠P∧b≠P+1∧nb≠some b)→((lo≤b∧b<(w.setCell ⟨P,2,none⟩ (.slice A L.length c)).heap.size)∧b≠P∧b≠P+1∧nb≠some b)∧(w.setCell ⟨P,2,none⟩ (.slice A L.length c)).heap[b]?=w.heap[b]?:=fun b hx=>⟨by rw [hs];exact hx,bH_ hx.2.1⟩
 refine⟨f_ 2 _ k.at_,((Sl.of_own _ hn.row).mv (S':=fun b=>(lo≤b∧b<w.heap.size)∧b≠P∧b≠P+1∧nb≠some b) (w':=w) fun b hx=>⟨⟨⟨by omega,hx.2⟩,by omega,by omega,fun e1=>by have:=hnb b e1;omega⟩,rfl⟩).mv key,fun f hf=>((hn.each f hf).mv (S':=fun b=>(lo≤b∧b<w.heap.size)∧b≠P∧b≠P+1∧nb≠some b) (w':=w) fun b hx=>⟨⟨⟨by omega,hx.1.2⟩,by omega,by omega,fun e1=>by have:=hnb b e1;omega⟩,rfl⟩).mv key,k.qr.mv key,fun f hf=>(k.q f hf).mv key,k.qcap⟩
theorem LinkSy.queue:LinkSy lo (w.setCell ⟨P,3,none⟩ (.slice A m c)) P nb ⟨e,n,sA,sc,s,A,c,L,h⟩:=by
 subst hm;have hs:(w.setCell ⟨P,3,none⟩ (.slice A L.length c)).heap.size=w.heap.size:=by simp [World.setCell]
 have key: ∀b,((lo≤b∧b<w.heap.size)∧b≠P∧b≠P+1∧nb≠some b)→((lo≤b∧b<(w.setCell ⟨P,3,none⟩ (.slice A L.length c)).heap.size)∧b≠P∧b≠P+1∧nb≠some b)∧(w.setCell ⟨P,3,none⟩ (.slice A L.length c)).heap[b]?=w.heap[b]?:=fun b hx=>⟨by rw [hs];exact hx,bH_ hx.2.1⟩
 refine⟨f_ 3 _ k.at_,k.sr.mv key,fun f hf=>(k.s f hf).mv key,((Sl.of_own _ hn.row).mv (S':=fun b=>(lo≤b∧b<w.heap.size)∧b≠P∧b≠P+1∧nb≠some b) (w':=w) fun b hx=>⟨⟨⟨by omega,hx.2⟩,by omega,by omega,fun e1=>by have:=hnb b e1;omega⟩,rfl⟩).mv key,fun f hf=>((hn.each f hf).mv (S':=fun b=>(lo≤b∧b<w.heap.size)∧b≠P∧b≠P+1∧nb≠some b) (w':=w) fun b hx=>⟨⟨⟨by omega,hx.1.2⟩,by omega,by omega,fun e1=>by have:=hnb b e1;omega⟩,rfl⟩).mv key,(ky_ hn.row).1⟩
end
theorem LinkSy.next(k:LinkSy lo w P nb ⟨e,n,sA,sc,s,qA,qc,q,h⟩)(n':Int):LinkSy lo (w.setCell ⟨P,1,none⟩ (.int .i64 n')) P nb ⟨e,n',sA,sc,s,qA,qc,q,h⟩:=by
 have hs:(w.setCell ⟨P,1,none⟩ (.int .i64 n')).heap.size=w.heap.size:=by simp [World.setCell]
 have key: ∀b,((lo≤b∧b<w.heap.size)∧b≠P∧b≠P+1∧nb≠some b)→((lo≤b∧b<(w.setCell ⟨P,1,none⟩ (.int .i64 n')).heap.size)∧b≠P∧b≠P+1∧nb≠some b)∧(w.setCell ⟨P,1,none⟩ (.int .i64 n')).heap[b]?=w.heap[b]?:=fun b hx=>⟨by rw [hs];exact hx,bH_ hx.2.1⟩
 exact⟨f_ 1 _ k.at_,k.sr.mv key,fun f hf=>(k.s f hf).mv key,k.qr.mv key,fun f hf=>(k.q f hf).mv key,k.qcap⟩
end
def RetFilledF (lo:Nat) (w:World) (d:LinkD) (e:Ending) (w':World):Prop:=
 ∃(l:LinkV) (A:OA_) (c:Nat) (L:List PacketV),e= .returned (.tuple #[l.val,.slice A L.length c])∧l.d=fillL d∧L.map PacketV.d=fillP d∧l.InS (fun b=>lo≤b∧b<w'.heap.size) w'∧PacketsOwn w' w.heap.size A c L∧Below w.heap.size w w'
theorem bca_(lo:Nat)(w:World)(l:LinkV)(hi:l.InS (fun b=>lo≤b∧b<w.heap.size) w)(hqc:l.q.length≤l.qc)(hs:l.s.length≤8)(hn:1≤l.n∧l.n≤1048576)(hq:l.q.length≤1048577)(hm:(∀f∈l.s,f.o.ps.length≤1048576)∧ ∀f∈l.q,f.o.ps.length≤1048576):
 Calls Tryz.prog 117 #[l.val] w (RetFilledF lo w l.d):=by
 exact m2_
end Go.Proofs.YtacacoklddogmaaGreatDoor
namespace Go.Proofs.YtacacoklddogmaaGreatDoor
set_option maxHeartbeats 4000000
open Go.ChangeShapes Go.WideShapes Go.ChangeAt Go.RowKit Go.Joins Go.Deep
set_option maxRecDepth 100000
end Go.Proofs.YtacacoklddogmaaGreatDoor
namespace Go.Proofs.YtacacoklddogmaaGreatDoor
set_option maxHeartbeats 4000000
open Go.ChangeShapes Go.WideShapes Go.ChangeAt Go.RowKit
set_option maxRecDepth 100000
theorem bay_{s:ByteArray}(h:textFault s=0):s.size≤16000:=by
 obtain⟨h1,h2⟩:=df_ h;have h3:=(cz_ (runesOf s)).2;rw [sq_ s h2,bo_]at h3;omega
theorem baq_{p:PartD}(h:partFault p=0):p.text.size≤16000:=by
 rcases gf_ h with⟨_,_,h1,_⟩ | ⟨_,_,_,h1⟩
 ·exact bay_ h1
 ·have:=congrArg List.length h1;rw [blen,List.length_nil]at this;omega
theorem vq_{ps:List PartD}(h:okParts ps): ∀p∈ps,partFault p=0:=by
 induction ps with
 | nil=>simp
 | cons p ps ih=>
  intro q hq;rcases List.mem_cons.1 hq with rfl | hq
  · exact h.1
  · exact ih h.2.2 q hq
theorem lo_{x:List PartD}(h:opFault x=0):x.length≤1048576∧ ∀p∈x,p.text.size≤1048576:=by
 obtain⟨h1,h2,_,_⟩:=cr_ h;exact⟨by omega,fun p hp=>Nat.le_trans (baq_ (vq_ h2 p hp)) (by decide)⟩
theorem wp_{x y:List PartD}(h:trE x y=0):opFault (grouped (trC x y))=0∧opFault (grouped (trD x y))=0:=by
 unfold trE at h;by_cases q:bothErr x y≠0
 ·rw [if_pos q]at h;exact absurd h q
 ·rw [if_neg q]at h;unfold fitsErr at h;by_cases q2:opFault (grouped (trC x y))≠0
  ·rw [if_pos q2]at h;exact absurd h q2
  ·rw [if_neg q2]at h;exact⟨Classical.not_not.1 q2,h⟩
abbrev SmallD (x:LP_):Prop:=x.length≤1048576∧ ∀p∈x,p.text.size≤1048576
theorem ih_(x y:LP_):SmallD (trL x y):=by
 unfold trL;by_cases h:trE x y=0
 ·rw [if_pos h];exact lo_ (wp_ h).1
 ·rw [if_neg h];exact⟨by simp,by simp⟩
theorem gy_(x y:LP_):SmallD (trR x y):=by
 unfold trR;by_cases h:trE x y=0
 ·rw [if_pos h];exact lo_ (wp_ h).2
 ·rw [if_neg h];exact⟨by simp,by simp⟩
def stE (up:Bool) (p here:LP_):Int:=if up=true then trE p here else trE here p
def stP (up:Bool) (p here:LP_):List PartD:=if up=true then trL p here else trR here p
def stH (up:Bool) (p here:LP_):List PartD:=if up=true then trR p here else trL here p
theorem ks_(up:Bool)(p here:LP_):SmallD (stP up p here):=by
 unfold stP;split
 ·exact ih_ _ _
 ·exact gy_ _ _
theorem gx_(up:Bool)(p here:LP_):SmallD (stH up p here):=by
 unfold stH;split
 ·exact gy_ _ _
 ·exact ih_ _ _
def hearG (up:Bool):List (List PartD)→List PartD→List (List PartD)→List (List PartD) × List PartD × Int
 | acc,here,[]=>(acc,here,0)
 | acc,here,p :: ps=>if stE up p here≠0 then([],[],stE up p here)else hearG up (acc++ [stP up p here]) (stH up p here) ps
def hearOut (s h:Int) (g:List (List PartD) × List PartD × Int):Int × Int × List (List PartD) × List PartD × Int:=
 if g.2.2=0 then(s,h,g.1,g.2.1,0)else(0,0,[],[],g.2.2)
section
variable {up:Bool}{acc:List (List PartD)}{here p:List PartD}{ps:List (List PartD)}
include up acc here p ps
theorem fs_(h:stE up p here=0):hearG up acc here (p :: ps)=hearG up (acc++ [stP up p here]) (stH up p here) ps:=by
 show(if stE up p here≠0 then _ else _)=_;rw [if_neg (fun k=>k h)]
theorem ft_(h:stE up p here≠0):hearG up acc here (p :: ps)=([],[],stE up p here):=if_pos h
end
theorem fu_{s h er:Int}(h0:er≠0):hearOut s h ([],[],er)=(0,0,[],[],er):=if_neg h0
theorem hg_{s h:Int}{acc:List (List PartD)}{here:List PartD} :hearOut s h (acc,here,0)=(s,h,acc,here,0):=if_pos rfl
theorem Sl.set{S:Nat→Prop}{w:World}{b o n k:Nat}{v:Value}{cs:List Value}(h:Sl S w 1 (some ⟨b,o,none⟩) n cs)(hk:k<n):Sl S (w.setCell ⟨b,o+k,none⟩ v) 1 (some ⟨b,o,none⟩) n (cs.set k v):=by
 refine⟨by rw [List.length_set];exact h.1,fun h0=>?_⟩;obtain⟨b',o',e,hb,hc⟩:=h.2 h0;injection e with e
 injection e with e1 e2
 subst e1 e2;refine⟨b,o,rfl,hb,fun j u hu=>?_⟩;have hl:cs.length=n:=by have:=h.1;omega
 by_cases hj:k=j
 ·subst hj;have h1:=hc k cs[k] (List.getElem?_eq_getElem (by omega));rw [List.getElem?_set_self (by omega)]at hu;obtain rfl:=Option.some.inj hu;exact World.cell?_setCell_same _ _ _ h1
 ·rw [List.getElem?_set_ne hj]at hu;have h1:=hc j u hu;exact(World.cell?_setCell_other w _ _ _ (fun e=>hj (by injection e with _ e2;omega))).trans h1
structure RowE (S:Nat→Prop) (w:World) (A:OA_) (L:List OpV):Prop where
 row:Sl S w 1 A L.length (L.map OpV.val)
 each: ∀o∈L,OpIn (fun b=>S b∧A.map (·.block)≠some b) w o.A o.ps
theorem RowE.mv{S S':Nat→Prop}{w w':World}{A:Option Addr}{L:List OpV}(h:RowE S w A L)(k: ∀b,S b→S' b∧w'.heap[b]?=w.heap[b]?):RowE S' w' A L:=
 ⟨h.row.mv k,fun o ho=>(h.each o ho).mv fun b hb=>⟨⟨(k b hb.1).1,hb.2⟩,(k b hb.1).2⟩⟩
section
variable {S:Nat→Prop}{w:World}
include S w
theorem RowE.ops{A:Option Addr}{L:List OpV}(h:RowE S w A L):OpsS S w A L:=⟨h.row,fun o ho=>(h.each o ho).mv fun _ hb=>⟨hb.1,rfl⟩⟩
theorem RowE.put{b o k:Nat}{L:List OpV}{q:OpV}(h:RowE S w (some ⟨b,o,none⟩) L)(hk:k<L.length)(hq:OpIn (fun x=>S x∧x≠b) w q.A q.ps):RowE S (w.setCell ⟨b,o+k,none⟩ q.val) (some ⟨b,o,none⟩) (L.set k q):=by
 refine⟨?_,fun p hp=>?_⟩
 ·have h1:=h.row.set (v:=q.val) hk;rwa [List.length_set,List.map_set]
 ·have hfar: ∀x,x≠b→(w.setCell ⟨b,o+k,none⟩ q.val).heap[x]?=w.heap[x]?:=fun x hx=>Below.heap_setCell w ⟨b,o+k,none⟩ q.val x hx;rcases List.mem_or_eq_of_mem_set hp with hp | rfl
  ·exact(h.each p hp).mv fun x hx=>⟨hx,hfar x (fun e=>hx.2 (by rw [e];rfl))⟩
  ·exact hq.mv fun x hx=>⟨⟨hx.1,fun e=>hx.2 (by injection e with e;exact e.symm)⟩,hfar x hx.2⟩
theorem RowE.drop{b o K:Nat}{L:List OpV}(h:RowE S w (some ⟨b,o,none⟩) L)(hK:K≤L.length):RowE S w (some ⟨b,o+K,none⟩) (L.drop K):=by
 refine⟨⟨by simp,fun h0=>?_⟩,fun p hp=>h.each p (List.mem_of_mem_drop hp)⟩;rw [List.length_drop]at h0;obtain⟨b',o',e,hb,hc⟩:=h.row.2 (by omega);injection e with e
 injection e with e1 e2
 subst e1 e2;refine⟨b,o+K,rfl,hb,fun j u hu=>?_⟩;rw [List.map_drop,List.getElem?_drop]at hu;have:=hc (K+j) u hu;rwa [←Nat.add_assoc]at this
end
theorem RowE.of_own{w:World}{base c:Nat}{A:Option Addr}{L:List OpV}(h:OpsOwn w base A c L)(hA:(Value.slice A L.length c).ownBlock=A.map (·.block)):RowE (fun b=>base≤b∧b<w.heap.size) w A L:=
 ⟨Sl.of_own _ h.row,fun o ho=>(h.each o ho).mv fun b hb=>⟨⟨hb.1,by rw [←hA];exact hb.2⟩,rfl⟩⟩
theorem yt_{w:World}{base:Nat}{e:TypeId}{size n c:Nat}{A:Option Addr}{xs:List Value}(h:w.ownsRow base e size (.slice A n c) n xs):n≤c∧c≤9223372036854775807:=by
 obtain⟨A',c',h1,h2,h3⟩:=gd_ w h;injection h1 with _ _ h4
 subst h4;exact⟨h2,h3⟩
theorem RowE.nil(S:Nat→Prop)(w:World)(A:OA_):RowE S w A []:=⟨⟨by simp,fun h=>absurd h (by simp)⟩,by simp⟩
theorem RowE.drop'{S:Nat→Prop}{w:World}{K:Nat}{A:Option Addr}{L:List OpV}(h:RowE S w A L)(hK:K≤L.length):RowE S w (A.map (fun x=>x.add K)) (L.drop K):=by
 by_cases hl:K<L.length
 ·obtain⟨b,o,rfl,_⟩:=h.row.2 (by omega);rw [Option.map_some,Go.WideShapes.add_plain];exact h.drop hK
 ·rw [List.drop_eq_nil_of_le (by omega)];exact RowE.nil _ _ _
theorem he_{P:Program}{f:FuncId}{args:Array Value}{W:World}{R:Ending→World→Prop}(Q:World→Prop)(hQ:Q W)(h: ∀W',Q W'→Calls P f args W' R):Calls P f args W R:=h W hQ
def HearAt (B0:Nat) (X:Nat) (s h:Int) (D:List (List PartD)) (m:Nat) (G:World):Prop:=
 ∃A c,∃L4:List OpV,L4.map OpV.ps=D∧L4.length=m∧EdgeAt G X s h A m c∧RowE (fun b=>B0≤b∧b<X) G A L4∧ ∀b,A.map (·.block)=some b→b<X∧ ∀j,G.frozen? ⟨b,j,none⟩=false
theorem pd_{wc:World}{B0 c3:Nat}{A3:Option Addr}{L3:List OpV}{o:Obj}(hown:OpsOwn wc B0 A3 c3 L3): ∀b,A3.map (·.block)=some b→b<wc.heap.size∧ ∀j,(wc.alloc o).frozen? ⟨b,j,none⟩=false:=by
 intro b hb;obtain⟨a,rfl,rfl⟩:=Option.map_eq_some_iff.1 hb;have hlt:=(hown.row.lt a.block rfl).2;refine⟨hlt,fun j=>?_⟩;rcases hown.row.2 with⟨hn,_⟩ | ⟨g,cap,cur,e,hg,hgo,_⟩
 ·cases hn
 ·injection e with e
  injection e with e
  subst e;unfold World.frozen?;rw [q_ _ _ _ hlt,hgo];simp
theorem lr_{w2 wc:World}{A3:Option Addr}{c3 K:Nat}{L L3:List OpV}{s h:Int}{c4:Nat}(hps:L3.map OpV.ps=L.map OpV.ps)(hown:OpsOwn wc w2.heap.size A3 c3 L3)(hK:K≤L.length)(hl:L3.length=L.length):
 HearAt w2.heap.size wc.heap.size s h ((L.map OpV.ps).drop K) (L.length - K) (wc.alloc (.cells #[.int .i64 s,.int .i64 h,.slice (A3.map (fun x=>x.add K)) (L.length - K) c4] 55)):=by
 refine⟨A3.map (fun x=>x.add K),c4,L3.drop K,by rw [List.map_drop,hps],by rw [List.length_drop,hl],by show(wc.heap.push _)[wc.heap.size]?=_;simp,?_,fun b hb=>pd_ hown b (by rw [←hb];cases A3 <;> simp [Addr.add] <;> split <;> rfl)⟩;refine RowE.drop' ?_ (by omega);refine(RowE.of_own hown (by cases A3 <;> rfl)).mv fun b hb'=>⟨hb',q_ _ _ _ hb'.2⟩
theorem ot_{B0:Nat}{wc:World}{A3:Option Addr}{c3 c4 K:Nat}{L L3:List OpV}{s h:Int}(hown:OpsOwn wc B0 A3 c3 L3)(hK:K=L.length):
 HearAt B0 wc.heap.size s h ((L.map OpV.ps).drop K) (L.length - K) (wc.alloc (.cells #[.int .i64 s,.int .i64 h,.slice A3 (L.length - K) c4] 55)):=by
 subst hK;exact⟨A3,c4,[],by simp,by simp,by show(wc.heap.push _)[wc.heap.size]?=_;simp,RowE.nil _ _ _,pd_ hown⟩
def RetHear (w:World) (r:Int × Int × List (List PartD) × List PartD × Int) (e:Ending) (w':World):Prop:=
 ∃A c L' B cc,e= .returned (.tuple #[edgeV r.1 r.2.1 A L'.length c,.slice B r.2.2.2.1.length cc,.int .i64 r.2.2.2.2])∧L'.map OpV.ps=r.2.2.1∧OpsS (fun b=>w.heap.size≤b∧b<w'.heap.size) w' A L'∧OpIn (fun b=>w.heap.size≤b∧b<w'.heap.size) w' B r.2.2.2.1∧Below w.heap.size w w'
theorem wn_{Q:List OpV}{k:Nat}{q:OpV}(hk:k<Q.length):((Q.set k q).take (k+1)).map OpV.ps=(Q.take k).map OpV.ps++ [q.ps]:=by
 rw [List.take_succ_eq_append_getElem (by simpa using hk),List.take_set_of_le (Nat.le_refl _),List.getElem_set_self];simp
theorem wm_{Q:List OpV}{k:Nat}{q:OpV} :((Q.set k q).drop (k+1)).map OpV.ps=(Q.drop (k+1)).map OpV.ps:=by
 rw [List.drop_set_of_lt (by omega)]
structure HearR (w:World) (R B0 X:Nat) (s h:Int) (A:OA_) (m c:Nat) (Q:List OpV) (hA:OA_) (hp:LP_) (G:World):Prop where
 x:EdgeAt G X s h A m c
 r:EdgeAt G R 0 0 none 0 0
 b:Below w.heap.size w G
 row:RowE (fun b=>B0≤b∧b<G.heap.size∧b≠X) G A Q
 o:OpIn (fun b=>(B0≤b∧b<G.heap.size∧b≠X)∧(Q.length=0∨A.map (·.block)≠some b)) G hA hp
 fz: ∀b,A.map (·.block)=some b→b<G.heap.size∧ ∀j,G.frozen? ⟨b,j,none⟩=false
 xz:X<G.heap.size
 rz:R<B0
 wz:w.heap.size<B0
 bz:B0≤X
theorem HearR.la{w G G':World}{R B0 X m c:Nat}{s h:Int}{A hA:Option Addr}{Q:List OpV}{hp:List PartD}(k:HearR w R B0 X s h A m c Q hA hp G)(hb:Below G.heap.size G G'):HearR w R B0 X s h A m c Q hA hp G':=
 ⟨(hb.block _ k.xz).trans k.x, (hb.block _ (by have := k.rz; have := k.bz; have := k.xz; omega)).trans k.r, bThen k.b hb, k.row.mv fun b h1 => ⟨⟨h1.1, Nat.lt_of_lt_of_le h1.2.1 hb.size, h1.2.2⟩, hb.block _ h1.2.1⟩,
   k.o.mv fun b h1=>⟨⟨⟨h1.1.1,Nat.lt_of_lt_of_le h1.1.2.1 hb.size,h1.1.2.2⟩,h1.2⟩,hb.block _ h1.1.2.1⟩,fun b h1=>⟨Nat.lt_of_lt_of_le (k.fz b h1).1 hb.size,fun j=>(hb.frozen (p:=⟨b,j,none⟩) (k.fz b h1).1).trans ((k.fz b h1).2 j)⟩,Nat.lt_of_lt_of_le k.xz hb.size,k.rz,k.wz,k.bz⟩
theorem HearR.put{w G G':World}{R B0 X m c b o k c':Nat}{s h:Int}{hA pA oA:Option Addr}{Q:List OpV}{hp pp op:List PartD}(r:HearR w R B0 X s h (some ⟨b,o,none⟩) m c Q hA hp G)(hb:Below G.heap.size G G')(hk:k<Q.length)
 (h1:OpIn (fun x=>G.heap.size≤x∧x<G'.heap.size) G' pA pp) (h2:OpIn (fun x=>G.heap.size≤x∧x<G'.heap.size) G' oA op):
 HearR w R B0 X s h (some ⟨b,o,none⟩) m c (Q.set k ⟨pA,c',pp⟩) oA op (G'.setCell ⟨b,o+k,none⟩ (.slice pA pp.length c')):=by
 have r':=r.la hb;obtain⟨b',o',e,hbs,hc⟩:=r.row.row.2 (by omega);injection e with e
 injection e with e1 e2
 subst e1 e2;have hxz:=r.xz;have hsz:=hb.size;have hz:(G'.setCell ⟨b,o+k,none⟩ (.slice pA pp.length c')).heap.size=G'.heap.size:=by simp [World.setCell]
 have hfar: ∀x,x≠b→(G'.setCell ⟨b,o+k,none⟩ (.slice pA pp.length c')).heap[x]?=G'.heap[x]?:=fun x hx=>bH_ (by simpa using hx);have hrz:=r.rz;have hwz:=r.wz;have hbz:=r.bz;refine⟨(hfar X (fun e=>hbs.2.2 e.symm)).trans r'.x,(hfar R (by omega)).trans r'.r,bSet r'.b (by show w.heap.size≤b;omega) _,?_,?_,fun b' h9=>⟨by rw [hz];exact(r'.fz b' h9).1,fun j=>by rw [World.frozen?_setCell];exact(r'.fz b' h9).2 j⟩,by omega,hrz,hwz,hbz⟩
 ·have:=RowE.put (k:=k) (q:=⟨pA,c',pp⟩) r'.row hk (h1.mv fun x hx=>⟨⟨⟨by omega,hx.2,by omega⟩,by omega⟩,rfl⟩);exact this.mv fun x hx=>⟨⟨hx.1,by omega,hx.2.2⟩,rfl⟩
 ·exact h2.mv fun x hx=>⟨⟨⟨by omega,by omega,by omega⟩,.inr fun e=>by injection e with e;have:b=x:=e;omega⟩,hfar x (by omega)⟩
structure HeardR (w:World) (R X base:Nat) (s h:Int) (A:OA_) (n c:Nat) (s' h':Int) (Ao:OA_) (co:Nat) (L':List OpV) (hA:OA_) (hp:LP_) (G:World):Prop where
 e:EdgeAt G w.heap.size s h A n c
 r:EdgeAt G R 0 0 none 0 0
 x:EdgeAt G X s' h' Ao L'.length co
 own:OpsOwn G base Ao co L'
 o:OpIn (fun b=>(base≤b∧b<G.heap.size)∧(Value.slice Ao L'.length co).ownBlock≠some b) G hA hp
 b:Below w.heap.size w G
 wr:w.heap.size<R
 rx:R<X
 xb:X<base
 bz:base≤G.heap.size
section
variable {w G W2 w3:World}{R X base n c co:Nat}{s h s' h':Int}{A Ao hA:Option Addr}{L':List OpV}{hp:List PartD}
section
variable(k:HeardR w R X base s h A n c s' h' Ao co L' hA hp G)
include k
theorem HeardR.la(hb:Below G.heap.size G W2):HeardR w R X base s h A n c s' h' Ao co L' hA hp W2:=by
 have h1:=k.wr;have h2:=k.rx;have h3:=k.xb;have h4:=k.bz;have h5:=hb.size;exact⟨(hb.block _ (by omega)).trans k.e,(hb.block _ (by omega)).trans k.r,(hb.block _ (by omega)).trans k.x,k.own.kept hb.size (fun b _ h9=>hb.block b h9),
  k.o.mv fun b h9=>⟨⟨⟨h9.1.1,by omega⟩,h9.2⟩,hb.block b h9.1.2⟩,bThen k.b hb,h1,h2,h3,by omega⟩
theorem HeardR.apart{x:Nat}(hx:x<base):(Value.slice Ao L'.length co).ownBlock≠some x:=it_ k.own.row hx
theorem HeardR.far(hb:Below G.heap.size G W2){ob:Obj}(hg:(W2.alloc ob).grownBy w3 (Value.slice Ao L'.length co).ownBlock){x:Nat}(hx:x<base):w3.heap[x]?=G.heap[x]?:=by
 have h4:=k.bz;have h5:=hb.size;exact(hg.block x (by simp;omega) (fun e=>k.apart hx e.symm)).trans ((q_ _ _ x (by omega)).trans (hb.block x (by omega)))
end
theorem HeardR.push{A' pA oA:Option Addr}{c' pc oc:Nat}{pp op:List PartD}{ob:Obj}(k:HeardR w R X base s h A n c s' h' Ao co L' hA hp G)(hb:Below G.heap.size G W2)
 (h1:W2.ownsRow G.heap.size 73 3 (.slice pA pp.length pc) pp.length (opCells pp)) (h2:W2.ownsRow G.heap.size 73 3 (.slice oA op.length oc) op.length (opCells op))
 (hg:(W2.alloc ob).grownBy w3 (Value.slice Ao L'.length co).ownBlock) (hown:w3.ownsRow base 30 1 (.slice A' (L'.length+1) c') (L'.length+1) (L'.map OpV.val++ [.slice pA pp.length pc]))
 (hat:(Value.slice A' (L'.length+1) c').ownBlock=(Value.slice Ao L'.length co).ownBlock∨(Value.slice A' (L'.length+1) c').ownBlock=some (W2.alloc ob).heap.size):
 HeardR w R X base s h A n c s' h' A' c' (L'++ [⟨pA,pc,pp⟩]) oA op (w3.setCell ⟨X,2,none⟩ (.slice A' (L'.length+1) c')):=by
 have g1:=k.wr;have g2:=k.rx;have g3:=k.xb;have g4:=k.bz;have g5:=hb.size;have g6:=hg.size;simp at g6;have hP:=k.own.push g4 hb h1 hg hown hat;have hz:(w3.setCell ⟨X,2,none⟩ (.slice A' (L'.length+1) c')).heap.size=w3.heap.size:=by simp [World.setCell]
 have hfar: ∀x,x≠X→(w3.setCell ⟨X,2,none⟩ (.slice A' (L'.length+1) c')).heap[x]?=w3.heap[x]?:=fun x hx=>bH_ (by simpa using hx);have hlen:(L'++ [(⟨pA,pc,pp⟩:OpV)]).length=L'.length+1:=by simp
 refine⟨(hfar _ (by omega)).trans ((k.far hb hg (by omega)).trans k.e),(hfar _ (by omega)).trans ((k.far hb hg (by omega)).trans k.r),?_,hP.kept (by omega) (fun b hb' _=>hfar b (by omega)),?_,?_,g1,g2,g3,by omega⟩
 ·rw [hlen];exact x_ ((k.far hb hg g3).trans k.x)
 ·refine(Sl.of_own _ h2).mv fun b hb'=>?_;have hne:(Value.slice Ao L'.length co).ownBlock≠some b:=fun e=>by have:=(k.own.row.lt b e).2;omega
  refine⟨⟨⟨by omega,by omega⟩,fun e=>?_⟩,(hfar b (by omega)).trans ((hg.block b (by simp;omega) (fun e=>hne e.symm)).trans (q_ _ _ b hb'.2))⟩;rw [hlen]at e;rcases hat with h9 | h9
  ·exact hne (h9.symm.trans e)
  ·rw [h9]at e;simp at e;omega
 ·exact bSet (bm_ k.b hb hg (fun g e=>by have:=(k.own.row.lt g e).1;omega)) (by show w.heap.size≤X;omega) _
end
theorem bhr_(w:World)(f:SideV)(q:Int)(Q:Nat)(hq:w.cell? ⟨Q,0,none⟩=some (.int .i64 q)):Calls Tryz.prog 31 #[f.val,.pointer (some ⟨Q,0,none⟩)] w (R_ w (.bool (f.p==q))):=by
 obtain⟨p,j,s,h,A,c,L,⟨ke,kn,sA,sc,ks,qA,qc,kq,kh⟩⟩:=f;dsimp only;have hQ:Q<w.heap.size:=World.block_lt_of_cell? _ _ hq;have hn1: ¬Q=w.heap.size:=by omega
 have hn2: ¬w.heap.size=Q:=by omega
 go_enter Tryz.func31,Tryz.ntmps31
 go_wp2_with fail
 go_ret
 exact⟨by first | done | rfl | (simp;done) | (simp;omega),bz_⟩
theorem pg_(w:World)(A:OA_)(c:Nat)(L:List SideV)(n q:Int)(Q:Nat)(hq:w.cell? ⟨Q,0,none⟩=some (.int .i64 q))(hs:SidesIn w A L)(hm:L.length≤1048576)
 (hn:(n= -1∧ ∀f∈L,(f.p==q)=false)∨ ∃k:Nat,∃hk:k<L.length,n=k∧(L[k].p==q)=true∧ ∀i (hi:i<L.length),i<k→(L[i].p==q)=false):
 Calls Tryz.prog 30 #[.slice A L.length c,.func (.func 31) #[] #[.pointer (some ⟨Q,0,none⟩)]] w (R_ w (.int .i64 n)):=by
 have HN:=h_ hn;have HQ:=h_ hq;have hQ:Q<w.heap.size:=World.block_lt_of_cell? _ _ hq;have HS:=h_ hs;clear hn hs hq;go_enter Tryz.func30,Tryz.ntmps30
 go_wp2_with fail
 go_loopw [5,8] (fun _ i wr=> ∃k:Nat,k≤L.length∧i= .int .i64 k∧Hid (∀i (hi:i<L.length),i<k→(L[i].p==q)=false)∧Below w.heap.size w wr) (fun _ i _=>L.length - (intOf i).toNat)
 case atStart=>exact⟨0,Nat.zero_le _,rfl,fun i hi h=>absurd h (by omega),Below.refl _ _⟩
 case round=>
  obtain⟨k,hk,rfl,hg,hbw⟩:=hrel;by_cases hlt:k<L.length
  ·obtain⟨b,o,rfl,hbs,hc⟩:=bh_ SideV.cells 10 SideV.cells_len (HS.o.la hbw).row hlt;have g0:=hc 0 _ rfl;have g1:=hc 1 _ rfl;have g2:=hc 2 _ rfl;have g3:=hc 3 _ rfl;have g4:=hc 4 _ rfl;have g5:=hc 5 _ rfl;have g6:=hc 6 _ rfl;have g7:=hc 7 _ rfl;have g8:=hc 8 _ rfl;have g9:=hc 9 _ rfl;rw [Nat.add_zero]at g0;clear hc;have HB:=h_ (fun(W:World) hq=>bhr_ W L[k] q Q hq);by_cases hf:(L[k].p==q)=false
   ·have HG:=h_ (show∀i (hi:i<L.length),i<k+1→(L[i].p==q)=false by
     intro i hi hik;rcases Nat.lt_or_ge i k with q | q
     · exact hg.o i hi q
     · obtain rfl:i=k:=by omega
       exact hf)
    rw [hf]at HB;clear hf hg;generalize L[k]=f at*;obtain⟨p,j,s,h,eA,ec,eL,⟨ke,kn,sA,sc,ks,qA,qc,kq,kh⟩⟩:=f;dsimp only at*;go_wp2_with fail
    refine(HB.o _ ((hbw.cell (p:=⟨Q,0,none⟩) hQ).trans HQ.o)).mono ?_;rintro r w1 ⟨rfl,hb1⟩;go_wp2_with fail
    go_roundw
    case rel=>exact⟨k+1,by omega,by go_num,HG,bThen hbw hb1⟩
    case measure=>simp [intOf];omega
   ·have HR:=h_ (show n=(k:Int) by
     rcases HN.o with⟨_,q⟩ | ⟨m,hm2,rfl,h1,h2⟩
     · exact absurd (q _ (List.getElem_mem hlt)) hf
     · rcases Nat.lt_trichotomy k m with q | q | q
       · exact absurd (h2 k hlt q) hf
       · omega
       · rw [hg.o m hm2 q]at h1
         cases h1)
    have hb0:(L[k].p==q)=true:=(by simpa using hf);rw [hb0]at HB;clear hf hg hb0;generalize L[k]=f at*;obtain⟨p,j,s,h,eA,ec,eL,⟨ke,kn,sA,sc,ks,qA,qc,kq,kh⟩⟩:=f;dsimp only at*;go_wp2_with fail
    refine(HB.o _ ((hbw.cell (p:=⟨Q,0,none⟩) hQ).trans HQ.o)).mono ?_;exact m261_
  ·obtain rfl:k=L.length:=(by omega);have HR:=h_ (show n= -1 by
    rcases HN.o with⟨q,_⟩ | ⟨m,hm2,rfl,h1,h2⟩
    · exact q
    · rw [hg.o m hm2 hm2]at h1
      cases h1)
   clear hg;go_wp2_with fail
   go_ret
   exact⟨by rw [HR.o];rfl,hbw⟩
end Go.Proofs.YtacacoklddogmaaGreatDoor
