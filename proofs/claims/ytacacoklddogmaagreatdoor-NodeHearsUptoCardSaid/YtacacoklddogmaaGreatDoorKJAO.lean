/- Lemmas. -/
import Derived.Test.YtacacoklddogmaaGreatDoorKJAP
import Derived.Test.YtacacoklddogmaaGreatDoorKJAI
namespace Go.Proofs.YtacacoklddogmaaGreatDoor
set_option maxHeartbeats 4000000
open Go.ChangeShapes Go.WideShapes Go.ChangeAt Go.RowKit
set_option maxRecDepth 100000
theorem m0_{P:Prop}(h:P:=by
 obtain⟨i0,hi0,hz0,hz1,hz2⟩:=info_parts infoSide;obtain⟨j0,hj0,hy0,hy1,hy2⟩:=info_parts infoMark;obtain⟨me,ep,up,rd,t,sA,sc,S,uA,uc,U,mA,mc,M⟩:=n;have hSL:S.length≤1048576:=hm.sl;have hML:M.length≤1048576:=hm.ml;have HM:=h_ hm;have HI:=h_ hi;have HCU:=h_ (fun W hs=>sf_ W uA uc U hs hm.ul (fun o ho=>(hm.undo o ho).len));clear hi hm;have HA:=h_ (pq_ w #[.int .i64 me,.int .i64 ep,.int .i64 up,.bool rd,.string t,.slice sA S.length sc,.slice uA U.length uc,.slice mA M.length mc]);obtain⟨WA,hWA⟩:=q2_ (((w.alloc (.cells #[.int .i64 me,.int .i64 ep,.int .i64 up,.bool rd,.string t,.slice sA S.length sc,.slice uA U.length uc,.slice mA M.length mc] 28)).alloc (.cells #[.int .i64 0,.int .i64 0,.int .i64 0,.bool false,.string ⟨#[]⟩,.slice none 0 0,.slice none 0 0,.slice none 0 0] 28)));rw [←hWA]at HA;have HBA:=h_ (show Below w.heap.size w WA by rw [hWA];exact bAlloc bA_ _);have hzA:WA.heap.size=w.heap.size+1+1:=by rw [hWA];simp
 have HW:=h_ hWA.symm;clear hWA;obtain⟨R,hR⟩:=q2_ (w.heap.size+1);rw [←hR]at HA;have hwR:w.heap.size<R:=by omega
 have hRz:R<WA.heap.size:=by omega
 have HRE:=h_ hR.symm;clear hR hzA;obtain⟨n0,n1,n2,n3,n4,n5,n6,n7,nz⟩:=r_ HA.o.1;go_enter Tryz.func6,Tryz.ntmps6
 go_wp2_with fail
 rw [HW.o,HRE.o];apply cutH
 ·intro hΦ;go_region_held3 (fun w'=>w'.cell? ⟨w.heap.size,0,none⟩=some (.int .i64 me)∧w'.cell? ⟨w.heap.size,1,none⟩=some (.int .i64 ep)∧w'.cell? ⟨w.heap.size,2,none⟩=some (.int .i64 up)∧w'.cell? ⟨w.heap.size,3,none⟩=some (.bool rd)∧w'.cell? ⟨w.heap.size,4,none⟩=some (.string t)∧w'.cell? ⟨w.heap.size,6,none⟩=some (.slice uA U.length uc))
   (go_keep)
   ((go_at_call 16;(with_reducible refine(HCU.o _ ?_).mono ?_);exact(OpsIn.la HI.o.undo HBA.o).la bz_;rintro r w2 ⟨A8,c8,L8,rfl,hd2,ho2,hb2⟩;obtain⟨⟨d2,os2⟩,rfl⟩:=e_ hb2))
  all_goals(
   first
    | (refine u_ (fun G => OwnAt w R WA.heap.size #[.int .i64 me, .int .i64 ep, .int .i64 up, .bool rd, .string t, .slice sA S.length sc, .slice uA U.length uc, .slice mA M.length mc] #[.int .i64 me, .int .i64 ep, .int .i64 up, .bool rd, .string t, .slice none 0 0, .slice A8 L8.length c8, .slice none 0 0] G ∧ OpsS (fun b => (R < b ∧ b < G.heap.size) ∧ b ≠ WA.heap.size) G A8 L8 ∧ OpsOwn G (R + 1) A8 c8 L8)
        ⟨OwnAt.o HA.o HBA.o hwR hRz (bThen bA_ (below_regrown _ _ _)) (Nat.le_refl _) (((below_regrown _ _ _).block _ (by simp)).trans (World.alloc_heap_new _ _)),?_,?_⟩ ?_
       · exact(ia_ ho2 (by simp) (by simp)).mv fun b hb=>⟨⟨⟨by have:=hb.1;simp at this;omega,hb.2⟩,by have:=hb.1;simp at this;omega⟩,rfl⟩
       · exact(hz_ ho2 (by simp) (by simp)).mono (by simp;omega)
       generalize WA.heap.size=X)
    | (refine u_ (fun G => OwnAt w R (WA.heap.size + os2.size) #[.int .i64 me, .int .i64 ep, .int .i64 up, .bool rd, .string t, .slice sA S.length sc, .slice uA U.length uc, .slice mA M.length mc] #[.int .i64 me, .int .i64 ep, .int .i64 up, .bool rd, .string t, .slice none 0 0, .slice A8 L8.length c8, .slice none 0 0] G ∧ OpsS (fun b => (R < b ∧ b < G.heap.size) ∧ b ≠ WA.heap.size + os2.size) G A8 L8 ∧ OpsOwn G (R + 1) A8 c8 L8)
        ⟨OwnAt.o HA.o HBA.o hwR hRz (bThen (below_regrown WA d2 os2) bA_) (by omega) (by
         have h1:=World.alloc_heap_new (Go.Sort.grow (redrawn WA d2) os2) (.cells #[.int .i64 me,.int .i64 ep,.int .i64 up,.bool rd,.string t,.slice none 0 0,.slice A8 L8.length c8,.slice none 0 0] 28);have h2:(Go.Sort.grow (redrawn WA d2) os2).heap.size=WA.heap.size+os2.size:=(by simp [Go.Sort.grow,redrawn]);rw [h2]at h1;exact h1),?_,?_⟩ ?_
       · have h2:(Go.Sort.grow (redrawn WA d2) os2).heap.size=WA.heap.size+os2.size:=by simp [Go.Sort.grow,redrawn]
         exact(ia_ (Y:=WA) ho2 (by simp) (by simp)).mv fun b hb=>⟨⟨⟨by have:=hb.1;simp at this;omega,by have:=hb.2;simp at this⊢;omega⟩,by have:=hb.2;omega⟩,q_ _ _ b hb.2⟩
       · exact((hz_ (Y:=WA) ho2 (by simp) (by simp)).kept (by simp) (fun b _ hl=>q_ _ _ b hl)).mono (by simp;omega)
       generalize WA.heap.size+os2.size=X)
   clear ho2 hb2;repeat(rename_i hq;clear hq)
   revert A8 c8 L8 hd2 X;exact Hid.o hΦ)
 ·rintro A8 c8 L8 hd8 X G ⟨hA,hO,hOO⟩;have HO8o:=h_ hOO;have HUX:=h_ (s_ hOO.row hA.x (by decide));clear hOO;have HA:=h_ hA;have HO8:=h_ hO;have HD8:=h_ hd8;clear hA hO hd8;clear n0 n1 n2 n3 n4 n5 n6 n7 nz;obtain⟨B1,hB1⟩:=q2_ (G.heap.size);have hwX:w.heap.size<X:=by have:=HA.o.wr;have:=HA.o.rx;omega
  have hneX: ¬w.heap.size=X:=by omega
  have hXB:X<B1:=by have:=HA.o.xz;omega
  have HB1:=h_ hB1;clear hB1;go_wp2_with fail
  go_loopw [4] (fun i wr=> ∃(k:Nat) (A7:OA_) (c7:Nat),k≤M.length∧i= .int .i64 k∧Hid (OwnAt w R X #[.int .i64 me,.int .i64 ep,.int .i64 up,.bool rd,.string t,.slice sA S.length sc,.slice uA U.length uc,.slice mA M.length mc] #[.int .i64 me,.int .i64 ep,.int .i64 up,.bool rd,.string t,.slice none 0 0,.slice A8 L8.length c8,.slice A7 k c7] wr)∧Hid (wr.ownsRow B1 53 2 (.slice A7 k c7) k ((M.take k).flatMap markCells))∧Hid (B1≤wr.heap.size)∧Hid (∀b,b<B1→b≠X→wr.heap[b]?=G.heap[b]?)) (fun i _=>M.length - (intOf i).toNat)
  case atStart=>exact⟨0,none,0,Nat.zero_le _,rfl,HA,h_ (World.ownsRow_nil _ _ _ _),h_ (by rw [HB1.o];exact Nat.le_refl _),fun _ _ _=>rfl⟩
  case round=>
   obtain⟨k,A7,c7,hk,rfl,HX,HS,hbz,hold⟩:=hrel;obtain⟨n0,n1,n2,n3,n4,n5,n6,n7,nz⟩:=r_ HX.o.nd;obtain⟨x0,x1,x2,x3,x4,x5,x6,x7,xz⟩:=r_ HX.o.x;by_cases hlt:k<M.length
   ·obtain⟨b,o,rfl,hbs,hc⟩:=bh_ markCells 2 bp_ (Sl.la HI.o.marks HX.o.b) hlt;have ce0:wr.cell? ⟨b,o+k*2,none⟩=some (.int .i64 M[k].1):=hc 0 _ rfl;have ce1:wr.cell? ⟨b,o+k*2+1,none⟩=some (.int .i64 M[k].2):=hc 1 _ rfl;have hki:(k:Int)<(M.length:Int):=(by omega);have HTK:=h_ (show(M.take (k+1)).flatMap markCells=(M.take k).flatMap markCells++ [.int .i64 M[k].1,.int .i64 M[k].2] by rw [List.take_succ_eq_append_getElem hlt,List.flatMap_append];simp [markCells]);generalize M[k]=m at*;obtain⟨m0,m1⟩:=m;dsimp only at ce0 ce1;clear hc;have r7:=tenF HX.o.x 7;go_wp2_with(refine z_ ?_)
    refine⟨?_⟩;go_region_law (first
     | (refine bg_ _ rfl _ _ 26 rfl B1 53 j0 (.agg #[.int .i64 0,.int .i64 0]) 2 16 Tryz.underlying26 hj0 hy0 hy1 hy2 rfl (by decide) _ _ _ rfl (ownsB HS.o bz_) (fun _=>True) _ _ _ _ rfl (bl_ (by rfl) (by simp)) ?_ ?_ ?_ ?_ ?_;(intro u hu;simp at hu;rcases hu with rfl | rfl <;> rfl);(unfold maxLen;omega);omega;(have:=hbz.o;simp;omega);intro A' c' w3 hown' hgrow hat;(have HX3:=HX.o.grown (show Below wr.heap.size wr _ from bz_) hgrow (fun g hg=>by have:=(HS.o.lt g hg).1;omega));have hkp:=hy_ (show Below wr.heap.size wr _ from bz_) hgrow (fun g hg=>(HS.o.lt g hg).1);obtain⟨y0,y1,y2,y3,y4,y5,y6,y7,yz⟩:=r_ HX3.x;have s7:=tenF HX3.x 7))
    all_goals(
     refine u_ (fun H=>OwnAt w R X #[.int .i64 me,.int .i64 ep,.int .i64 up,.bool rd,.string t,.slice sA S.length sc,.slice uA U.length uc,.slice (some ⟨b,o,none⟩) M.length mc] #[.int .i64 me,.int .i64 ep,.int .i64 up,.bool rd,.string t,.slice none 0 0,.slice A8 L8.length c8,.slice A' (k+1) c'] H∧H.ownsRow B1 53 2 (.slice A' (k+1) c') (k+1) ((M.take (k+1)).flatMap markCells)∧B1≤H.heap.size∧ ∀b,b<B1→b≠X→H.heap[b]?=G.heap[b]?)
      ⟨HX3.set 7 _,ownsSet (by rw [HTK.o];exact hown') (fun e=>by have:=(hown'.lt X e).1;omega),by have:=hkp.1;have:=hbz.o;simp [World.setCell];omega,fun b h1 h2=>(bH_ (by show b≠X;omega)).trans ((hkp.2 b (by have:=hbz.o;omega) h1).trans (hold.o b h1 h2))⟩ ?_
     clear hown' hgrow hat HX3 hkp y0 y1 y2 y3 y4 y5 y6 y7 yz s7 n0 n1 n2 n3 n4 n5 n6 n7 nz x0 x1 x2 x3 x4 x5 x6 x7 xz r7 ce0 ce1;rintro H ⟨h1,h2,h3,h4⟩;have HG4:=h_ h1;have HG5:=h_ h2;have HG6:=h_ h3;have HG7:=h_ h4;clear h1 h2 h3 h4;go_wp2_with fail
     go_roundw
     case rel=>exact⟨k+1,A',c',by omega,by go_num,HG4,HG5,HG6,HG7⟩
     case measure=>simp [intOf];omega)
   ·obtain rfl:k=M.length:=(by omega);have HS:=h_ (show wr.ownsRow B1 53 2 (.slice A7 M.length c7) M.length (M.flatMap markCells) by have:=HS.o;rwa [List.take_length]at this);obtain⟨B2,hB2⟩:=q2_ (wr.heap.size);have hB12:B1≤B2:=(by have:=hbz.o;omega);have HB2:=h_ hB2;clear hB2 hk hlt;obtain⟨wm,hwm⟩:=q2_ (wr);subst hwm;go_wp2_with fail
    first
    |guard_hyp vB
     go_loopw [5] (fun i wr=> ∃(k:Nat) (L':List SideV) (Ao:OA_) (co:Nat),k≤S.length∧i= .int .i64 k∧Hid (L'.length=k)∧Hid (L'.map SideV.d=(S.take k).map SideV.d)∧Hid (OwnAt w R X #[.int .i64 me,.int .i64 ep,.int .i64 up,.bool rd,.string t,.slice sA S.length sc,.slice uA U.length uc,.slice mA M.length mc] #[.int .i64 me,.int .i64 ep,.int .i64 up,.bool rd,.string t,.slice Ao L'.length co,.slice A8 L8.length c8,.slice A7 M.length c7] wr)∧Hid (SidesOwn wr B2 Ao co L')∧Hid (B2≤wr.heap.size)∧Hid (∀b,b<B2→b≠X→wr.heap[b]?=wm.heap[b]?)∧Hid (∀x∈L',x.k.s.length≤x.k.sc)) (fun i _=>S.length - (intOf i).toNat)
     case atStart=>exact⟨0,[],none,0,Nat.zero_le _,rfl,rfl,rfl,HX,SidesOwn.nil _ _,h_ (by rw [HB2.o];exact Nat.le_refl _),fun _ _ _=>rfl,h_ (fun x hx=>nomatch hx)⟩
    |go_loopw [5] (fun i wr=> ∃(k:Nat) (L':List SideV) (Ao:OA_) (co:Nat),k≤S.length∧i= .int .i64 k∧Hid (L'.length=k)∧Hid (L'.map SideV.d=(S.take k).map SideV.d)∧Hid (OwnAt w R X #[.int .i64 me,.int .i64 ep,.int .i64 up,.bool rd,.string t,.slice sA S.length sc,.slice uA U.length uc,.slice mA M.length mc] #[.int .i64 me,.int .i64 ep,.int .i64 up,.bool rd,.string t,.slice Ao L'.length co,.slice A8 L8.length c8,.slice A7 M.length c7] wr)∧Hid (SidesOwn wr B2 Ao co L')∧Hid (B2≤wr.heap.size)∧Hid (∀b,b<B2→b≠X→wr.heap[b]?=wm.heap[b]?)) (fun i _=>S.length - (intOf i).toNat)
     case atStart=>exact⟨0,[],none,0,Nat.zero_le _,rfl,rfl,rfl,HX,SidesOwn.nil _ _,h_ (by rw [HB2.o];exact Nat.le_refl _),fun _ _ _=>rfl⟩
    case round=>
     first
     |guard_hyp vB
      obtain⟨k,L',Ao,co,hk,rfl,hL',hps,HX2,HS2,hbz2,hold2,HCS⟩:=hrel;skip
     |obtain⟨k,L',Ao,co,hk,rfl,hL',hps,HX2,HS2,hbz2,hold2⟩:=hrel
     clear n0 n1 n2 n3 n4 n5 n6 n7 nz x0 x1 x2 x3 x4 x5 x6 x7 xz;obtain⟨n0,n1,n2,n3,n4,n5,n6,n7,nz⟩:=r_ HX2.o.nd;by_cases hlt:k<S.length
     ·obtain⟨b,o,rfl,hbs,hc⟩:=bh_ SideV.cells 10 SideV.cells_len (Sl.la HI.o.sides.row HX2.o.b) hlt;have k116_:K_ (∀(P:Prop) (h:P:=by
      have HXI:=h_ ((HI.o.sides.each _ (List.getElem_mem hlt)).la HX2.o.b);have k226_:K_ (∀(P:Prop) (h:P:=by
      have HCE:=h_ (fun W hs=>jb_ W s h A c L hs HSM.o.len HSM.o.ops);first
      |guard_hyp vB
       have HCL:=h_ (fun W hs=>zg_ W ⟨ke,kn,sA2,sc2,ks,qA2,qc2,kq,kh⟩ hs HSM.o.link)
      |have HCL:=h_ (fun W hs=>zh_ W ⟨ke,kn,sA2,sc2,ks,qA2,qc2,kq,kh⟩ hs HSM.o.link)
      have k156_:K_ (∀(P:Prop) (h:P:=by
      obtain⟨F,hF⟩:=q2_ (wr.heap.size);rw [←hF]at HF0;have HFE:=h_ hF;have hFz:F<WX.heap.size:=(by omega);clear hWX hF;go_wp2_with fail
      rw [HWX.o,←HFE.o];refine(HCE.o WX (HXI.o.ops.la HBX.o)).mono ?_;rintro e w2 ⟨A1,c1',L1,rfl,hd1,ho1,hb2⟩;have HF2:=(hb2.block F hFz).trans HF0.o;obtain⟨y0,y1,y2,y3,y4,y5,y6,y7,y8,y9,yz⟩:=j_ HF2;have q2:=tenF HF2 2;have q3:=tenF HF2 3;have q4:=tenF HF2 4;obtain⟨W3,hW3⟩:=q2_ (((w2.setCell ⟨F,2,none⟩ (.int .i64 s)).setCell ⟨F,3,none⟩ (.int .i64 h)).setCell ⟨F,4,none⟩ (.slice A1 L1.length c1'));have hO3:Only F w2 W3:=(by rw [hW3];exact(q5_.trans q5_).trans q5_);have HF3:=h_ (show W3.heap[F]?=some (.cells #[.int .i64 p,.bool j,.int .i64 s,.int .i64 h,.slice A1 L1.length c1',.int .i64 ke,.int .i64 kn,.slice sA2 ks.length sc2,.slice qA2 kq.length qc2,.int .i64 kh] 60 (0,0)) by rw [hW3];exact f_ 4 _ (f_ 3 _ (f_ 2 _ HF2)));have hfe:=HFE.o;have hz2:=hb2.size;have hz3:=hO3.size;have HB3:=h_ (show Below wr.heap.size wr W3 from bThen HBX.o (bThen hb2 (Below.refl _ _)) |>.trans (hO3.below (by omega) (by omega)));have HO3:=h_ (show OpsOwn W3 WX.heap.size A1 c1' L1 from ho1.kept hO3.size (fun b hb hl=>hO3.block b hl (by omega)));have HD1:=h_ hd1;have HWS:=h_ hW3.symm;have hFz3:F<W3.heap.size:=(by omega);clear hd1 ho1 hb2 HF2 hW3 hO3 hfe hz2 hz3;go_wp2_with fail
      rw [HWS.o];clear y0 y1 y2 y3 y4 y5 y6 y7 y8 y9 yz q2 q3 q4;refine(HCL.o W3 (HXI.o.link.la HB3.o)).mono ?_;first
      |guard_hyp vB
       rintro e w4 ⟨⟨le,ln,A2,c2,L2,A3,c3,L3,lh⟩,rfl,hld,hls,hb4,hcl⟩;skip
      |rintro e w4 ⟨⟨le,ln,A2,c2,L2,A3,c3,L3,lh⟩,rfl,hld,hls,hb4⟩
      simp only [LinkV.d,LinkD.mk.injEq]at hld;obtain⟨e1,e2,hd2,hd3,e5⟩:=hld;subst e1 e2 e5;have HF4:=(hb4.block F hFz3).trans HF3.o;obtain⟨y0,y1,y2,y3,y4,y5,y6,y7,y8,y9,yz⟩:=j_ HF4;have q5:=tenF HF4 5;have q6:=tenF HF4 6;have q7:=tenF HF4 7;have q8:=tenF HF4 8;have q9:=tenF HF4 9;obtain⟨G2,hG2⟩:=q2_ (((((w4.setCell ⟨F,5,none⟩ (.int .i64 le)).setCell ⟨F,6,none⟩ (.int .i64 ln)).setCell ⟨F,7,none⟩ (.slice A2 L2.length c2)).setCell ⟨F,8,none⟩ (.slice A3 L3.length c3)).setCell ⟨F,9,none⟩ (.int .i64 lh));have hO5:Only F w4 G2:=(by rw [hG2];exact(((q5_.trans q5_).trans q5_).trans q5_).trans q5_);have HG1:=h_ (show G2.heap[F]?=some (.cells #[.int .i64 p,.bool j,.int .i64 s,.int .i64 h,.slice A1 L1.length c1',.int .i64 le,.int .i64 ln,.slice A2 L2.length c2,.slice A3 L3.length c3,.int .i64 lh] 60 (0,0)) by rw [hG2];exact f_ 9 _ (f_ 8 _ (f_ 7 _ (f_ 6 _ (f_ 5 _ HF4)))));have hfe:=HFE.o;have hz4:=hb4.size;have hz5:=hO5.size;have HG2:=h_ (show Below wr.heap.size wr G2 from bThen HB3.o hb4 |>.trans (hO5.below (by omega) (by omega)));have HG3:=h_ (show(⟨p,j,s,h,A1,c1',L1,⟨le,ln,A2,c2,L2,A3,c3,L3,lh⟩⟩:SideV).InS (fun b=>wr.heap.size≤b∧b<G2.heap.size) G2 from by
       have k1:=OpsS.of (HO3.o.kept (w':=G2) (by omega) (fun b hb hl=>(hO5.block b (by omega) (by omega)).trans (hb4.block b hl)));have k2:=hls.mv (w':=G2) (S':=fun b=>wr.heap.size≤b∧b<G2.heap.size) (fun b hb=>by
        have t1:=hb.1;have t2:=hb.2;exact⟨⟨by omega,by omega⟩,hO5.block b t2 (by omega)⟩)
       have k3:=k1.mv (S':=fun b=>wr.heap.size≤b∧b<G2.heap.size) (fun b hb=>by
        have t1:=hb.1;have t2:=hb.2;exact⟨⟨by omega,t2⟩,rfl⟩)
       exact⟨k3.row,k3.each,k2.s,k2.so,k2.q,k2.qo⟩)
      first
      |guard_hyp vB
       have HCAP:=h_ (show L2.length≤c2 from hcl)
      |skip
      have HD2:=h_ hd2;have HD3:=h_ hd3;have HGE:=h_ hG2.symm;have HGZ:=h_ (show w4.heap.size=G2.heap.size by rw [hG2];simp [World.setCell]);have HXG:=h_ (HX2.o.la HG2.o);have HX4:=h_ (HX2.o.la (bThen HB3.o hb4));have hzG:=HG2.o.size;first
      |guard_hyp vB
       clear hcl hd2 hd3 hls hb4 hO5 hfe hz4 hz5 HF4 hG2
      |clear hd2 hd3 hls hb4 hO5 hfe hz4 hz5 HF4 hG2
      have hFX: ¬F=X:=(by have:=HFE.o;have:=hbz2.o;omega);have hXF: ¬X=F:=fun e=>hFX e.symm;obtain⟨x0,x1,x2,x3,x4,x5,x6,x7,xz⟩:=r_ HX4.o.x;go_wp2_with(refine bb_ rfl ?_)
      refine⟨?_⟩;rw [HGE.o];clear x0 x1 x2 x3 x4 x5 x6 x7 xz;clear y0 y1 y2 y3 y4 y5 y6 y7 y8 y9 yz q5 q6 q7 q8 q9 n0 n1 n2 n3 n4 n5 n6 n7 nz ce0 ce1 ce2 ce3 ce4 ce5 ce6 ce7 ce8 ce9;obtain⟨y0,y1,y2,y3,y4,y5,y6,y7,y8,y9,yz⟩:=j_ HG1.o;obtain⟨x0,x1,x2,x3,x4,x5,x6,x7,xz⟩:=r_ HXG.o.x;have HRX:=h_ ((SidesOwn.kept HS2.o HG2.o.size (fun b _ hl=>HG2.o.block b hl)).row.alloc (.cells #[.int .i64 p,.bool j,.int .i64 s,.int .i64 h,.slice A1 L1.length c1',.int .i64 le,.int .i64 ln,.slice A2 L2.length c2,.slice A3 L3.length c3,.int .i64 lh] 60));refine l_ _ rfl _ _ 24 rfl B2 60 i0 (.agg #[.int .i64 0,.bool false,.int .i64 0,.int .i64 0,.slice none 0 0,.int .i64 0,.int .i64 0,.slice none 0 0,.slice none 0 0,.int .i64 0]) 10 128 Tryz.underlying24 hi0 hz0 hz1 hz2 rfl (by decide) _ _ _ rfl HRX.o (fun _=>True) _ _ _ _ rfl (bl_ (by rfl) (by simp [HGZ.o])) ?c1 ?c2 ?c3 ?c4 ?_
      case c1=>intro u hu;simp at hu;rcases hu with rfl | rfl | rfl | rfl | rfl | rfl | rfl | rfl | rfl | rfl <;> rfl
      case c2=>have:=hL'.o;unfold maxLen;omega
      case c3=>have:=hL'.o;omega
      case c4=>have:=hbz2.o;simp;omega
      intro A' c' w3 hown' hgrow hat;have HLN:=h_ (show(L'++ [(⟨p,j,s,h,A1,c1',L1,⟨le,ln,A2,c2,L2,A3,c3,L3,lh⟩⟩:SideV)]).length=L'.length+1 by simp);have hP:=SidesOwn.push (x:=(⟨p,j,s,h,A1,c1',L1,⟨le,ln,A2,c2,L2,A3,c3,L3,lh⟩⟩:SideV)) HS2.o hbz2.o (fun b _ hl=>HG2.o.block b hl) HG2.o.size HG3.o hgrow hown' hat;have hBG:=bAlloc HG2.o (.cells #[.int .i64 p,.bool j,.int .i64 s,.int .i64 h,.slice A1 L1.length c1',.int .i64 le,.int .i64 ln,.slice A2 L2.length c2,.slice A3 L3.length c3,.int .i64 lh] 60);have hlow: ∀g,(Value.slice Ao L'.length co).ownBlock=some g→B2≤g:=fun g hg=>(HS2.o.row.lt g hg).1;have hkp:=hy_ (B:=B2) hBG hgrow hlow;have HX3:=h_ (HX2.o.grown hBG hgrow (fun g hg=>by have:=hlow g hg;omega));have HOL3:=h_ (show∀b,b<B2→b≠X→w3.heap[b]?=wm.heap[b]? from fun b h1 h2=>(hkp.2 b (by have:=hbz2.o;omega) h1).trans (hold2.o b h1 h2));have HZ3:=h_ (show B2≤w3.heap.size by have:=hbz2.o;have:=hkp.1;omega);have HP:=h_ hP;clear hown' hgrow hat hP hlow hkp hBG y0 y1 y2 y3 y4 y5 y6 y7 y8 y9 yz x0 x1 x2 x3 x4 x5 x6 x7 xz;obtain⟨x0,x1,x2,x3,x4,x5,x6,x7,xz⟩:=r_ HX3.o.x;have r5:=tenF HX3.o.x 5;obtain⟨n0,n1,n2,n3,n4,n5,n6,n7,nz⟩:=r_ HX3.o.nd;go_wp2_with fail
      have HG4:=h_ (HX3.o.set 5 (.slice A' (L'.length+1) c'));have HG5:=h_ (HP.o.kept (w':=w3.setCell ⟨X,5,none⟩ (.slice A' (L'.length+1) c')) (by simp [World.setCell]) (fun b hb hl=>bH_ (by show b≠X;omega)));have HG6:=h_ (show B2≤(w3.setCell ⟨X,5,none⟩ (.slice A' (L'.length+1) c')).heap.size by simpa [World.setCell]using HZ3.o);have HG7:=h_ (show∀b,b<B2→b≠X→(w3.setCell ⟨X,5,none⟩ (.slice A' (L'.length+1) c')).heap[b]?=wm.heap[b]? from fun b h1 h2=>(bH_ (by show b≠X;omega)).trans (HOL3.o b h1 h2));clear x0 x1 x2 x3 x4 x5 x6 x7 xz r5 n0 n1 n2 n3 n4 n5 n6 n7 nz;go_roundw
      first
      |guard_hyp vB
       case rel=>exact⟨k+1,L'++ [(⟨p,j,s,h,A1,c1',L1,⟨le,ln,A2,c2,L2,A3,c3,L3,lh⟩⟩:SideV)],A',c',by omega,by go_num,h_ (by rw [HLN.o,hL'.o]),h_ (by rw [List.map_append,hps.o,HTK.o];show _++ [(⟨p,j,s,h,L1.map OpV.ps,⟨le,ln,L2.map FrameV.d,L3.map FrameV.d,lh⟩⟩:SideD)]=_;rw [HD1.o,HD2.o,HD3.o]),h_ (by rw [HLN.o];exact HG4.o),HG5,HG6,HG7,h_ (fun x hx=>by rcases List.mem_append.1 hx with hx | hx;exact HCS.o x hx;obtain rfl:=List.mem_singleton.1 hx;exact HCAP.o)⟩
      |case rel=>exact⟨k+1,L'++ [(⟨p,j,s,h,A1,c1',L1,⟨le,ln,A2,c2,L2,A3,c3,L3,lh⟩⟩:SideV)],A',c',by omega,by go_num,h_ (by rw [HLN.o,hL'.o]),h_ (by rw [List.map_append,hps.o,HTK.o];show _++ [(⟨p,j,s,h,L1.map OpV.ps,⟨le,ln,L2.map FrameV.d,L3.map FrameV.d,lh⟩⟩:SideD)]=_;rw [HD1.o,HD2.o,HD3.o]),h_ (by rw [HLN.o];exact HG4.o),HG5,HG6,HG7⟩
      case measure=>simp [intOf];omega
      ),P):=⟨@q6_⟩
      exact m156_
      ),P):=⟨@q6_⟩
      exact m226_
      ),P):=⟨@q6_⟩
      exact m116_
     ·obtain rfl:k=S.length:=(by omega);have HPP:=h_ (show L'.map SideV.d=S.map SideV.d by rw [hps.o,List.take_length]);obtain⟨x0,x1,x2,x3,x4,x5,x6,x7,xz⟩:=r_ HX2.o.x;obtain⟨r0,r1,r2,r3,r4,r5,r6,r7,rz⟩:=r_ HX2.o.r;obtain⟨s0,s1,s2,s3,s4,s5,s6,s7⟩:=gk_ HX2.o.r;have hwR':w.heap.size<R:=HX2.o.wr;have hRX:R<X:=HX2.o.rx;have hn1: ¬R=X:=(by omega);have hn2: ¬X=R:=(by omega);go_wp2_with fail
      obtain⟨W9,hW9⟩:=q2_ ((((((((wr.setCell ⟨R,0,none⟩ (.int .i64 me)).setCell ⟨R,1,none⟩ (.int .i64 ep)).setCell ⟨R,2,none⟩ (.int .i64 up)).setCell ⟨R,3,none⟩ (.bool rd)).setCell ⟨R,4,none⟩ (.string t)).setCell ⟨R,5,none⟩ (.slice Ao L'.length co)).setCell ⟨R,6,none⟩ (.slice A8 L8.length c8)).setCell ⟨R,7,none⟩ (.slice A7 M.length c7));rw [←hW9];have hO2:Only R wr W9:=(by rw [hW9];exact((((((q5_.trans q5_).trans q5_).trans q5_).trans q5_).trans q5_).trans q5_).trans q5_);have hR9:W9.heap[R]?=some (.cells #[.int .i64 me,.int .i64 ep,.int .i64 up,.bool rd,.string t,.slice Ao L'.length co,.slice A8 L8.length c8,.slice A7 M.length c7] 28 (0,0)):=by
       rw [hW9];exact f_ 7 _ (f_ 6 _ (f_ 5 _ (f_ 4 _ (f_ 3 _ (f_ 2 _ (f_ 1 _ (f_ 0 _ HX2.o.r)))))))
      clear hW9;have z2:=hO2.size;have z4:=hbz2.o;have z5:=HB2.o;have z6:=HB1.o;have hkp: ∀b,b≠R→b<wr.heap.size→W9.heap[b]?=wr.heap[b]?:=fun b h1 h2=>hO2.block b h2 h1;have ku: ∀b,R<b→b<B1→b≠X→W9.heap[b]?=G.heap[b]?:=fun b h0 h1 h2=>(hkp b (by omega) (by omega)).trans ((hold2.o b (by omega) h2).trans (hold.o b h1 h2));have kU:(Value.slice A8 L8.length c8).ownBlock≠some X:=HUX.o;have ul: ∀y,(Value.slice A8 L8.length c8).ownBlock=some y→R+1≤y∧y<B1:=fun y hy=>by have:=HO8o.o.row.lt y hy;omega
      have ml: ∀y,(Value.slice A7 M.length c7).ownBlock=some y→B1≤y∧y<B2:=fun y hy=>by have:=HS.o.lt y hy;omega
      have sl: ∀y,(Value.slice Ao L'.length co).ownBlock=some y→B2≤y∧y<wr.heap.size:=fun y hy=>HS2.o.row.lt y hy;have kS:NodeFree W9 w.heap.size ⟨me,ep,up,rd,t,Ao,co,L',A8,c8,L8,A7,c7,M⟩:=by
       refine⟨ba_ (cf_ HS.o (by omega)) fun b hb=>?_,ba_ (cf_ HS2.o.row (by omega)) fun b hb=>?_,ba_ (cf_ HO8o.o.row (by omega)) fun b hb=>?_,fun x hx=>(HS2.o.each x hx).mv fun b hb=>⟨⟨⟨by have:=hb.1.1;omega,by have:=hb.1.2;omega⟩,fun e=>by have:=ml b e;have:=hb.1.1;omega,hb.2,fun e=>by have:=ul b e;have:=hb.1.1;omega⟩,hkp b (by have:=hb.1.1;omega) hb.1.2⟩,
        fun o ho=>((HO8o.o.each o ho).both (HO8.o.each o ho)).mv fun b hb=>?_⟩
       ·have h1:=ml b hb;exact(hkp b (by omega) (by omega)).trans (hold2.o b (by omega) (by omega))
       ·have h1:=sl b hb;exact hkp b (by omega) (by omega)
       ·have h1:=ul b hb;exact ku b (by omega) (by omega) (fun e=>kU (by rw [hb,e]))
       ·have h1:=hb.1.1;have h2:=hb.2.2;exact⟨⟨⟨by omega,by omega⟩,fun e=>by have:=ml b e;omega,fun e=>by have:=sl b e;omega,hb.1.2⟩,ku b (by omega) (by omega) h2⟩
      have k4:Below w.heap.size w W9:=HX2.o.b.trans (hO2.below (by omega) (by omega));refine u_ (fun G=>G.heap[R]?=some (.cells #[.int .i64 me,.int .i64 ep,.int .i64 up,.bool rd,.string t,.slice Ao L'.length co,.slice A8 L8.length c8,.slice A7 M.length c7] 28 (0,0))∧NodeFree G w.heap.size ⟨me,ep,up,rd,t,Ao,co,L',A8,c8,L8,A7,c7,M⟩∧Below w.heap.size w G) ⟨hR9,kS,k4⟩ ?_;rintro G9 ⟨j1,j2,j5⟩;clear r0 r1 r2 r3 r4 r5 r6 r7 rz s0 s1 s2 s3 s4 s5 s6 s7 x0 x1 x2 x3 x4 x5 x6 x7 xz;obtain⟨r0,r1,r2,r3,r4,r5,r6,r7,rz⟩:=r_ j1;refine bodyPost_ret (v:=(⟨me,ep,up,rd,t,Ao,co,L',A8,c8,L8,A7,c7,M⟩:NodeV).val) (by simp [results,Tryz.results6,go_sem,r0,r1,r2,r3,r4,r5,r6,r7]) rfl ?_;first
      |guard_hyp vB
       exact⟨⟨me,ep,up,rd,t,Ao,co,L',A8,c8,L8,A7,c7,M⟩,rfl,by simp only [NodeV.d,HPP.o,HD8.o],j2,j5,HCS.o⟩
      |exact⟨⟨me,ep,up,rd,t,Ao,co,L',A8,c8,L8,A7,c7,M⟩,rfl,by simp only [NodeV.d,HPP.o,HD8.o],j2,j5⟩):P:=h
theorem m67_{P:Prop}(h:P:=by
 go_wp2_with fail
 rw [HW.o,HE1.o,HE2.o];refine(HC.o _ (HT.o.la HBA.o) (HI.o.la HBA.o)).mono ?_;rintro r w1 ⟨rfl,hb1⟩;have hz1:=hb1.size;have HP1:=h_ (show LinkAt w1 w.heap.size ⟨e,n,sA,sc,s,qA,qc,q,h⟩from(hb1.block _ (by omega)).trans HP0.o);have HF1:=h_ (show FrameAt w1 F fk fh fe fA fp.length fc fs from(hb1.block _ (by omega)).trans HF0.o);have HR1:=h_ (show LinkAt w1 R zeroL from(hb1.block _ (by omega)).trans HR0.o);have HB1:=h_ (bThen HBA.o hb1);obtain⟨p0,p1,p2,p3,p4,_,_,_,_,_,_⟩:=a_ HP1.o;obtain⟨q0,q1,q2,q3,q4,_,_,_,_,_,_⟩:=a_ HF1.o;clear hb1;go_wp2_with fail
 refine(HF.o _ (HT.o.la HB1.o) (Sl.la HO.o HB1.o)).mono ?_;rintro r w2 ⟨rfl,hb2⟩;have hz2:=hb2.size;have HP2:=h_ (show LinkAt w2 w.heap.size ⟨e,n,sA,sc,s,qA,qc,q,h⟩from(hb2.block _ (by omega)).trans HP1.o);have HF2:=h_ (show FrameAt w2 F fk fh fe fA fp.length fc fs from(hb2.block _ (by omega)).trans HF1.o);have HR2:=h_ (show LinkAt w2 R zeroL from(hb2.block _ (by omega)).trans HR1.o);have HB2:=h_ (bThen HB1.o hb2);clear hb2 p0 p1 p2 p3 p4 q0 q1 q2 q3 q4;obtain⟨p0,p1,p2,p3,p4,_,_,_,_,_,_⟩:=a_ HP2.o;obtain⟨q0,q1,q2,q3,q4,_,_,_,_,_,_⟩:=a_ HF2.o;go_wp2_with fail
 refine(HOW.o _ (HI.o.la HB2.o)).mono ?_;rintro r w3 ⟨⟨e3,n3,sA3,sc3,s3,qA3,qc3,q3',h3⟩,mid,rfl,hd3,hmid,hS3,hQ3,hb3⟩;have hz3:=hb3.size;obtain⟨W4,hW4⟩:=q2_ (w3.alloc (.cells #[.int .i64 e3,.int .i64 n3,.slice sA3 s3.length sc3,.slice qA3 q3'.length qc3,.int .i64 h3] 58));have hb4:Below w3.heap.size w3 W4:=by rw [hW4];exact bA_
 have hz4:W4.heap.size=w3.heap.size+1:=by rw [hW4];simp
 have HX4:=h_ (show LinkAt W4 w3.heap.size ⟨e3,n3,sA3,sc3,s3,qA3,qc3,q3',h3⟩ by rw [hW4];exact heap_alloc_new _ _);have hb24:=bThen hb3 hb4;have HF4:=h_ (show FrameAt W4 F fk fh fe fA fp.length fc fs from(hb24.block _ (by omega)).trans HF2.o);have HR4:=h_ (show LinkAt W4 R zeroL from(hb24.block _ (by omega)).trans HR2.o);have HB4:=h_ (bThen HB2.o hb24);have HB34:=h_ hb4;have HB24:=h_ hb24;have HS3:=h_ hS3;have HQ3:=h_ hQ3;have HD3:=h_ hd3;have HMID:=h_ hmid;have HW4:=h_ hW4;obtain⟨X,hX⟩:=q2_ (w3.heap.size);have HXE:=h_ hX;rw [←hX]at HX4;have hz4':W4.heap.size=X+1:=by omega
 have hRX:R<X:=by omega
 have hFX:F<X:=by omega
 have HN3:=h_ (show(1≤n3∧n3≤1048576)∧s3.length≤8 from by
  have h5:=congrArg (fun x=>x.s.length) hd3;have h6:=HK.o.2.1.1;have h7:=congrArg LinkD.n hd3;have h8:=HK.o.1.2.1;simp at h5 h6 h7 h8;omega)
 have HSM:=h_ (show(∀f∈s3,f.o.ps.length≤1048576)∧ ∀f∈q3',f.o.ps.length≤1048576 from by
  have h5:=congrArg LinkD.s hd3;have h6:=congrArg LinkD.q hd3;exact⟨fun f hf=>(be_ h5 HM.o.s f hf).op.len,fun f hf=>(be_ h6 HM.o.q f hf).op.len⟩)
 have hql3:q3'.length≤1048576:=by
  have h5:=congrArg (fun x=>x.q.length) hd3;have h6:=HM.o.ql;simp at h5 h6;omega
 clear hW4 hb4 hb24 hS3 hQ3 hd3 hmid hb3 hX hz4 p0 p1 p2 p3 p4 q0 q1 q2 q3 q4;obtain⟨q0,q1,q2,q3,q4,_,_,_,_,_,_⟩:=a_ HF4.o;obtain⟨x0,x1,x2,x3,x4,y0,y1,y2,y3,y4,hxz⟩:=a_ HX4.o;exact k67_.o _):P:=h
theorem m84_{P:Prop}(h:P:=by
 obtain⟨W1,hW1⟩:=q2_ (w.alloc (.cells #[.int .i64 e,.int .i64 n,.slice sA s.length sc,.slice qA q.length qc,.int .i64 h] 58));obtain⟨W2,hW2⟩:=q2_ (W1.alloc (.cells #[.int .i64 fk,.int .i64 fh,.int .i64 fe,.slice fA fp.length fc,.string fs] 46));obtain⟨WA,hWA⟩:=q2_ (W2.alloc (.cells #[.int .i64 0,.int .i64 0,.slice none 0 0,.slice none 0 0,.int .i64 0] 58));have k155_:K_ (∀(P:Prop) (h:P:=by
 have HP0:=h_ (show LinkAt WA w.heap.size ⟨e,n,sA,sc,s,qA,qc,q,h⟩from(k3.block _ (by omega)).trans ((k2.block _ (by omega)).trans (by rw [hW1];exact heap_alloc_new _ _)));have HF0:=h_ (show FrameAt WA W1.heap.size fk fh fe fA fp.length fc fs from(k3.block _ (by omega)).trans (by rw [hW2];exact heap_alloc_new _ _));have HR0:=h_ (show LinkAt WA W2.heap.size zeroL by rw [hWA];exact heap_alloc_new _ _);have HBA:=h_ (bThen k1 (bThen k2 k3));have HW:=h_ (show((w.alloc (.cells #[.int .i64 e,.int .i64 n,.slice sA s.length sc,.slice qA q.length qc,.int .i64 h] 58)).alloc (.cells #[.int .i64 fk,.int .i64 fh,.int .i64 fe,.slice fA fp.length fc,.string fs] 46)).alloc (.cells #[.int .i64 0,.int .i64 0,.slice none 0 0,.slice none 0 0,.int .i64 0] 58)=WA by rw [hWA,hW2,hW1]);obtain⟨F,hF⟩:=q2_ (W1.heap.size);obtain⟨R,hR⟩:=q2_ (W2.heap.size);have HE1:=h_ (show w.heap.size+1+1=R by omega);have HE2:=h_ (show w.heap.size+1=F by omega);have hP:w.heap.size<F∧F<R∧R<WA.heap.size:=by omega
 rw [←hF]at HF0;rw [←hR]at HR0;clear hF hR k1 k2 k3 g1 g2 g3 hWA hW2 hW1;exact k84_.o _
 ),P):=⟨@q6_⟩
 exact m155_):P:=h
theorem m247_{P:Prop}(h:P:=by
 have hsm:=hfm.op.len;clear hi hT hm hk hf hfm he h0 h1;obtain⟨e,n,sA,sc,s,qA,qc,q,h⟩:=l;obtain⟨fk,fh,fe,⟨fA,fc,fp⟩,fs⟩:=f;obtain⟨D,hD⟩:=q2_ (waitL (LinkV.d ⟨e,n,sA,sc,s,qA,qc,q,h⟩) (FrameV.d ⟨fk,fh,fe,⟨fA,fc,fp⟩,fs⟩));rw [←hD];have HDD:=h_ hD;clear hD;dsimp only at*;exact k247_.o _):P:=h
theorem LinkSt.inS{w:World}{base X:Nat}{l:LinkV}(h:LinkSt w base X l):l.InS (fun b=>base≤b∧b<w.heap.size) w:=
 ⟨h.own.sl.mv fun _ hb=>⟨⟨(h.own.lt hb.1).1,hb.2⟩,rfl⟩,fun f hf=>(h.s f hf).mv fun _ hb=>⟨hb.1,rfl⟩,h.qr.mv fun _ hb=>⟨hb.1,rfl⟩,fun f hf=>(h.q f hf).mv fun _ hb=>⟨hb.1,rfl⟩⟩
theorem bep_(w:World)(l:LinkV)(f:FrameV)(hT:Tabs w)(hi:l.In w)(hm:l.Small)(hf:OpIn (· <w.heap.size) w f.o.A f.o.ps)(hfm:f.Small)(hk:linkMay l)(h0:l.e≠0)(he:frameFault f.d=0)(h1:l.n≠1048576):
 Calls Tryz.prog 116 #[l.val,frameV f.k f.h f.e f.o.A f.o.ps.length f.o.c f.s] w (RetSendF w (fillL (waitL l.d f.d)) (fillP (waitL l.d f.d)) 0):=by
 obtain⟨j0,hj0,hy0,hy1,hy2⟩:=info_parts infoFrame;have HC:=h_ (fun W hT hi=>bw_ W l hT hi hm);rw [if_pos hk]at HC;have HF:=h_ (fun W hT hs=>em_ W f.k f.h f.e f.o.A f.o.c f.o.ps f.s hT hs hfm.op.len hfm.op.text hfm.text);rw [show frameFault ⟨f.k,f.h,f.e,f.o.ps,f.s⟩=0 from he]at HF;have HOW:=h_ (fun W hi=>dl_ W l hi hm);have HI:=h_ hi;have HT:=h_ hT;have HO:=h_ hf;have HM:=h_ hm;have HK:=h_ hk;have e0:(l.e==0)=false:=by simpa using h0
 have e1:(l.n==1048576)=false:=by simpa using h1
 have k247_:K_ (∀(P:Prop) (h:P:=by
 have HCF:=h_ (fun W hs=>dv_ W fk fh fe fA fc fp fs hs hsm);have k84_:K_ (∀(P:Prop) (h:P:=by
 go_enter Tryz.func116,Tryz.ntmps116
 have k67_:K_ (∀(P:Prop) (h:P:=by
 go_wp2_with(refine z_ ?_)
 refine⟨?_⟩;rw [←HW4.o,←HXE.o];have HQX:=h_ (show(Value.slice qA3 q3'.length qc3).ownBlock≠some X from fun e1=>by have:=HXE.o;have:=(HQ3.o.row.lt X e1).2;omega);go_region_law (first
  | (refine bg_ _ rfl _ _ 56 rfl mid 46 j0 (.agg #[.int .i64 0,.int .i64 0,.int .i64 0,.slice none 0 0,.string ⟨#[]⟩]) 5 64 Tryz.underlying56 hj0 hy0 hy1 hy2 rfl (by decide) _ _ _ rfl (HQ3.o.la (bThen HB34.o bz_)).row (fun _=>True) _ _ _ _ rfl (bl_ (by rfl) (by simp)) ?_ ?_ ?_ ?_ ?_;(intro u hu;simp at hu;rcases hu with rfl | rfl | rfl | rfl | rfl <;> rfl);(unfold maxLen;omega);omega;(have:=HMID.o;have:=HXE.o;simp;omega);intro A' c' w5 hown' hgrow hat;obtain⟨v0,v1,v2,v3,v4,z0,z1,z2,z3,z4,yz⟩:=a_ (show LinkAt w5 X ⟨e3,n3,sA3,sc3,s3,qA3,qc3,q3',h3⟩from(hgrow.block X (Nat.lt_of_lt_of_le (show X<W4.heap.size by omega) (show Below W4.heap.size W4 _ from bz_).size) (fun e1=>HQX.o e1.symm)).trans (((show Below W4.heap.size W4 _ from bz_).block X (by omega)).trans HX4.o)))
  | (go_simp;go_at_call 112;refine(HCF.o _ ?_).mono ?_;exact Sl.la HO.o (bThen HB4.o bz_);rintro r w5 ⟨A2,c2,rfl,ho2,hb2⟩;obtain⟨⟨d2,os2⟩,rfl⟩:=e_ hb2))
 all_goals(
  obtain⟨WQ,hWQ,hgQ,hbQ⟩:=es_ (W4:=W4) hgrow bz_;have hf5:=(dw_ (wr:=W4) (W2:=WQ) ho2 (by simp) (by rw [hWQ];exact bz_)).mv (S':=fun b=>w3.heap.size<b∧b<WQ.heap.size) (w':=WQ) fun b hb=>⟨⟨by have:=HXE.o;omega,hb.2⟩,rfl⟩
  have hX5:=HX4.o;rw [HXE.o]at hX5;rw [←hWQ]at hat;have hL:=LinkSt.make (f:=⟨fk,fh,fe,⟨A2,c2,fp⟩,fs⟩) HS3.o HQ3.o HMID.o (bThen HB34.o hbQ) ((hbQ.block w3.heap.size (by have:=HXE.o;omega)).trans hX5) hf5 hgQ hown' hat;rw [←HXE.o]at hL;have hzQ:=hbQ.size;have hb5:=Below.grown (bThen HB4.o hbQ) hgQ (by omega) (fun g hg=>by have:=(HQ3.o.row.lt g hg).1;have:=HMID.o;omega);have hR5:=(hgQ.block R (by omega) (fun e1=>by have:=(HQ3.o.row.lt R e1.symm).1;have:=HMID.o;omega)).trans ((hbQ.block R (by omega)).trans HR4.o);have hz5:=Nat.le_trans hzQ hgQ.size;refine u_ (fun G=>LinkSt G w2.heap.size X ⟨e3,n3,sA3,sc3,s3,A',c',q3'++ [⟨fk,fh,fe,⟨A2,c2,fp⟩,fs⟩],h3⟩∧LinkAt G R zeroL∧Below w.heap.size w G∧X<G.heap.size) ⟨hL,(bH_ (by show R≠X;omega)).trans hR5,bSet hb5 (by show w.heap.size≤X;omega) _,by simp [World.setCell];omega⟩ ?_;clear hL hb5 hR5 hz5 hf5 hX5 hown' hgrow hat ho2 hb2 hWQ hgQ hbQ hzQ v0 v1 v2 v3 v4 z0 z1 z2 z3 z4 yz;rintro G ⟨hLG,hRG,hBG,hzG⟩;have HLG:=h_ hLG;have HRG:=h_ hRG;have HBG:=h_ hBG;have HD4:=h_ (show LinkV.d ⟨e3,n3,sA3,sc3,s3,A',c',q3'++ [⟨fk,fh,fe,⟨A2,c2,fp⟩,fs⟩],h3⟩=D from by
   have h5:=HD3.o;rw [HDD.o];simp only [LinkV.d,LinkD.mk.injEq]at h5;obtain⟨a1,a2,a3,a4,a5⟩:=h5;unfold waitL;simp only [LinkV.d,List.map_append,a1,a2,a3,a4,a5];rfl)
  have HFL:=h_ (ew_ G w2.heap.size X ⟨e3,n3,sA3,sc3,s3,A',c',q3'++ [⟨fk,fh,fe,⟨A2,c2,fp⟩,fs⟩],h3⟩ hLG (by have:=HXE.o;omega) HN3.o.2 HN3.o.1 (by simp;omega) ⟨HSM.o.1,fun f hf=>by
   rcases List.mem_append.1 hf with hf | hf
   · exact HSM.o.2 f hf
   · obtain rfl:=List.mem_singleton.1 hf
     exact hsm⟩)
  rw [HD4.o]at HFL;clear hLG hRG hBG x0 x1 x2 x3 x4 y0 y1 y2 y3 y4 hxz q0 q1 q2 q3 q4;go_wp2_with fail
  refine HFL.o.mono ?_;rintro r w6 ⟨l5,A5,c5,L5,rfl,hd5,hp5,hL6,ho6,hu6,_⟩;have HL6:=h_ hL6;have HO6:=h_ ho6.in_;have HR6:=h_ (show LinkAt w6 R zeroL from(hu6.block R (by omega) (by omega)).trans HRG.o);have HB6:=h_ (show Below w.heap.size w w6 from⟨hu6.os.trans HBG.o.os,hu6.tape.trans HBG.o.tape,hu6.output.trans HBG.o.output,Nat.le_trans HBG.o.size hu6.size,fun k hk=>(hu6.block k (by omega) (by omega)).trans (HBG.o.block k hk)⟩);have hz6:=hu6.size;have HP6:=h_ (show∀b,G.heap.size≤b→R≠b from fun b hb=>by omega);have HO6':=h_ ho6;clear hL6 ho6 hu6;obtain⟨e5,n5,sA5,sc5,s5,qA5,qc5,q5,h5⟩:=l5;obtain⟨x0,x1,x2,x3,x4,y0,y1,y2,y3,y4,hxz⟩:=a_ HL6.o.at_;obtain⟨r0,r1,r2,r3,r4,t0,t1,t2,t3,t4,hrz⟩:=a_ HR6.o;have m1: ¬R=X:=by omega
  have m2: ¬X=R:=by omega
  (try dsimp only at x0 x1 x2 x3 x4)
  have HXR:=h_ (show R<w2.heap.size by omega);go_wp2_with fail
  obtain⟨W9,hW9⟩:=q2_ ((((((w6.setCell ⟨R,0,none⟩ (.int .i64 e5)).setCell ⟨R,1,none⟩ (.int .i64 n5)).setCell ⟨R,2,none⟩ (.slice sA5 s5.length sc5)).setCell ⟨R,3,none⟩ (.slice qA5 q5.length qc5)).setCell ⟨R,4,none⟩ (.int .i64 h5)));rw [←hW9];have hO:Only R w6 W9:=by rw [hW9];exact(((q5_.trans q5_).trans q5_).trans q5_).trans q5_
  have hR9:LinkAt W9 R ⟨e5,n5,sA5,sc5,s5,qA5,qc5,q5,h5⟩:=by
   rw [hW9];exact f_ 4 (.int .i64 h5) (f_ 3 (.slice qA5 q5.length qc5) (f_ 2 (.slice sA5 s5.length sc5) (f_ 1 (.int .i64 n5) (f_ 0 (.int .i64 e5) HR6.o))))
  clear hW9 r0 r1 r2 r3 r4;obtain⟨r0,r1,r2,r3,r4,_,_,_,_,_,_⟩:=a_ hR9;refine bodyPost_ret (v:= .tuple #[(⟨e5,n5,sA5,sc5,s5,qA5,qc5,q5,h5⟩:LinkV).val,.slice A5 L5.length c5,.int .i64 0]) (by simp [results,Tryz.results116,go_sem,r0,r1,r2,r3,r4]) rfl ?_;exact⟨⟨e5,n5,sA5,sc5,s5,qA5,qc5,q5,h5⟩,A5,c5,L5,rfl,hd5,hp5,(HL6.o.inS).mv fun b hb=>⟨⟨by have:=hb.1;omega,Nat.lt_of_lt_of_le hb.2 hO.size⟩,hO.block b hb.2 (by have:=hb.1;have:=HXR.o;omega)⟩,⟨(Sl.of_own _ HO6'.o.row).mv fun b hb=>⟨⟨by omega,Nat.lt_of_lt_of_le hb.2 hO.size⟩,hO.block b hb.2 (by omega)⟩,fun p hp=>(HO6'.o.each p hp).mv fun b hb=>⟨⟨by have:=hb.1.1;omega,Nat.lt_of_lt_of_le hb.1.2 hO.size⟩,hO.block b hb.1.2 (by omega)⟩⟩,HB6.o.trans (hO.below (by omega) (by omega))⟩)
 ),P):=⟨@q6_⟩
 exact m67_
 ),P):=⟨@q6_⟩
 exact m84_
 ),P):=⟨@q6_⟩
 exact m247_
theorem hz_{X Y:World}{d base:Nat}{os:Array Obj}{A:Option Addr}{c:Nat}{L:List OpV}(h:OpsOwn (Go.Sort.grow (redrawn X d) os) base A c L)(hz:X.heap.size=Y.heap.size)(hb:X.heap.size≤base):OpsOwn (Go.Sort.grow (redrawn Y d) os) base A c L:=
 h.kept (by simp [Go.Sort.grow,redrawn];omega) fun b hx _=>ds_ X Y d os hz (by omega)
theorem Sl.both{S S':Nat→Prop}{w:World}{size n:Nat}{A:Option Addr}{cs:List Value}(h:Sl S w size A n cs)(k:Sl S' w size A n cs):Sl (fun b=>S b∧S' b) w size A n cs:=by
 refine⟨h.1,fun hn=>?_⟩;obtain⟨b,o,e,hb,hc⟩:=h.2 hn;obtain⟨b',o',e',hb',_⟩:=k.2 hn;rw [e]at e';injection e' with e'
 injection e' with e1 e2 e3
 subst e1;exact⟨b,o,e,⟨hb,hb'⟩,hc⟩
structure NodeFree (w:World) (base:Nat) (n:NodeV):Prop where
 mrow:w.ownsRow base 53 2 (.slice n.mA n.M.length n.mc) n.M.length (n.M.flatMap markCells)
 srow:w.ownsRow base 60 10 (.slice n.sA n.S.length n.sc) n.S.length (n.S.flatMap SideV.cells)
 urow:w.ownsRow base 30 1 (.slice n.uA n.U.length n.uc) n.U.length (n.U.map OpV.val)
 side: ∀x∈n.S,x.InS (fun b=>(base≤b∧b<w.heap.size)∧(Value.slice n.mA n.M.length n.mc).ownBlock≠some b∧(Value.slice n.sA n.S.length n.sc).ownBlock≠some b∧(Value.slice n.uA n.U.length n.uc).ownBlock≠some b) w
 undo: ∀o∈n.U,OpIn (fun b=>(base≤b∧b<w.heap.size)∧(Value.slice n.mA n.M.length n.mc).ownBlock≠some b∧(Value.slice n.sA n.S.length n.sc).ownBlock≠some b∧(Value.slice n.uA n.U.length n.uc).ownBlock≠some b) w o.A o.ps
theorem NodeOwned.free{w:World}{b0 b1 b2:Nat}{n:NodeV}(h:NodeOwned w b0 b1 b2 n):NodeFree w b0 n:=by
 have h0:=h.le0;have h1:=h.le1;have h2:=h.le2;refine⟨h.mrow,cf_ h.srow h0,cf_ h.urow (by omega),fun x hx=>(h.side x hx).mv fun b hb=>⟨⟨⟨by have:=hb.1.1;omega,by have:=hb.1.2;omega⟩,fun e=>by have:=h.mlt b e;have:=hb.1.1;omega,hb.2,fun e=>by have:=(h.urow.lt b e).1;have:=hb.1.2;omega⟩,rfl⟩,
  fun o ho=>(h.undo o ho).mv fun b hb=>⟨⟨⟨by have:=hb.1.1;omega,hb.1.2⟩,fun e=>by have:=h.mlt b e;have:=hb.1.1;omega,fun e=>by have:=h.slt b e;have:=hb.1.1;omega,hb.2⟩,rfl⟩⟩
def RetNodeE (w:World) (d:NodeD) (e:Ending) (w':World):Prop:=
 ∃n:NodeV,e= .returned n.val∧n.d=d∧NodeFree w' w.heap.size n∧Below w.heap.size w w'
theorem zp_(w:World)(n:NodeV)(hi:n.In w)(hm:n.Small):Calls Tryz.prog 6 #[n.val] w (RetNodeE w n.d):=by
 exact m0_
end Go.Proofs.YtacacoklddogmaaGreatDoor
