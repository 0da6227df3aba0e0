/- Lemmas. -/
import Derived.Test.YtacacoklddogmaaGreatDoorKJAQ
namespace Go.Proofs.YtacacoklddogmaaGreatDoor
set_option maxHeartbeats 4000000
open Go.ChangeShapes Go.WideShapes Go.ChangeAt Go.RowKit
set_option maxRecDepth 100000
theorem m1_{P:Prop}(h:P:=by
 exact m46_):P:=h
theorem m3_{P:Prop}(h:P:=by
 have vBN:=h_ trivial;exact m46_):P:=h
theorem m6_{P:Prop}(h:P:=by
 have k157_:K_ (∀(P:Prop) (h:P:=by
 first
 |guard_hyp vL
  have HSC:=h_ hsc;clear hsc;have HFC:=h_ (fun W A c (hs:FramesIn W A (l.s.drop K))=>(show Calls Tryz.prog 42 #[.slice A (l.s.length - K) c] W (RetFrames W ((l.s.drop K).map FrameV.d))from by rw [←List.length_drop];exact cc_ W A c (l.s.drop K) hs (by rw [List.length_drop];have:=hm.sl;omega) (fun f hf=>(hm.s f (List.mem_of_mem_drop hf)).op.len)))
 |skip
 have HI:=h_ hi;have HT:=h_ hT;obtain⟨e,n,sA,sc,s,qA,qc,q,hv⟩:=l;obtain⟨pe,pn,pb,pa,⟨fk,fh,fe,⟨fA,fc,fp⟩,fs⟩⟩:=p;first
 |guard_hyp vL
  obtain⟨D,hD⟩:=q2_ (⟨e,n,((s.map FrameV.d).drop K),q.map FrameV.d,hv⟩:LinkD);skip
 |obtain⟨D,hD⟩:=q2_ (⟨e,n,(s.map FrameV.d),q.map FrameV.d,hv⟩:LinkD)
 dsimp only at*;rw [←hD];have HDD:=h_ hD;have e0:(e==0)=false:=by simpa using h0
 have e1:(e !=pe)=false:=by simpa using h1.symm
 clear hD h0 h1;subst hb;obtain⟨W1,hW1⟩:=q2_ (w.alloc (.cells #[.int .i64 e,.int .i64 n,.slice sA s.length sc,.slice qA q.length qc,.int .i64 hv] 58));obtain⟨W2,hW2⟩:=q2_ (W1.alloc (.cells #[.int .i64 pe,.int .i64 pn,.bool true,.int .i64 pa,.int .i64 fk,.int .i64 fh,.int .i64 fe,.slice fA fp.length fc,.string fs] 48));have k119_:K_ (∀(P:Prop) (h:P:=by
 have HA0:=h_ (show LHearAt w WA W1.heap.size W2.heap.size W3.heap.size ⟨e,n,sA,sc,s,qA,qc,q,hv⟩ ⟨pe,pn,true,pa,⟨fk,fh,fe,⟨fA,fc,fp⟩,fs⟩⟩ zeroF from
  ⟨(k24.block _ (by omega)).trans (by rw [hW1];exact heap_alloc_new _ _),(k34.block _ (by omega)).trans (by rw [hW2];exact heap_alloc_new _ _),(k4.block _ (by omega)).trans (by rw [hW3];exact heap_alloc_new _ _),by rw [hWA];exact heap_alloc_new _ _,bThen k1 k24⟩)
 have HW:=h_ (show(((w.alloc (.cells #[.int .i64 e,.int .i64 n,.slice sA s.length sc,.slice qA q.length qc,.int .i64 hv] 58)).alloc (.cells #[.int .i64 pe,.int .i64 pn,.bool true,.int .i64 pa,.int .i64 fk,.int .i64 fh,.int .i64 fe,.slice fA fp.length fc,.string fs] 48)).alloc (.cells #[.int .i64 0,.int .i64 0,.slice none 0 0,.slice none 0 0,.int .i64 0] 58)).alloc (.cells #[.int .i64 0,.int .i64 0,.int .i64 0,.slice none 0 0,.string ⟨#[]⟩] 46)=WA by rw [hWA,hW3,hW2,hW1]);have k71_:K_ (∀(P:Prop) (h:P:=by
 obtain⟨X,hX⟩:=q2_ (w3.heap.size);have HXE:=h_ hX;clear hX;go_wp2_with fail
 rw [←HW4.o,←HXE.o];first
 |guard_hyp vL
  refine(m_ pa (n - (s.length:Int)) (n - 1) W4 (by omega) (by omega)).mono ?_
 |guard_hyp vK
  refine(In_no pa (n - (s.length:Int)) (n - 1) W4 (.inr (by omega))).mono ?_
 |refine(In_no pa (n - (s.length:Int)) (n - 1) W4 (.inl (by omega))).mono ?_
 have k164_:K_ (∀(P:Prop) (h:P:=by
 first
 |guard_hyp vL
  have hK1:wrap64 (pa+1)=pa+1:=w_ (by omega);have hK2:wrap64 (pa+1 - (n - (s.length:Int)))=(K:Int):=by
   exact m234_
  have HI3:=h_ (HI.o.la HA4.o.b);have HCP:=h_ (show(s.length=0∨ ∃b o,sA=some ⟨b,o,none⟩)from by
   by_cases h0:0<s.length
   · obtain⟨b,o,e1,_⟩:=HI.o.s.row.2 h0
     exact .inr ⟨b,o,e1⟩
   · exact .inl (by omega))
  have hKK:=h_ hK;obtain⟨bA,oA,rfl⟩: ∃b o,sA=some ⟨b,o,none⟩:=by
   rcases HCP.o with h1 | h1
   ·exact absurd h1 (by have:=hKK.o;omega)
   ·exact h1
  have a3:decide ((s.length:Int)<(K:Int))=false:=by simp;omega
  have a4:decide ((sc:Int)<(K:Int))=false:=by have:=HSC.o;simp;omega
  have hKl:K≤s.length:=hK.2.2;have HDR:=h_ (fun(A':Option Addr) (hA:A'=(if sc=K then some ⟨bA,oA,none⟩else some ⟨bA,oA+K*5,none⟩))=>qt_ (K:=K) HI3.o.s hKl HSC.o hA);clear hK
 |skip
 obtain⟨p0,p1,p2,p3,p4,v0,v1,v2,v3,v4,pz⟩:=a_ HA4.o.l;obtain⟨q0,q1,q2,q3,q4,q5,q6,q7,q8,g0,g1,g2,g3,g4,g5,g6,g7,g8,gz⟩:=n_ HA4.o.p;obtain⟨x0,x1,x2,x3,x4,y0,y1,y2,y3,y4,hxz⟩:=a_ HLS.o.at_
 (try dsimp only at x0 x1 x2 x3 x4)
 go_wp2_with fail
 first
 |guard_hyp vL
  all_goals(
   clear hK1 hK2 hfirst;have k101_:K_ (∀(P:Prop) (h:P:=by
   have k270_:K_ (∀(P:Prop) (h:P:=by
   have HVF:=h_ (show(fun V=>LinkAt V X ⟨e,n,A4,c4,L4,qA3,qc3,q3',hv⟩∧(⟨e,n,A4,c4,L4,qA3,qc3,q3',hv⟩:LinkV).InS (fun b=>w2.heap.size≤b∧b<V.heap.size) V∧LinkV.d ⟨e,n,A4,c4,L4,qA3,qc3,q3',hv⟩=D∧(L4.length≤s3.length∧ ∀f∈L4,f.o.ps.length≤1048576)∧LHearAt w V Q R F ⟨e,n,some ⟨bA,oA,none⟩,sc,s,qA,qc,q,hv⟩ ⟨pe,pn,true,pa,⟨fk,fh,fe,⟨fA,fc,fp⟩,fs⟩⟩ zeroF∧X<V.heap.size) V from⟨hsw.1,hsw.2,by rw [HDD.o];simp only [LinkV.d,HD4.o,H4.o,List.map_drop],⟨by
    have h1:=congrArg List.length HD4.o;have h2:=HL3.o;simp only [List.length_map,List.length_drop]at h1;omega,fun f hf=>by
    have h1:f.d∈(s.drop K).map FrameV.d:=HD4.o ▸ List.mem_map.2 ⟨f,hf,rfl⟩;obtain⟨g,hg,e1⟩:=List.mem_map.1 h1;have h2:=(HM.o.s g (List.mem_of_mem_drop hg)).op.len;have h3:=congrArg (fun x=>x.op.length) e1;dsimp only at h3;omega⟩,HA5'.o.upon (by have:=HO.o;have:=HBA.o;have:=HXE.o;omega) hVO,by have:=HOX.o;have:=HB4.o.size;omega⟩)
   clear hsw hVO hV p0 p1 p2 p3 p4 v0 v1 v2 v3 v4 pz q0 q1 q2 q3 q4 q5 q6 q7 q8 g0 g1 g2 g3 g4 g5 g6 g7 g8 gz x0 x1 x2 x3 x4 y0 y1 y2 y3 y4 hxz;rw [show w5.heap.size=V.heap.size from hVz.symm];clear hVz;have k72_:K_ (∀(P:Prop) (h:P:=by
   have HFL:=h_ (dr_ w2.heap.size W5 ⟨e,n,A4,c4,L4,qA3,qc3,q3',hv⟩ HI5'.o HQC.o (by have:=HNM.o;have:=HL3.o;have:=HSV.o.1;dsimp only;omega) (by have:=HNM.o;dsimp only;omega) (by have:=HNM.o;have:=HLQ.o;dsimp only;omega) ⟨HSV.o.2,HSM.o.2⟩);exact m61_
   ),P):=⟨@q6_⟩
   exact m72_
   ),P):=⟨@q6_⟩
   exact m270_
   ),P):=⟨@q6_⟩
   exact m101_)
 |obtain⟨V,hV⟩:=q2_ (W4);have HVF:=h_ (show(fun V=>LinkAt V X ⟨e,n,sA3,sc3,s3,qA3,qc3,q3',hv⟩∧(⟨e,n,sA3,sc3,s3,qA3,qc3,q3',hv⟩:LinkV).InS (fun b=>w2.heap.size≤b∧b<V.heap.size) V∧LinkV.d ⟨e,n,sA3,sc3,s3,qA3,qc3,q3',hv⟩=D∧(s3.length≤s3.length∧ ∀f∈s3,f.o.ps.length≤1048576)∧LHearAt w V Q R F ⟨e,n,sA,sc,s,qA,qc,q,hv⟩ ⟨pe,pn,true,pa,⟨fk,fh,fe,⟨fA,fc,fp⟩,fs⟩⟩ zeroF∧X<V.heap.size) W4 from⟨HLS.o.at_,HLS.o.inS,by rw [HDD.o];simp only [LinkV.d,H3.o,H4.o],⟨Nat.le_refl _,HSM.o.1⟩,HA4.o,HOX.o.2⟩);clear p0 p1 p2 p3 p4 v0 v1 v2 v3 v4 pz q0 q1 q2 q3 q4 q5 q6 q7 q8 g0 g1 g2 g3 g4 g5 g6 g7 g8 gz x0 x1 x2 x3 x4 y0 y1 y2 y3 y4 hxz hfirst;rw [←hV]at HVF;rw [←hV];clear hV;have k72_:K_ (∀(P:Prop) (h:P:=by
  have HFL:=h_ (dr_ w2.heap.size W5 ⟨e,n,sA3,sc3,s3,qA3,qc3,q3',hv⟩ HI5'.o HQC.o (by have:=HNM.o;have:=HL3.o;have:=HSV.o.1;dsimp only;omega) (by have:=HNM.o;dsimp only;omega) (by have:=HNM.o;have:=HLQ.o;dsimp only;omega) ⟨HSV.o.2,HSM.o.2⟩);exact m61_
  ),P):=⟨@q6_⟩
  exact m72_
 ),P):=⟨@q6_⟩
 exact m164_
 ),P):=⟨@q6_⟩
 exact m71_
 ),P):=⟨@q6_⟩
 exact m119_
 ),P):=⟨@q6_⟩
 exact m157_):P:=h
theorem m10_{P:Prop}(h:P:=by
 have vBP:=h_ trivial;exact m47_):P:=h
theorem m46_{P:Prop}(h:P:=by
 have k157_:K_ (∀(P:Prop) (h:P:=by
 first
 |guard_hyp vBN
  all_goals(first
  |guard_hyp vG
   have HSC:=h_ hsc;clear hsc;have HFC:=h_ (fun W A c (hs:FramesIn W A (l.s.drop K))=>(show Calls Tryz.prog 42 #[.slice A (l.s.length - K) c] W (RetFrames W ((l.s.drop K).map FrameV.d))from by rw [←List.length_drop];exact cc_ W A c (l.s.drop K) hs (by rw [List.length_drop];have:=hm.sl;omega) (fun f hf=>(hm.s f (List.mem_of_mem_drop hf)).op.len)))
  |skip)
 |first
  |guard_hyp vD
   have HSC:=h_ hsc;clear hsc;have HFC:=h_ (fun W A c (hs:FramesIn W A (l.s.drop K))=>(show Calls Tryz.prog 42 #[.slice A (l.s.length - K) c] W (RetFrames W ((l.s.drop K).map FrameV.d))from by rw [←List.length_drop];exact cc_ W A c (l.s.drop K) hs (by rw [List.length_drop];have:=hm.sl;omega) (fun f hf=>(hm.s f (List.mem_of_mem_drop hf)).op.len)))
  |skip
  have HCF:=h_ (fun W hs=>dk_ W p.f.k p.f.h p.f.e p.f.o.A p.f.o.c p.f.o.ps p.f.s hs hfm.op.len)
 obtain⟨i0,hi0,hz0,hz1,hz2⟩:=info_parts infoPacket;have HI:=h_ hi;have HT:=h_ hT;obtain⟨e,n,sA,sc,s,qA,qc,q,hv⟩:=l;obtain⟨pe,pn,pb,pa,⟨fk,fh,fe,⟨fA,fc,fp⟩,fs⟩⟩:=p;first
 |guard_hyp vBN
  first
  |guard_hyp vG
   obtain⟨D,hD⟩:=q2_ (⟨e,n,((s.map FrameV.d).drop K),q.map FrameV.d,hv⟩:LinkD);skip
  |obtain⟨D,hD⟩:=q2_ (⟨e,n,(s.map FrameV.d),q.map FrameV.d,hv⟩:LinkD)
 |guard_hyp vD
  obtain⟨D,hD⟩:=q2_ (⟨e,n,((s.map FrameV.d).drop K),q.map FrameV.d,(hv+1)⟩:LinkD);skip
 |obtain⟨D,hD⟩:=q2_ (⟨e,n,(s.map FrameV.d),q.map FrameV.d,(hv+1)⟩:LinkD)
 dsimp only at*;rw [←hD];have HDD:=h_ hD;have e0:(e==0)=false:=by simpa using h0
 have e1:(e !=pe)=false:=by simpa using h1.symm
 clear hD h0 h1;subst hb;first
 |guard_hyp vBN
  have e2:(pn==hv+1)=false:=by simpa using hn
  clear hn
 |subst hn
 obtain⟨W1,hW1⟩:=q2_ (w.alloc (.cells #[.int .i64 e,.int .i64 n,.slice sA s.length sc,.slice qA q.length qc,.int .i64 hv] 58));first
 |guard_hyp vBN
  obtain⟨W2,hW2⟩:=q2_ (W1.alloc (.cells #[.int .i64 pe,.int .i64 pn,.bool false,.int .i64 pa,.int .i64 fk,.int .i64 fh,.int .i64 fe,.slice fA fp.length fc,.string fs] 48));skip
 |obtain⟨W2,hW2⟩:=q2_ (W1.alloc (.cells #[.int .i64 pe,.int .i64 (hv+1),.bool false,.int .i64 pa,.int .i64 fk,.int .i64 fh,.int .i64 fe,.slice fA fp.length fc,.string fs] 48))
 have k119_:K_ (∀(P:Prop) (h:P:=by
 first
 |guard_hyp vBN
  have HA0:=h_ (show LHearAt w WA W1.heap.size W2.heap.size W3.heap.size ⟨e,n,sA,sc,s,qA,qc,q,hv⟩ ⟨pe,pn,false,pa,⟨fk,fh,fe,⟨fA,fc,fp⟩,fs⟩⟩ zeroF from
   ⟨(k24.block _ (by omega)).trans (by rw [hW1];exact heap_alloc_new _ _),(k34.block _ (by omega)).trans (by rw [hW2];exact heap_alloc_new _ _),(k4.block _ (by omega)).trans (by rw [hW3];exact heap_alloc_new _ _),by rw [hWA];exact heap_alloc_new _ _,bThen k1 k24⟩)
  have HW:=h_ (show(((w.alloc (.cells #[.int .i64 e,.int .i64 n,.slice sA s.length sc,.slice qA q.length qc,.int .i64 hv] 58)).alloc (.cells #[.int .i64 pe,.int .i64 pn,.bool false,.int .i64 pa,.int .i64 fk,.int .i64 fh,.int .i64 fe,.slice fA fp.length fc,.string fs] 48)).alloc (.cells #[.int .i64 0,.int .i64 0,.slice none 0 0,.slice none 0 0,.int .i64 0] 58)).alloc (.cells #[.int .i64 0,.int .i64 0,.int .i64 0,.slice none 0 0,.string ⟨#[]⟩] 46)=WA by rw [hWA,hW3,hW2,hW1])
 |have HA0:=h_ (show LHearAt w WA W1.heap.size W2.heap.size W3.heap.size ⟨e,n,sA,sc,s,qA,qc,q,hv⟩ ⟨pe,hv+1,false,pa,⟨fk,fh,fe,⟨fA,fc,fp⟩,fs⟩⟩ zeroF from
   ⟨(k24.block _ (by omega)).trans (by rw [hW1];exact heap_alloc_new _ _),(k34.block _ (by omega)).trans (by rw [hW2];exact heap_alloc_new _ _),(k4.block _ (by omega)).trans (by rw [hW3];exact heap_alloc_new _ _),by rw [hWA];exact heap_alloc_new _ _,bThen k1 k24⟩)
  have HW:=h_ (show(((w.alloc (.cells #[.int .i64 e,.int .i64 n,.slice sA s.length sc,.slice qA q.length qc,.int .i64 hv] 58)).alloc (.cells #[.int .i64 pe,.int .i64 (hv+1),.bool false,.int .i64 pa,.int .i64 fk,.int .i64 fh,.int .i64 fe,.slice fA fp.length fc,.string fs] 48)).alloc (.cells #[.int .i64 0,.int .i64 0,.slice none 0 0,.slice none 0 0,.int .i64 0] 58)).alloc (.cells #[.int .i64 0,.int .i64 0,.int .i64 0,.slice none 0 0,.string ⟨#[]⟩] 46)=WA by rw [hWA,hW3,hW2,hW1])
 have k71_:K_ (∀(P:Prop) (h:P:=by
 have hw:wrap64 (hv+1)=hv+1:=w_ (by have:=HNM.o;omega);obtain⟨X,hX⟩:=q2_ (w3.heap.size);have HXE:=h_ hX;clear hX;go_wp2_with fail
 rw [←HW4.o,←HXE.o];first
 |guard_hyp vBN
  first
  |guard_hyp vG
   refine(m_ pa (n - (s.length:Int)) (n - 1) W4 (by omega) (by omega)).mono ?_
  |guard_hyp vF
   refine(In_no pa (n - (s.length:Int)) (n - 1) W4 (.inl (by omega))).mono ?_
  |refine(In_no pa (n - (s.length:Int)) (n - 1) W4 (.inr (by omega))).mono ?_
 |guard_hyp vD
  refine(m_ pa (n - (s.length:Int)) (n - 1) W4 (by omega) (by omega)).mono ?_
 |guard_hyp vC
  refine(In_no pa (n - (s.length:Int)) (n - 1) W4 (.inr (by omega))).mono ?_
 |refine(In_no pa (n - (s.length:Int)) (n - 1) W4 (.inl (by omega))).mono ?_
 have k164_:K_ (∀(P:Prop) (h:P:=by
 first
 |guard_hyp vBN
  all_goals(first
  |guard_hyp vG
   have hK1:wrap64 (pa+1)=pa+1:=w_ (by omega);have hK2:wrap64 (pa+1 - (n - (s.length:Int)))=(K:Int):=by
    exact m234_
   have HI3:=h_ (HI.o.la HA4.o.b);have HCP:=h_ (show(s.length=0∨ ∃b o,sA=some ⟨b,o,none⟩)from by
    by_cases h0:0<s.length
    · obtain⟨b,o,e1,_⟩:=HI.o.s.row.2 h0
      exact .inr ⟨b,o,e1⟩
    · exact .inl (by omega))
   have hKK:=h_ hK;obtain⟨bA,oA,rfl⟩: ∃b o,sA=some ⟨b,o,none⟩:=by
    rcases HCP.o with h1 | h1
    ·exact absurd h1 (by have:=hKK.o;omega)
    ·exact h1
   have a3:decide ((s.length:Int)<(K:Int))=false:=(by simp;omega);have a4:decide ((sc:Int)<(K:Int))=false:=(by have:=HSC.o;simp;omega);have hKl:K≤s.length:=hK.2.2;have HDR:=h_ (fun(A':Option Addr) (hA:A'=(if sc=K then some ⟨bA,oA,none⟩else some ⟨bA,oA+K*5,none⟩))=>qt_ (K:=K) HI3.o.s hKl HSC.o hA);clear hK
  |skip)
 |guard_hyp vD
  have hK1:wrap64 (pa+1)=pa+1:=w_ (by omega);have hK2:wrap64 (pa+1 - (n - (s.length:Int)))=(K:Int):=by
   exact m234_
  have HI3:=h_ (HI.o.la HA4.o.b);have HCP:=h_ (show(s.length=0∨ ∃b o,sA=some ⟨b,o,none⟩)from by
   by_cases h0:0<s.length
   · obtain⟨b,o,e1,_⟩:=HI.o.s.row.2 h0
     exact .inr ⟨b,o,e1⟩
   · exact .inl (by omega))
  have hKK:=h_ hK;obtain⟨bA,oA,rfl⟩: ∃b o,sA=some ⟨b,o,none⟩:=by
   rcases HCP.o with h1 | h1
   ·exact absurd h1 (by have:=hKK.o;omega)
   ·exact h1
  have a3:decide ((s.length:Int)<(K:Int))=false:=by simp;omega
  have a4:decide ((sc:Int)<(K:Int))=false:=by have:=HSC.o;simp;omega
  have hKl:K≤s.length:=hK.2.2;have HDR:=h_ (fun(A':Option Addr) (hA:A'=(if sc=K then some ⟨bA,oA,none⟩else some ⟨bA,oA+K*5,none⟩))=>qt_ (K:=K) HI3.o.s hKl HSC.o hA);clear hK
 |skip
 obtain⟨p0,p1,p2,p3,p4,v0,v1,v2,v3,v4,pz⟩:=a_ HA4.o.l;obtain⟨q0,q1,q2,q3,q4,q5,q6,q7,q8,g0,g1,g2,g3,g4,g5,g6,g7,g8,gz⟩:=n_ HA4.o.p;obtain⟨x0,x1,x2,x3,x4,y0,y1,y2,y3,y4,hxz⟩:=a_ HLS.o.at_
 (try dsimp only at x0 x1 x2 x3 x4)
 go_wp2_with fail
 first
 |guard_hyp vBN
  first
  |guard_hyp vG
   all_goals(
    clear hK1 hK2 hfirst hw;have k101_:K_ (∀(P:Prop) (h:P:=by
    have hw:wrap64 (hv+1)=hv+1:=w_ (by have:=HNM.o;omega);have k270_:K_ (∀(P:Prop) (h:P:=by
    have HVF:=h_ (show(fun V=>LinkAt V X ⟨e,n,A4,c4,L4,qA3,qc3,q3',hv⟩∧(⟨e,n,A4,c4,L4,qA3,qc3,q3',hv⟩:LinkV).InS (fun b=>w2.heap.size≤b∧b<V.heap.size) V∧LinkV.d ⟨e,n,A4,c4,L4,qA3,qc3,q3',hv⟩=D∧(L4.length≤s3.length∧ ∀f∈L4,f.o.ps.length≤1048576)∧LHearAt w V Q R F ⟨e,n,some ⟨bA,oA,none⟩,sc,s,qA,qc,q,hv⟩ ⟨pe,pn,false,pa,⟨fk,fh,fe,⟨fA,fc,fp⟩,fs⟩⟩ zeroF∧X<V.heap.size) V from⟨hsw.1,hsw.2,by rw [HDD.o];simp only [LinkV.d,HD4.o,H4.o,List.map_drop],⟨by
     have h1:=congrArg List.length HD4.o;have h2:=HL3.o;simp only [List.length_map,List.length_drop]at h1;omega,fun f hf=>by
     have h1:f.d∈(s.drop K).map FrameV.d:=HD4.o ▸ List.mem_map.2 ⟨f,hf,rfl⟩;obtain⟨g,hg,e1⟩:=List.mem_map.1 h1;have h2:=(HM.o.s g (List.mem_of_mem_drop hg)).op.len;have h3:=congrArg (fun x=>x.op.length) e1;dsimp only at h3;omega⟩,HA5'.o.upon (by have:=HO.o;have:=HBA.o;have:=HXE.o;omega) hVO,by have:=HOX.o;have:=HB4.o.size;omega⟩)
    clear hsw hVO hV p0 p1 p2 p3 p4 v0 v1 v2 v3 v4 pz q0 q1 q2 q3 q4 q5 q6 q7 q8 g0 g1 g2 g3 g4 g5 g6 g7 g8 gz x0 x1 x2 x3 x4 y0 y1 y2 y3 y4 hxz hw;rw [show w5.heap.size=V.heap.size from hVz.symm];clear hVz;have k72_:K_ (∀(P:Prop) (h:P:=by
    have HFL:=h_ (dr_ w2.heap.size W5 ⟨e,n,A4,c4,L4,qA3,qc3,q3',hv⟩ HI5'.o HQC.o (by have:=HNM.o;have:=HL3.o;have:=HSV.o.1;dsimp only;omega) (by have:=HNM.o;dsimp only;omega) (by have:=HNM.o;have:=HLQ.o;dsimp only;omega) ⟨HSV.o.2,HSM.o.2⟩);exact m69_
    ),P):=⟨@q6_⟩
    exact m72_
    ),P):=⟨@q6_⟩
    exact m270_
    ),P):=⟨@q6_⟩
    exact m101_)
  |obtain⟨V,hV⟩:=q2_ (W4);have HVF:=h_ (show(fun V=>LinkAt V X ⟨e,n,sA3,sc3,s3,qA3,qc3,q3',hv⟩∧(⟨e,n,sA3,sc3,s3,qA3,qc3,q3',hv⟩:LinkV).InS (fun b=>w2.heap.size≤b∧b<V.heap.size) V∧LinkV.d ⟨e,n,sA3,sc3,s3,qA3,qc3,q3',hv⟩=D∧(s3.length≤s3.length∧ ∀f∈s3,f.o.ps.length≤1048576)∧LHearAt w V Q R F ⟨e,n,sA,sc,s,qA,qc,q,hv⟩ ⟨pe,pn,false,pa,⟨fk,fh,fe,⟨fA,fc,fp⟩,fs⟩⟩ zeroF∧X<V.heap.size) W4 from⟨HLS.o.at_,HLS.o.inS,by rw [HDD.o];simp only [LinkV.d,H3.o,H4.o],⟨Nat.le_refl _,HSM.o.1⟩,HA4.o,HOX.o.2⟩);clear p0 p1 p2 p3 p4 v0 v1 v2 v3 v4 pz q0 q1 q2 q3 q4 q5 q6 q7 q8 g0 g1 g2 g3 g4 g5 g6 g7 g8 gz x0 x1 x2 x3 x4 y0 y1 y2 y3 y4 hxz hfirst hw;rw [←hV]at HVF;rw [←hV];clear hV;have k72_:K_ (∀(P:Prop) (h:P:=by
   have HFL:=h_ (dr_ w2.heap.size W5 ⟨e,n,sA3,sc3,s3,qA3,qc3,q3',hv⟩ HI5'.o HQC.o (by have:=HNM.o;have:=HL3.o;have:=HSV.o.1;dsimp only;omega) (by have:=HNM.o;dsimp only;omega) (by have:=HNM.o;have:=HLQ.o;dsimp only;omega) ⟨HSV.o.2,HSM.o.2⟩);exact m69_
   ),P):=⟨@q6_⟩
   exact m72_
 |guard_hyp vD
  all_goals(
   clear hK1 hK2 hfirst hw;have k101_:K_ (∀(P:Prop) (h:P:=by
   have hw:wrap64 (hv+1)=hv+1:=w_ (by have:=HNM.o;omega);go_wp2_with fail
   obtain⟨V,hV⟩:=q2_ ((w5.setCell ⟨X,2,none⟩ (.slice A4 L4.length c4)).setCell ⟨X,4,none⟩ (.int .i64 (hv+1)));have hsw:=HLS.o.swap4 (h':=hv+1) HO4.o HB4.o rfl HOX.o.2 (by have:=HBA.o;omega);rw [←hV]at hsw;rw [←hV];have hVO:Upon w2.heap.size X w5 V:=(by rw [hV];exact(Upon.set _ _ _).trans (Upon.set _ _ _));have hVz:V.heap.size=w5.heap.size:=(by rw [hV];simp [World.setCell]);have HVF:=h_ (show(fun V=>LinkAt V X ⟨e,n,A4,c4,L4,qA3,qc3,q3',hv+1⟩∧(⟨e,n,A4,c4,L4,qA3,qc3,q3',hv+1⟩:LinkV).InS (fun b=>w2.heap.size≤b∧b<V.heap.size) V∧LinkV.d ⟨e,n,A4,c4,L4,qA3,qc3,q3',hv+1⟩=D∧(L4.length≤s3.length∧ ∀f∈L4,f.o.ps.length≤1048576)∧LHearAt w V Q R F ⟨e,n,some ⟨bA,oA,none⟩,sc,s,qA,qc,q,hv⟩ ⟨pe,hv+1,false,pa,⟨fk,fh,fe,⟨fA,fc,fp⟩,fs⟩⟩ zeroF∧X<V.heap.size) V from⟨hsw.1,hsw.2,by rw [HDD.o];simp only [LinkV.d,HD4.o,H4.o,List.map_drop],⟨by
    have h1:=congrArg List.length HD4.o;have h2:=HL3.o;simp only [List.length_map,List.length_drop]at h1;omega,fun f hf=>by
    have h1:f.d∈(s.drop K).map FrameV.d:=HD4.o ▸ List.mem_map.2 ⟨f,hf,rfl⟩;obtain⟨g,hg,e1⟩:=List.mem_map.1 h1;have h2:=(HM.o.s g (List.mem_of_mem_drop hg)).op.len;have h3:=congrArg (fun x=>x.op.length) e1;dsimp only at h3;omega⟩,HA5'.o.upon (by have:=HO.o;have:=HBA.o;have:=HXE.o;omega) hVO,by have:=HOX.o;have:=HB4.o.size;omega⟩)
   clear hsw hVO hV p0 p1 p2 p3 p4 v0 v1 v2 v3 v4 pz q0 q1 q2 q3 q4 q5 q6 q7 q8 g0 g1 g2 g3 g4 g5 g6 g7 g8 gz x0 x1 x2 x3 x4 y0 y1 y2 y3 y4 hxz hw;rw [show w5.heap.size=V.heap.size from hVz.symm];clear hVz;have k72_:K_ (∀(P:Prop) (h:P:=by
   have k85_:K_ (∀(P:Prop) (h:P:=by
   have HFL:=h_ (dr_ w2.heap.size WF ⟨e,n,A4,c4,L4,qA3,qc3,q3',(hv+1)⟩ HIF.o HQC.o (by have:=HNM.o;have:=HL3.o;have:=HSV.o.1;dsimp only;omega) (by have:=HNM.o;dsimp only;omega) (by have:=HNM.o;have:=HLQ.o;dsimp only;omega) ⟨HSV.o.2,HSM.o.2⟩);exact m56_
   ),P):=⟨@q6_⟩
   exact m85_
   ),P):=⟨@q6_⟩
   exact m72_
   ),P):=⟨@q6_⟩
   exact m101_)
 |obtain⟨V,hV⟩:=q2_ (W4.setCell ⟨X,4,none⟩ (.int .i64 (hv+1)));have hsw:=HLS.o.heard (hv+1);rw [←hV]at hsw;rw [←hV];have hVO:Upon w2.heap.size X W4 V:=by rw [hV];exact Upon.set _ _ _
  have hVz:V.heap.size=W4.heap.size:=by rw [hV];simp [World.setCell]
  have HVF:=h_ (show(fun V=>LinkAt V X ⟨e,n,sA3,sc3,s3,qA3,qc3,q3',hv+1⟩∧(⟨e,n,sA3,sc3,s3,qA3,qc3,q3',hv+1⟩:LinkV).InS (fun b=>w2.heap.size≤b∧b<V.heap.size) V∧LinkV.d ⟨e,n,sA3,sc3,s3,qA3,qc3,q3',hv+1⟩=D∧(s3.length≤s3.length∧ ∀f∈s3,f.o.ps.length≤1048576)∧LHearAt w V Q R F ⟨e,n,sA,sc,s,qA,qc,q,hv⟩ ⟨pe,hv+1,false,pa,⟨fk,fh,fe,⟨fA,fc,fp⟩,fs⟩⟩ zeroF∧X<V.heap.size) V from⟨hsw.at_,hsw.inS,by rw [HDD.o];simp only [LinkV.d,H3.o,H4.o],⟨Nat.le_refl _,HSM.o.1⟩,HA4.o.upon (by have:=HO.o;have:=HBA.o;have:=HXE.o;omega) hVO,by have:=HOX.o;omega⟩);clear hsw hVO hV p0 p1 p2 p3 p4 v0 v1 v2 v3 v4 pz q0 q1 q2 q3 q4 q5 q6 q7 q8 g0 g1 g2 g3 g4 g5 g6 g7 g8 gz x0 x1 x2 x3 x4 y0 y1 y2 y3 y4 hxz hfirst hw;rw [show W4.heap.size=V.heap.size from hVz.symm];clear hVz;have k72_:K_ (∀(P:Prop) (h:P:=by
  have k85_:K_ (∀(P:Prop) (h:P:=by
  have HFL:=h_ (dr_ w2.heap.size WF ⟨e,n,sA3,sc3,s3,qA3,qc3,q3',(hv+1)⟩ HIF.o HQC.o (by have:=HNM.o;have:=HL3.o;have:=HSV.o.1;dsimp only;omega) (by have:=HNM.o;dsimp only;omega) (by have:=HNM.o;have:=HLQ.o;dsimp only;omega) ⟨HSV.o.2,HSM.o.2⟩);exact m56_
  ),P):=⟨@q6_⟩
  exact m85_
  ),P):=⟨@q6_⟩
  exact m72_
 ),P):=⟨@q6_⟩
 exact m164_
 ),P):=⟨@q6_⟩
 exact m71_
 ),P):=⟨@q6_⟩
 exact m119_
 ),P):=⟨@q6_⟩
 exact m157_):P:=h
theorem m56_{P:Prop}(h:P:=by
 have k173_:K_ (∀(P:Prop) (h:P:=by
 have HA6:=h_ (HAF.o.la hb6);have HG6:=h_ ((hb6.block G (by have:=HOG.o;omega)).trans HGF.o);have HA7:=h_ (HAF.o.la hb67);have HG7:=h_ ((hb67.block G (by have:=HOG.o;omega)).trans HGF.o);have HY7:=h_ (show LinkAt W7 w6.heap.size ⟨e5,n5,sA5,sc5,s5,qA5,qc5,q5,h5⟩ by rw [hW7];exact heap_alloc_new _ _);have HW7:=h_ hW7;have hz6:=hb6.size;have hz7:=hb7.size;have HGZ:=h_ (show G<w6.heap.size by have:=HOG.o;omega);have HOF7:=h_ (HOF.o.mv (S':=fun b=>W5.heap.size≤b∧b<W7.heap.size) (w':=W7) fun b hb=>⟨⟨hb.1,by omega⟩,hb67.block b hb.2⟩);have k77_:K_ (∀(P:Prop) (h:P:=by
 have HA8:=h_ (HAF.o.la hF2);have HG8:=h_ ((hF2.block G (by have:=HOG.o;omega)).trans HGF.o);have k138_:K_ (∀(P:Prop) (h:P:=by
 have HOFZ:=h_ (HOF.o.mv (S':=fun b=>W5.heap.size≤b∧b<w8.heap.size) (w':=w8) fun b hb=>⟨⟨hb.1,by omega⟩,hF2.block b hb.2⟩);have k167_:K_ (∀(P:Prop) (h:P:=by
 obtain⟨W9,hW9⟩:=q2_ (((((((((((w8).setCell ⟨R,0,none⟩ (.int .i64 e5)).setCell ⟨R,1,none⟩ (.int .i64 n5)).setCell ⟨R,2,none⟩ (.slice sA5 s5.length sc5)).setCell ⟨R,3,none⟩ (.slice qA5 q5.length qc5)).setCell ⟨R,4,none⟩ (.int .i64 h5)).setCell ⟨F,0,none⟩ (.int .i64 fk)).setCell ⟨F,1,none⟩ (.int .i64 fh)).setCell ⟨F,2,none⟩ (.int .i64 fe)).setCell ⟨F,3,none⟩ (.slice A2 fp.length c2)).setCell ⟨F,4,none⟩ (.string fs));have k160_:K_ (∀(P:Prop) (h:P:=by
 refine bodyPost_ret (v:= .tuple #[(⟨e5,n5,sA5,sc5,s5,qA5,qc5,q5,h5⟩:LinkV).val,frameV fk fh fe A2 fp.length c2 fs,.bool true,.slice A8 (L5.length+1) c8,.int .i64 0]) (by simp [results,Tryz.results79,go_sem,r0,r1,r2,r3,r4,t0,t1,t2,t3,t4]) rfl ?_;exact⟨⟨e5,n5,sA5,sc5,s5,qA5,qc5,q5,h5⟩,A2,c2,A8,c8,(L5++ [⟨e,0,true,h5,⟨0,0,0,⟨none,0,[]⟩,⟨#[]⟩⟩⟩]),(by first | rfl | simp),HD5.o,HD8.o,hI9,(HOFZ.o.mv fun b hb=>⟨⟨by have:=hb.1;have:=HBA.o;have:=HO.o;have:=HOG.o;omega,Nat.lt_of_lt_of_le hb.2 a3.size⟩,a3.block b hb.2 (by have:=HBA.o;have:=HO.o;have:=HOG.o;omega) (by have:=HBA.o;have:=HOG.o;omega)⟩),PacketsOwn.inS_two HP8.o a3 (by have:=HBA.o;have:=HO.o;have:=HOG.o;omega) (by have:=HBA.o;have:=HOG.o;omega) (by have:=HBA.o;have:=HO.o;have:=HOG.o;omega),hB9⟩
 ),P):=⟨@q6_⟩
 exact m160_
 ),P):=⟨@q6_⟩
 exact m167_
 ),P):=⟨@q6_⟩
 exact m138_
 ),P):=⟨@q6_⟩
 exact m77_
 ),P):=⟨@q6_⟩
 exact m173_):P:=h
theorem m61_{P:Prop}(h:P:=by
 rw [HDV.o]at HFL;refine HFL.o.mono ?_;rintro r w6 ⟨⟨e5,n5,sA5,sc5,s5,qA5,qc5,q5,h5⟩,A5,c5,L5,wm,rfl,hd5,hp5,hi5,ho5,hb6,him,hom,hzm,hmz⟩;have HD5:=h_ hd5;have HP5:=h_ hp5;clear him hom hzm hmz;obtain⟨W7,hW7⟩:=q2_ (w6.alloc (.cells #[.int .i64 e5,.int .i64 n5,.slice sA5 s5.length sc5,.slice qA5 q5.length qc5,.int .i64 h5] 58));have hb7:Below w6.heap.size w6 W7:=by rw [hW7];exact bA_
 have hb67:=bThen hb6 hb7;have HI7:=h_ (hi5.laterF hb7);have HO7:=h_ (ho5.la hb7);have k213_:K_ (∀(P:Prop) (h:P:=by
 clear hd5 hp5 hi5 ho5 hb6 hb7 hb67 hW7 HFL;have k141_:K_ (∀(P:Prop) (h:P:=by
 go_wp2_with fail
 rw [←HW7.o];clear p0 p1 p2 p3 p4 v0 v1 v2 v3 v4 pz q0 q1 q2 q3 q4 q5 q6 q7 q8 g0 g1 g2 g3 g4 g5 g6 g7 g8 gz b0 b1 b2 b3 b4 bz;obtain⟨⟨z9,z10⟩,⟨z11,z12⟩,⟨z13,z14⟩,⟨z15,z16⟩,⟨z17,z18⟩,⟨z19,z20⟩,⟨z21,z22⟩⟩:=HNG.o;obtain⟨x0,x1,x2,x3,x4,y0,y1,y2,y3,y4,hxz⟩:=a_ HY7.o;obtain⟨b0,b1,b2,b3,b4,_,_,_,_,_,bz⟩:=a_ HG7.o;obtain⟨r0,r1,r2,r3,r4,j0,j1,j2,j3,j4,rz⟩:=a_ HA7.o.r;obtain⟨t0,t1,t2,t3,t4,k0,k1,k2,k3,k4,tz⟩:=a_ HA7.o.f
 (try dsimp only at x0 x1 x2 x3 x4 t0 t1 t2 t3 t4)
 go_region
 go_wp2_with fail
 obtain⟨W9,hW9⟩:=q2_ (((((((((((W7).setCell ⟨R,0,none⟩ (.int .i64 e5)).setCell ⟨R,1,none⟩ (.int .i64 n5)).setCell ⟨R,2,none⟩ (.slice sA5 s5.length sc5)).setCell ⟨R,3,none⟩ (.slice qA5 q5.length qc5)).setCell ⟨R,4,none⟩ (.int .i64 h5)).setCell ⟨F,0,none⟩ (.int .i64 0)).setCell ⟨F,1,none⟩ (.int .i64 0)).setCell ⟨F,2,none⟩ (.int .i64 0)).setCell ⟨F,3,none⟩ (.slice none 0 0)).setCell ⟨F,4,none⟩ (.string ⟨#[]⟩));rw [←hW9];obtain⟨WZ,hWZ⟩:=q2_ (W9.drew);rw [←hWZ];obtain⟨a1,a2,a3⟩:=by_ (bv_ HA7.o.r HA7.o.f m1 hW9) hWZ;have hI9:LinkV.InS (fun b=>w.heap.size≤b∧b<WZ.heap.size) WZ ⟨e5,n5,sA5,sc5,s5,qA5,qc5,q5,h5⟩:=HI7.o.mv fun b hb=>⟨⟨by have:=hb.1;have:=HBA.o;have:=HO.o;omega,Nat.lt_of_lt_of_le hb.2 a3.size⟩,a3.block b hb.2 (by have:=hb.1;have:=HBA.o;have:=HO.o;omega) (by have:=hb.1;have:=HBA.o;omega)⟩
 have hB9:=HA7.o.b.trans (a3.below (base:=w.heap.size) (by have:=HO.o;omega) (by have:=HO.o;omega) HA7.o.b.size);clear hW9 hWZ r0 r1 r2 r3 r4 t0 t1 t2 t3 t4;obtain⟨r0,r1,r2,r3,r4,_,_,_,_,_,_⟩:=a_ a1;obtain⟨t0,t1,t2,t3,t4,_,_,_,_,_,_⟩:=a_ a2;refine bodyPost_ret (v:= .tuple #[(⟨e5,n5,sA5,sc5,s5,qA5,qc5,q5,h5⟩:LinkV).val,frameV 0 0 0 none 0 0 ⟨#[]⟩,.bool false,.slice A5 L5.length c5,.int .i64 0]) (by simp [results,Tryz.results79,go_sem,r0,r1,r2,r3,r4,t0,t1,t2,t3,t4]) rfl ?_;exact⟨⟨e5,n5,sA5,sc5,s5,qA5,qc5,q5,h5⟩,none,0,A5,c5,L5,(by first | rfl | simp),HD5.o,HP5.o,hI9,Sl.nil,PacketsOwn.inS_two HO7.o a3 (by have:=HBA.o;have:=HO.o;have:=HOG.o;omega) (by have:=HBA.o;have:=HOG.o;omega) (by have:=HBA.o;have:=HO.o;have:=HOG.o;omega),hB9⟩
 ),P):=⟨@q6_⟩
 exact m141_
 ),P):=⟨@q6_⟩
 exact m213_):P:=h
theorem m69_{P:Prop}(h:P:=by
 have k173_:K_ (∀(P:Prop) (h:P:=by
 have k213_:K_ (∀(P:Prop) (h:P:=by
 have k77_:K_ (∀(P:Prop) (h:P:=by
 have HA8:=h_ (HA5.o.la hF2);have HG8:=h_ ((hF2.block G (by have:=HOG.o;omega)).trans HG5.o);have k138_:K_ (∀(P:Prop) (h:P:=by
 have k167_:K_ (∀(P:Prop) (h:P:=by
 obtain⟨W9,hW9⟩:=q2_ (((((((((((w8).setCell ⟨R,0,none⟩ (.int .i64 e5)).setCell ⟨R,1,none⟩ (.int .i64 n5)).setCell ⟨R,2,none⟩ (.slice sA5 s5.length sc5)).setCell ⟨R,3,none⟩ (.slice qA5 q5.length qc5)).setCell ⟨R,4,none⟩ (.int .i64 h5)).setCell ⟨F,0,none⟩ (.int .i64 0)).setCell ⟨F,1,none⟩ (.int .i64 0)).setCell ⟨F,2,none⟩ (.int .i64 0)).setCell ⟨F,3,none⟩ (.slice none 0 0)).setCell ⟨F,4,none⟩ (.string ⟨#[]⟩));have k160_:K_ (∀(P:Prop) (h:P:=by
 refine bodyPost_ret (v:= .tuple #[(⟨e5,n5,sA5,sc5,s5,qA5,qc5,q5,h5⟩:LinkV).val,frameV 0 0 0 none 0 0 ⟨#[]⟩,.bool false,.slice A8 (L5.length+1) c8,.int .i64 0]) (by simp [results,Tryz.results79,go_sem,r0,r1,r2,r3,r4,t0,t1,t2,t3,t4]) rfl ?_;exact⟨⟨e5,n5,sA5,sc5,s5,qA5,qc5,q5,h5⟩,none,0,A8,c8,(L5++ [⟨e,0,true,h5,⟨0,0,0,⟨none,0,[]⟩,⟨#[]⟩⟩⟩]),(by first | rfl | simp),HD5.o,HD8.o,hI9,Sl.nil,PacketsOwn.inS_two HP8.o a3 (by have:=HBA.o;have:=HO.o;have:=HOG.o;omega) (by have:=HBA.o;have:=HOG.o;omega) (by have:=HBA.o;have:=HO.o;have:=HOG.o;omega),hB9⟩
 ),P):=⟨@q6_⟩
 exact m160_
 ),P):=⟨@q6_⟩
 exact m167_
 ),P):=⟨@q6_⟩
 exact m138_
 ),P):=⟨@q6_⟩
 exact m77_
 ),P):=⟨@q6_⟩
 exact m213_
 ),P):=⟨@q6_⟩
 exact m173_):P:=h
theorem m71_{P:Prop}(h:P:=by
 have k169_:K_ (∀(P:Prop) (h:P:=by
 go_enter Tryz.func79,Tryz.ntmps79
 have k86_:K_ (∀(P:Prop) (h:P:=by
 have hX4:LinkAt W4 w3.heap.size ⟨e,n,sA3,sc3,s3,qA3,qc3,q3',hv⟩:=by rw [hW4];exact heap_alloc_new _ _
 have HL4:=h_ (LinkSt.plain (l:=⟨e,n,sA3,sc3,s3,qA3,qc3,q3',hv⟩) hS3 hQ3 hmid hb4 hX4);have HA3:=h_ (HA2.o.la hb3);have HA4:=h_ (HA2.o.la (bThen hb3 hb4));have hz4:=hb4.size;have hXz:w3.heap.size<W4.heap.size:=by rw [hW4];simp
 have k210_:K_ (∀(P:Prop) (h:P:=by
 have HBA:=h_ (show F<w2.heap.size∧w2.heap.size≤w3.heap.size∧w3.heap.size<W4.heap.size from⟨HA2.o.lt.2.2.2,hz3,hXz⟩);have HW4:=h_ hW4;clear hS3 hQ3 hmid hb3 hb4 hd3 d3 d4 hl3 hl4 hW4 hX4 hz4 hXz p0 p1 p2 p3 p4 v0 v1 v2 v3 v4 pz q0 q1 q2 q3 q4 q5 q6 q7 q8 g0 g1 g2 g3 g4 g5 g6 g7 g8 gz r0 r1 r2 r3 r4 j0 j1 j2 j3 j4 rz t0 t1 t2 t3 t4 k0 k1 k2 k3 k4 tz;obtain⟨p0,p1,p2,p3,p4,v0,v1,v2,v3,v4,pz⟩:=a_ HA3.o.l;obtain⟨q0,q1,q2,q3,q4,q5,q6,q7,q8,g0,g1,g2,g3,g4,g5,g6,g7,g8,gz⟩:=n_ HA3.o.p;have n1: ¬w3.heap.size=Q:=by have:=HA3.o.lt;omega
 have n2: ¬Q=w3.heap.size:=by omega
 have n3: ¬w3.heap.size=w.heap.size:=by have:=HA3.o.lt;omega
 have n4: ¬w.heap.size=w3.heap.size:=by omega
 have hfirst:wrap64 (n - (s.length:Int))=n - s.length:=w_ (by have:=HNM.o;omega);have hn1:wrap64 (n - 1)=n - 1:=w_ (by have:=HNM.o;omega);exact k71_.o _
 ),P):=⟨@q6_⟩
 exact m210_
 ),P):=⟨@q6_⟩
 exact m86_
 ),P):=⟨@q6_⟩
 exact m169_):P:=h
theorem m72_{P:Prop}(h:P:=by
 obtain⟨hXV,hIV,hDV,hSV,hAV,hzV⟩:=HVF.o;have HXV:=h_ hXV;have HIV:=h_ hIV;have HDV:=h_ hDV;have HSV:=h_ hSV;have HAV:=h_ hAV;clear hXV hIV hDV hSV hAV HVF;obtain⟨W5,hW5⟩:=q2_ (V.alloc (.cells #[.int .i64 0,.int .i64 0,.int .i64 0,.slice none 0 0,.string ⟨#[]⟩] 46));rw [←hW5];have hb5:Below V.heap.size V W5:=by rw [hW5];exact bA_
 have HG5:=h_ (show FrameAt W5 V.heap.size 0 0 0 none 0 0 ⟨#[]⟩ by rw [hW5];exact heap_alloc_new _ _);have HA5:=h_ (HAV.o.la hb5);have HX5:=h_ ((hb5.block X hzV).trans HXV.o);have HI5':=h_ (HIV.o.laterF hb5);obtain⟨G,hG⟩:=q2_ (V.heap.size);rw [←hG]at HG5;rw [←hG];have HOG:=h_ (show F<X∧X<G∧G<W5.heap.size by have:=HOX.o;have:=(a_ HG5.o).2.2.2.2.2.2.2.2.2.2;omega);have HWV:=h_ (show V.heap.size=G∧Below V.heap.size V W5 from⟨hG.symm,hb5⟩);clear hG hW5 hb5;exact k72_.o _):P:=h
theorem m77_{P:Prop}(h:P:=by
 have HF7:=h_ hb67;have HM7:=h_ hb7;have HOM7:=h_ (hom.la hb7);clear hd5 hp5 hi5 ho5 hb6 hb7 hb67 hW7 HFL him hom;have k141_:K_ (∀(P:Prop) (h:P:=by
 have HLEN:=h_ (show L5.length≤8 from by have h1:=congrArg List.length HP5.o;have h2:=co_ D;rw [List.length_map,h2.1]at h1;omega);have hlen:=HLEN.o;have HXR:=h_ (HOM7.o.row.alloc (.cells #[.int .i64 e,.int .i64 0,.bool true,.int .i64 h5,.int .i64 0,.int .i64 0,.int .i64 0,.slice none 0 0,.string ⟨#[]⟩] 48));rw [HW7.o]at HXR;have hmw:wm≤W7.heap.size:=Nat.le_trans hmz HM7.o.size;go_wp2_with(refine bb_ rfl ?_)
 refine⟨?_⟩;refine l_ _ rfl _ _ 90 rfl wm 48 i0 (.agg #[.int .i64 0,.int .i64 0,.bool false,.int .i64 0,.int .i64 0,.int .i64 0,.int .i64 0,.slice none 0 0,.string ⟨#[]⟩]) 9 96 Tryz.underlying90 hi0 hz0 hz1 hz2 rfl (by decide) _ _ _ rfl HXR.o (fun _=>True) _ _ _ _ rfl (bl_ (by rfl) (by simp)) ?c1 ?c2 ?c3 ?c4 ?_
 case c1=>intro u hu;simp at hu;rcases hu with rfl | rfl | rfl | rfl | rfl | rfl | rfl | rfl | rfl <;> rfl
 case c2=>unfold maxLen;omega
 case c3=>omega
 case c4=>rw [←HW7.o];simp;omega
 intro A8 c8 w8 hown' hgrow hat;rw [←HW7.o]at hgrow hat;have hP:=RowOwn.push (f:=PacketV.cells) (op:=PacketV.op) (x:=⟨e,0,true,h5,⟨0,0,0,⟨none,0,[]⟩,⟨#[]⟩⟩⟩) HOM7.o hmw (Below.refl _ W7) Sl.nil hgrow hown' hat;have hF: ∀b,b<wm→w8.heap[b]?=w6.heap[b]?:=fun b hb9=>(hgrow.block b (by simp;omega) (fun e1=>by have:=(HOM7.o.row.lt _ e1.symm).1;omega)).trans ((bA_.block b (by omega)).trans (HM7.o.block b (by omega)));have hF2:=bm_ HF7.o (Below.refl _ W7) hgrow (fun g hg=>(HO7.o.row.lt g hg).1);exact k77_.o _
 ),P):=⟨@q6_⟩
 exact m141_):P:=h
theorem m85_{P:Prop}(h:P:=by
 refine(HCF.o W5 (Sl.la HOP.o HA5.o.b)).mono ?_;rintro r wf ⟨A2,c2,rfl,ho2,hb2⟩;have HAf:=h_ (HA5.o.la hb2);have HGf:=h_ ((hb2.block G HOG.o.2.2).trans HG5.o);have HXf:=h_ ((hb2.block X (by have:=HOG.o;omega)).trans HX5.o);have HIf:=h_ (HI5'.o.laterF hb2);have HO2:=h_ ho2;have HBf:=h_ (bThen HWV.o.2 hb2);have hzf:=hb2.size;clear ho2 hb2;have HNf:=h_ (show(¬G=X)∧(¬X=G)∧(¬G=Q)∧(¬Q=G) by have:=HO.o;have:=HOG.o;omega);obtain⟨u1,u2,u3,u4⟩:=HNf.o;obtain⟨b0,b1,b2,b3,b4,b5,b6,b7,b8,b9,bz⟩:=a_ HGf.o;obtain⟨x0,x1,x2,x3,x4,y0,y1,y2,y3,y4,hxz⟩:=a_ HXf.o
 (try dsimp only at x0 x1 x2 x3 x4)
 go_wp2_with fail
 obtain⟨WF,hWF⟩:=q2_ ((((((wf.setCell ⟨G,0,none⟩ (.int .i64 fk)).setCell ⟨G,1,none⟩ (.int .i64 fh)).setCell ⟨G,2,none⟩ (.int .i64 fe)).setCell ⟨G,3,none⟩ (.slice A2 fp.length c2)).setCell ⟨G,4,none⟩ (.string fs)));rw [←hWF];obtain⟨hGF,hOF⟩:=eo_ (x0:= .int .i64 fk) (x1:= .int .i64 fh) (x2:= .int .i64 fe) (x3:= .slice A2 fp.length c2) (x4:= .string fs) HGf.o;rw [←hWF]at hGF hOF;have hbF0:=hOF.below (base:=V.heap.size) (by rw [HWV.o.1];exact Nat.le_refl _) HBf.o.size;have hbF:Below V.heap.size V WF:=⟨hbF0.os.trans HBf.o.os,hbF0.tape.trans HBf.o.tape,hbF0.output.trans HBf.o.output,Nat.le_trans HBf.o.size hbF0.size,fun x hx=>(hbF0.block x hx).trans (HBf.o.block x hx)⟩
 clear hbF0;have HAF:=h_ (HAV.o.la hbF);have HGF:=h_ hGF;have HIF:=h_ (HIV.o.laterF hbF);have HOF:=h_ (HO2.o.mv (S':=fun b=>W5.heap.size≤b∧b<WF.heap.size) (w':=WF) fun b hb=>⟨⟨hb.1,Nat.lt_of_lt_of_le hb.2 hOF.size⟩,hOF.block b hb.2 (by have:=HOG.o;omega)⟩);have hzF:=hOF.size;clear hWF hGF hOF hbF x0 x1 x2 x3 x4 y0 y1 y2 y3 y4 hxz b0 b1 b2 b3 b4 b5 b6 b7 b8 b9 bz u1 u2 u3 u4;have HOGF:=h_ (show X<G∧G<WF.heap.size by have:=HOG.o;omega);exact k85_.o _):P:=h
theorem m101_{P:Prop}(h:P:=by
 refine(HFC.o W4 _ _ ?hs).mono ?_
 case hs=>exact HDR.o _ (by first | (rw [if_pos (by assumption)];done) | (rw [if_neg (by assumption)];done) | (rw [if_pos (by omega)];done) | (rw [if_neg (by omega)];done))
 rintro r w5 ⟨A4,c4,L4,rfl,hd4,ho4,hb4⟩;have HD4:=h_ hd4;have HO4:=h_ ho4;have HB4:=h_ hb4;have HA5':=h_ (HA4.o.la hb4);have hX5:=(hb4.block X HOX.o.2).trans HLS.o.at_;clear ho4 hb4 hd4 p0 p1 p2 p3 p4 v0 v1 v2 v3 v4 pz q0 q1 q2 q3 q4 q5 q6 q7 q8 g0 g1 g2 g3 g4 g5 g6 g7 g8 gz x0 x1 x2 x3 x4 y0 y1 y2 y3 y4 hxz;obtain⟨p0,p1,p2,p3,p4,v0,v1,v2,v3,v4,pz⟩:=a_ HA5'.o.l;obtain⟨q0,q1,q2,q3,q4,q5,q6,q7,q8,g0,g1,g2,g3,g4,g5,g6,g7,g8,gz⟩:=n_ HA5'.o.p;obtain⟨x0,x1,x2,x3,x4,y0,y1,y2,y3,y4,hxz⟩:=a_ hX5
 (try dsimp only at x0 x1 x2 x3 x4)
 clear hX5;exact k101_.o _):P:=h
theorem m138_{P:Prop}(h:P:=by
 have HY8:=h_ (((hgrow.block w6.heap.size (by simp;have:=(a_ HY7.o).2.2.2.2.2.2.2.2.2.2;omega) (fun e1=>by have h1:=(HOW6.o.row.lt _ e1.symm).2;omega)).trans (bA_.block w6.heap.size (by have:=(a_ HY7.o).2.2.2.2.2.2.2.2.2.2;omega))).trans HY7.o);have HI8:=h_ (HIM.o.mv (S':=fun b=>w2.heap.size≤b∧b<w8.heap.size) (w':=w8) fun b hb=>⟨⟨hb.1,by have:=hb.2;have:=hgrow.size;simp at this;omega⟩,hF b hb.2⟩);have HP8:=h_ hP;have HD8:=h_ (show(L5++ [(⟨e,0,true,h5,⟨0,0,0,⟨none,0,[]⟩,⟨#[]⟩⟩⟩:PacketV)]).map PacketV.d=fillP D++ [bareX D] by
  have h1:=HD5.o;simp only [LinkV.d,fillL,LinkD.mk.injEq]at h1;rw [List.map_append,HP5.o];unfold bareX;rw [←h1.2.2.2.2,HDD.o];rfl)
 have hz8:=hF2.size;have HZ8:=h_ (show wm≤w8.heap.size by have:=hgrow.size;simp at this;omega);exact k138_.o _):P:=h
theorem m141_{P:Prop}(h:P:=by
 obtain⟨p0,p1,p2,p3,p4,v0,v1,v2,v3,v4,pz⟩:=a_ HA6.o.l;obtain⟨q0,q1,q2,q3,q4,q5,q6,q7,q8,g0,g1,g2,g3,g4,g5,g6,g7,g8,gz⟩:=n_ HA6.o.p;obtain⟨b0,b1,b2,b3,b4,_,_,_,_,_,bz⟩:=a_ HG6.o;have HNG:=h_ (show((¬G=R)∧(¬R=G))∧((¬G=F)∧(¬F=G))∧((¬w6.heap.size=R)∧(¬R=w6.heap.size))∧((¬w6.heap.size=F)∧(¬F=w6.heap.size))∧((¬w6.heap.size=Q)∧(¬Q=w6.heap.size))∧((¬w6.heap.size=w.heap.size)∧(¬w.heap.size=w6.heap.size))∧((¬w6.heap.size=G)∧(¬G=w6.heap.size)) by
  have h1:=HO.o;have h2:=HOX.o.1;have h3:=HGZ.o;have h4:X<G:=by have:=HOG.o;omega
  clear hz6 hz7;refine⟨⟨?_,?_⟩,⟨?_,?_⟩,⟨?_,?_⟩,⟨?_,?_⟩,⟨?_,?_⟩,⟨?_,?_⟩,?_,?_⟩ <;> omega)
 exact k141_.o _):P:=h
theorem m157_{P:Prop}(h:P:=by
 have HC:=h_ (fun W hT hi=>ch_ W l hT hi hm);rw [decide_eq_true hk]at HC;have HF:=h_ (fun W hT hs=>bu_ W p.ep p.nu p.b p.ak p.f.k p.f.h p.f.e p.f.o.A p.f.o.c p.f.o.ps p.f.s hT hs hfm.op.len hfm.op.text hfm.text);rw [show packetFault ⟨p.ep,p.nu,p.b,p.ak,⟨p.f.k,p.f.h,p.f.e,p.f.o.ps,p.f.s⟩⟩=0 from he]at HF;have HOP:=h_ hf;have HOW:=h_ (fun W hi=>cw_ W l hi hm);have HM:=h_ hm;have HK:=h_ hk;have hpa:0≤p.ak∧p.ak≤1048576:=by
  exact m280_
 exact k157_.o _):P:=h
theorem m160_{P:Prop}(h:P:=by
 rw [←hW9];obtain⟨WZ,hWZ⟩:=q2_ (W9.drew);rw [←hWZ];obtain⟨a1,a2,a3⟩:=by_ (bv_ HA8.o.r HA8.o.f m1 hW9) hWZ;have hI9:LinkV.InS (fun b=>w.heap.size≤b∧b<WZ.heap.size) WZ ⟨e5,n5,sA5,sc5,s5,qA5,qc5,q5,h5⟩:=HI8.o.mv fun b hb=>⟨⟨by have:=hb.1;have:=HBA.o;have:=HO.o;omega,Nat.lt_of_lt_of_le hb.2 a3.size⟩,a3.block b hb.2 (by have:=hb.1;have:=HBA.o;have:=HO.o;omega) (by have:=hb.1;have:=HBA.o;omega)⟩
 have hB9:=HA8.o.b.trans (a3.below (base:=w.heap.size) (by have:=HO.o;omega) (by have:=HO.o;omega) HA8.o.b.size);clear hW9 hWZ r0 r1 r2 r3 r4 t0 t1 t2 t3 t4;obtain⟨r0,r1,r2,r3,r4,_,_,_,_,_,_⟩:=a_ a1;obtain⟨t0,t1,t2,t3,t4,_,_,_,_,_,_⟩:=a_ a2;exact k160_.o _):P:=h
theorem m164_{P:Prop}(h:P:=by
 rintro r w5 ⟨rfl,rfl⟩;have HLS:=h_ (show LinkSt W4 w2.heap.size X ⟨e,n,sA3,sc3,s3,qA3,qc3,q3',hv⟩ by rw [HXE.o];exact HL4.o);have HQC:=h_ HL4.o.qcap;have HOX:=h_ (show F<X∧X<W4.heap.size by have:=HBA.o;have:=HXE.o;omega);clear q0 q1 q2 q3 q4 q5 q6 q7 q8 g0 g1 g2 g3 g4 g5 g6 g7 g8 gz p0 p1 p2 p3 p4 v0 v1 v2 v3 v4 pz n1 n2 n3 n4 hn1;have HNX:=h_ (show((¬X=w.heap.size)∧(¬w.heap.size=X))∧((¬X=Q)∧(¬Q=X))∧((¬X=R)∧(¬R=X))∧((¬X=F)∧(¬F=X)) by have:=HO.o;have:=HOX.o;omega);obtain⟨⟨z1,z2⟩,⟨z3,z4⟩,⟨z5,z6⟩,⟨z7,z8⟩⟩:=HNX.o;exact k164_.o _):P:=h
theorem m167_{P:Prop}(h:P:=by
 clear hown' hgrow hat hP hF hF2 p0 p1 p2 p3 p4 v0 v1 v2 v3 v4 pz q0 q1 q2 q3 q4 q5 q6 q7 q8 g0 g1 g2 g3 g4 g5 g6 g7 g8 gz b0 b1 b2 b3 b4 bz;obtain⟨⟨z9,z10⟩,⟨z11,z12⟩,⟨z13,z14⟩,⟨z15,z16⟩,⟨z17,z18⟩,⟨z19,z20⟩,⟨z21,z22⟩⟩:=HNG.o;obtain⟨x0,x1,x2,x3,x4,y0,y1,y2,y3,y4,hxz⟩:=a_ HY8.o;obtain⟨b0,b1,b2,b3,b4,_,_,_,_,_,bz⟩:=a_ HG8.o;obtain⟨r0,r1,r2,r3,r4,j0,j1,j2,j3,j4,rz⟩:=a_ HA8.o.r;obtain⟨t0,t1,t2,t3,t4,k0,k1,k2,k3,k4,tz⟩:=a_ HA8.o.f
 (try dsimp only at x0 x1 x2 x3 x4 t0 t1 t2 t3 t4)
 go_wp2_with fail
 go_region
 go_wp2_with fail
 exact k167_.o _):P:=h
theorem m173_{P:Prop}(h:P:=by
 rw [HDV.o]at HFL;refine HFL.o.mono ?_;rintro r w6 ⟨⟨e5,n5,sA5,sc5,s5,qA5,qc5,q5,h5⟩,A5,c5,L5,wm,rfl,hd5,hp5,hi5,ho5,hb6,him,hom,hzm,hmz⟩;have HD5:=h_ hd5;have HP5:=h_ hp5;have HIM:=h_ him;have HOM:=h_ hom;obtain⟨W7,hW7⟩:=q2_ (w6.alloc (.cells #[.int .i64 e5,.int .i64 n5,.slice sA5 s5.length sc5,.slice qA5 q5.length qc5,.int .i64 h5] 58));have hb7:Below w6.heap.size w6 W7:=by rw [hW7];exact bA_
 have hb67:=bThen hb6 hb7;have HI7:=h_ (hi5.laterF hb7);have HO7:=h_ (ho5.la hb7);have HOW6:=h_ ho5;exact k173_.o _):P:=h
theorem m213_{P:Prop}(h:P:=by
 have HA6:=h_ (HA5.o.la hb6);have HG6:=h_ ((hb6.block G (by have:=HOG.o;omega)).trans HG5.o);have HA7:=h_ (HA5.o.la hb67);have HG7:=h_ ((hb67.block G (by have:=HOG.o;omega)).trans HG5.o);have HY7:=h_ (show LinkAt W7 w6.heap.size ⟨e5,n5,sA5,sc5,s5,qA5,qc5,q5,h5⟩ by rw [hW7];exact heap_alloc_new _ _);have HW7:=h_ hW7;have hz6:=hb6.size;have hz7:=hb7.size;have HGZ:=h_ (show G<w6.heap.size by have:=HOG.o;omega);exact k213_.o _):P:=h
theorem m234_{P:Prop}(h:P:=by
 rw [show pa+1 - (n - (s.length:Int))=(K:Int) by have:=hK;omega];exact w_ (by have:=HNM.o;have:=hK;omega)):P:=h
theorem m270_{P:Prop}(h:P:=by
 go_wp2_with fail
 obtain⟨V,hV⟩:=q2_ (w5.setCell ⟨X,2,none⟩ (.slice A4 L4.length c4));have hsw:=HLS.o.swap HO4.o HB4.o rfl HOX.o.2 (by have:=HBA.o;omega);rw [←hV]at hsw;rw [←hV];have hVO:Upon w2.heap.size X w5 V:=by rw [hV];exact Upon.set _ _ _
 have hVz:V.heap.size=w5.heap.size:=by rw [hV];simp [World.setCell]
 exact k270_.o _):P:=h
theorem LinkSy.inS_m{lo:Nat}{w w':World}{P:Nat}{nb:Option Nat}{l:LinkV}(h:LinkSy lo w P nb l)(hk: ∀b,b<w.heap.size→b≠P+1→w'.heap[b]?=w.heap[b]?):l.InS (fun b=>lo≤b∧b<w.heap.size) w':=by
 have key: ∀b,((lo≤b∧b<w.heap.size)∧b≠P∧b≠P+1∧nb≠some b)→(lo≤b∧b<w.heap.size)∧w'.heap[b]?=w.heap[b]?:=fun b hx=>⟨hx.1,hk b hx.1.2 hx.2.2.1⟩
 exact⟨h.sr.mv key,fun f hf=>(h.s f hf).mv key,h.qr.mv key,fun f hf=>(h.q f hf).mv key⟩
def RetFilledM (lo:Nat) (w:World) (d:LinkD) (e:Ending) (w':World):Prop:=
 ∃(l:LinkV) (A:OA_) (c:Nat) (L:List PacketV) (m:Nat),e= .returned (.tuple #[l.val,.slice A L.length c])∧l.d=fillL d∧L.map PacketV.d=fillP d∧l.InS (fun b=>lo≤b∧b<w'.heap.size) w'∧PacketsOwn w' w.heap.size A c L∧Below w.heap.size w w'∧l.InS (fun b=>lo≤b∧b<m) w'∧PacketsOwn w' m A c L∧w.heap.size≤m∧m≤w'.heap.size
theorem dr_(lo:Nat)(w:World)(l:LinkV)(hi:l.InS (fun b=>lo≤b∧b<w.heap.size) w)(hqc:l.q.length≤l.qc)(hs:l.s.length≤8)(hn:1≤l.n∧l.n≤1048576)(hq:l.q.length≤1048577)(hm:(∀f∈l.s,f.o.ps.length≤1048576)∧ ∀f∈l.q,f.o.ps.length≤1048576):
 Calls Tryz.prog 117 #[l.val] w (RetFilledM lo w l.d):=by
 have vE:=h_ trivial;exact m2_
theorem LinkV.InS.laterF{lo:Nat}{w w':World}{l:LinkV}(h:l.InS (fun b=>lo≤b∧b<w.heap.size) w)(hb:Below w.heap.size w w'):l.InS (fun b=>lo≤b∧b<w'.heap.size) w':=
 h.mv fun b k=>⟨⟨k.1,Nat.lt_of_lt_of_le k.2 hb.size⟩,hb.block b k.2⟩
theorem qt_{w:World}{b o sc K:Nat}{L:List FrameV}{A':Option Addr}(h:FramesIn w (some ⟨b,o,none⟩) L)(hK:K≤L.length)(hsc:L.length≤sc)(hA:A'=if sc=K then some ⟨b,o,none⟩else some ⟨b,o+K*5,none⟩):FramesIn w A' (L.drop K):=by
 refine⟨?_,fun f hf=>h.each f (List.mem_of_mem_drop hf)⟩;by_cases he:sc=K
 ·have h0:L.drop K= []:=List.drop_eq_nil_of_le (by omega);rw [h0];exact Sl.nil
 ·rw [if_neg he]at hA;subst hA;have hdr:(L.drop K).flatMap FrameV.cells=(L.flatMap FrameV.cells).drop (K*5):=by
   clear h hsc he;induction K generalizing L with
   | zero=>simp
   | succ K ih=>
    cases L with
    | nil=>simp
    | cons f L=>
     have h5:=ih (L:=L) (by simpa using hK);rw [List.drop_succ_cons,h5,List.flatMap_cons,show(K+1)*5=f.cells.length+K*5 by rw [FrameV.cells_len];omega,←List.drop_drop,List.drop_left]
  refine⟨by rw [io_ FrameV.cells 5 FrameV.cells_len],fun hn=>?_⟩;rw [List.length_drop]at hn;obtain⟨b',o',e,hb,hc⟩:=h.row.2 (by omega);injection e with e
  injection e with e1 e2
  subst e1 e2;refine⟨b,o+K*5,rfl,hb,fun j u hu=>?_⟩;rw [hdr,List.getElem?_drop]at hu;have:=hc (K*5+j) u hu;rwa [←Nat.add_assoc]at this
theorem LinkSt.swap{w w1:World}{base X m c':Nat}{e n h:Int}{sA qA A':Option Addr}{sc qc:Nat}{s q L:List FrameV}(k:LinkSt w base X ⟨e,n,sA,sc,s,qA,qc,q,h⟩)(ho:FramesOwn w1 w.heap.size A' c' L)(hb:Below w.heap.size w w1)(hm:m=L.length)(hX:X<w.heap.size)(hlo:base≤w.heap.size):
 LinkAt (w1.setCell ⟨X,2,none⟩ (.slice A' m c')) X ⟨e,n,A',c',L,qA,qc,q,h⟩∧(⟨e,n,A',c',L,qA,qc,q,h⟩:LinkV).InS (fun b=>base≤b∧b<(w1.setCell ⟨X,2,none⟩ (.slice A' m c')).heap.size) (w1.setCell ⟨X,2,none⟩ (.slice A' m c')):=by
 subst hm;have hO:Only X w1 (w1.setCell ⟨X,2,none⟩ (.slice A' L.length c')):=Only.set _ _ _;have hz:=hO.size;have hz1:=hb.size;refine⟨f_ 2 _ ((hb.block X hX).trans k.at_),⟨(Sl.of_own _ ho.row).mv fun b hx=>⟨⟨by have:=hx.1;omega,by have:=hx.2;omega⟩,hO.block b hx.2 (by have:=hx.1;omega)⟩,fun f hf=>(ho.each f hf).mv fun b hx=>⟨⟨by have:=hx.1.1;omega,by have:=hx.1.2;omega⟩,hO.block b hx.1.2 (by have:=hx.1.1;omega)⟩,?_,?_⟩⟩
 ·exact k.qr.mv fun b hx=>⟨⟨hx.1.1,by have:=hx.1.2;omega⟩,(hO.block b (by omega) hx.2.1).trans (hb.block b hx.1.2)⟩
 ·exact fun f hf=>(k.q f hf).mv fun b hx=>⟨⟨hx.1.1,by have:=hx.1.2;omega⟩,(hO.block b (by omega) hx.2.1).trans (hb.block b hx.1.2)⟩
theorem LinkSt.swap4{w w1:World}{base X m c':Nat}{e n h h':Int}{sA qA A':Option Addr}{sc qc:Nat}{s q L:List FrameV}(k:LinkSt w base X ⟨e,n,sA,sc,s,qA,qc,q,h⟩)(ho:FramesOwn w1 w.heap.size A' c' L)(hb:Below w.heap.size w w1)(hm:m=L.length)(hX:X<w.heap.size)(hlo:base≤w.heap.size):
 LinkAt ((w1.setCell ⟨X,2,none⟩ (.slice A' m c')).setCell ⟨X,4,none⟩ (.int .i64 h')) X ⟨e,n,A',c',L,qA,qc,q,h'⟩∧(⟨e,n,A',c',L,qA,qc,q,h'⟩:LinkV).InS (fun b=>base≤b∧b<((w1.setCell ⟨X,2,none⟩ (.slice A' m c')).setCell ⟨X,4,none⟩ (.int .i64 h')).heap.size) ((w1.setCell ⟨X,2,none⟩ (.slice A' m c')).setCell ⟨X,4,none⟩ (.int .i64 h')):=by
 have h0:=(k.swap ho hb hm hX hlo).1;subst hm;have hO:Only X w1 ((w1.setCell ⟨X,2,none⟩ (.slice A' L.length c')).setCell ⟨X,4,none⟩ (.int .i64 h')):=q5_.trans q5_;have hz:=hO.size;have hz1:=hb.size;refine⟨f_ 4 _ h0,⟨(Sl.of_own _ ho.row).mv fun b hx=>⟨⟨by have:=hx.1;omega,by have:=hx.2;omega⟩,hO.block b hx.2 (by have:=hx.1;omega)⟩,fun f hf=>(ho.each f hf).mv fun b hx=>⟨⟨by have:=hx.1.1;omega,by have:=hx.1.2;omega⟩,hO.block b hx.1.2 (by have:=hx.1.1;omega)⟩,?_,?_⟩⟩
 ·exact k.qr.mv fun b hx=>⟨⟨hx.1.1,by have:=hx.1.2;omega⟩,(hO.block b (by omega) hx.2.1).trans (hb.block b hx.1.2)⟩
 ·exact fun f hf=>(k.q f hf).mv fun b hx=>⟨⟨hx.1.1,by have:=hx.1.2;omega⟩,(hO.block b (by omega) hx.2.1).trans (hb.block b hx.1.2)⟩
end Go.Proofs.YtacacoklddogmaaGreatDoor
