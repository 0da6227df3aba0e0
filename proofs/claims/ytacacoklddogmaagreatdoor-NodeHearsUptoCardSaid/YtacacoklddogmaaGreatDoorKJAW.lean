/- Lemmas. -/
import Derived.Test.YtacacoklddogmaaGreatDoorKJAT
import Derived.Test.YtacacoklddogmaaGreatDoorKJAP
import Derived.Deep.RegionHeld3
namespace Go.Proofs.YtacacoklddogmaaGreatDoor
set_option maxHeartbeats 4000000
open Go.ChangeShapes Go.WideShapes Go.ChangeAt Go.RowKit Go.Joins Go.Deep
set_option maxRecDepth 100000
theorem m83_{P:Prop}(h:P:=by
 rw [←hV];have HR3:=h_ (HR2.o.note' hV);obtain⟨S,hS⟩:=q2_ (wa.heap.size);rw [←hS]at HR3;rw [←hS];clear hV hS;refine(HPY.o _ HR3.o.ey (HR3.o.opyi HSY.o)).mono ?_;rintro e wb ⟨rfl,hb⟩;have HR4:=h_ (HR3.o.la hb);clear hb;obtain⟨s0,s1,s2,_,_,_,sz⟩:=b_ HR4.o.k0;exact k83_.o _):P:=h
theorem m106_{P:Prop}(h:P:=by
 go_wp2_with fail
 obtain⟨VT,hV⟩:=q2_ (wb.alloc (.cells #[.int .i64 2,.int .i64 0,.string (runesBytes Z)] 73));have k163_:K_ (∀(P:Prop) (h:P:=by
 refine(HSZ.o _).mono ?_;rintro e w6 ⟨rfl,hb⟩;have HR6:=h_ (HR5.o.la hb);clear hb;obtain⟨s0,s1,s2,_,_,_,sz⟩:=b_ HR6.o.k0;go_wp2_with fail
 refine(kf_ _ _ P Ap cp Z.length rs HR6.o.bp (by have:=HLR.o;omega)).mono ?_;rintro e w7 ⟨rfl,hto⟩;obtain⟨A7,c7,hr⟩:=HR6.o.p hto;have HR7:=h_ hr;clear hto hr;clear s0 s1 s2 sz;obtain⟨s0,s1,s2,_,_,_,sz⟩:=b_ HR7.o.k0;go_wp2_with fail
 refine(ng_ _ _ Q Aq cq (runesBytes Z) qs HR7.o.bq HZS.o (by have:=HLQ.o;omega) HTQ.o).mono ?_;rintro e w8 ⟨rfl,hto⟩;obtain⟨A8,c8,hr⟩:=HR7.o.q hto;have HR8:=h_ hr;clear hto hr;clear s0 s1 s2 sz;obtain⟨s0,s1,s2,_,_,_,sz⟩:=b_ HR8.o.k0;go_wp2_with fail
 refine(HSZ.o _).mono ?_;rintro e w9 ⟨rfl,hb⟩;have HR9:=h_ (HR8.o.la hb);clear hb;clear s0 s1 s2 sz;go_wp2_with fail
 refine(HPASS.o _ HR9.o.ey (HR9.o.opyi HSY.o)).mono ?_;rintro e w10 ⟨rfl,hwk,ho⟩;have HR10:=h_ (HR9.o.goY hwk ho);clear hwk ho;go_wp2_with fail
 exact k106_.o _
 ),P):=⟨@q6_⟩
 exact m163_):P:=h
theorem m146_{P:Prop}(h:P:=by
 go_wp2_with fail
 refine(HPX.o _ HR1.o.ex (HR1.o.opxi HSX.o)).mono ?_;rintro e wa ⟨rfl,hb⟩;have HR2:=h_ (HR1.o.la hb);clear hb;go_wp2_with fail
 exact k146_.o _):P:=h
theorem m163_{P:Prop}(h:P:=by
 rw [←hV];have HR5:=h_ (HR4.o.note' hV);obtain⟨T,hS⟩:=q2_ (wb.heap.size);rw [←hS]at HR5;rw [←hS];clear hV hS;clear s0 s1 s2 sz;exact k163_.o _):P:=h
theorem m174_{P:Prop}(h:P:=by
 have hszl:=(cz_ Z).2;have HZS:=h_ (show(runesBytes Z).size≤4611686018427387903 by omega);have HSZ:=h_ (fun(W:World)=>show Calls Tryz.prog 126 #[partV 2 0 (runesBytes Z)] W (R_ W (.int .i64 Z.length)) by
  have h5:=gh_ 0 (runesBytes Z) W (by omega);rwa [←bo_,gp_ Z hsc]at h5)
 clear hszl;exact k174_.o _):P:=h
theorem m236_{P:Prop}(h:P:=by
 have HR6:=h_ hr;clear hto hr;go_wp2_with fail
 refine(HPA.o _ HR6.o.ex (HR6.o.opxi HSX.o)).mono ?_;rintro e w7 ⟨rfl,hwk,ho⟩;have HR7:=h_ (HR6.o.goX hwk ho);clear hwk ho;go_wp2_with fail
 refine(HPB.o _ HR7.o.ey (HR7.o.opyi HSY.o)).mono ?_;rintro e w8 ⟨rfl,hwk,ho⟩;have HR8:=h_ (HR7.o.goY hwk ho);clear hwk ho;go_wp2_with fail
 exact k236_.o _):P:=h
theorem m272_{P:Prop}(h:P:=by
 have:=HMS.o;simp only [List.length_append,List.length_replicate];omega):P:=h
section
variable {H:Type}{enc:TypeId × Value→H}{w:World}{m:Nat}
structure FrameV.Fit (f:FrameV):Prop where
 op:f.o.Fit
 text:f.s.size≤1048576
theorem FrameV.Fit.small{f:FrameV}(h:f.Fit):f.Small:=⟨h.op.small,h.text⟩
theorem lx_{v:Value}{y:DataW H × List MemPlace}(h:DataW.trod enc Tryz.prog w 0 (fun _=>true) true m 56 [v]=some y)(hb:Rows.uptoBulk y.1≤1048576):
 ∃(A:OA_) (c:Nat) (L:List FrameV),v= .slice A L.length c∧L.length≤c∧c≤9223372036854775807∧FramesIn w A L∧L.length≤1048576∧ ∀f∈L,f.Fit:=by
 obtain⟨A,c,L,hv,h1,h2,hrow,hl,hq⟩:=km_ FrameV.cells 5 FrameV.cells_len (by decide) (fun f=>OpIn (· <w.heap.size) w f.o.A f.o.ps∧f.Fit) Tryz.underlying56 (by kernel_rfl) (fun m cs y h hb=>by
  obtain⟨k,hd,ep,A,c,ps,s,rfl,_,_,_,⟨g1,g2,g3,g4,g5⟩,g6⟩:=pb_ h hb;exact⟨⟨k,hd,ep,⟨A,c,ps⟩,s⟩,rfl,g3,⟨⟨g4,g5,g1,g2⟩,g6⟩⟩) h hb
 exact⟨A,c,L,hv,h1,h2,⟨hrow,fun f hf=>(hq f hf).1⟩,Nat.le_trans hl hb,fun f hf=>(hq f hf).2⟩
structure LinkV.Fit (l:LinkV):Prop where
 sl:l.s.length≤1048576
 ql:l.q.length≤1048576
 s: ∀f∈l.s,f.Fit
 q: ∀f∈l.q,f.Fit
 sc:l.s.length≤l.sc∧l.sc≤9223372036854775807
 qc:l.q.length≤l.qc∧l.qc≤9223372036854775807
theorem LinkV.Fit.small{l:LinkV}(h:l.Fit):l.Small:=⟨h.sl,h.ql,fun f hf=>(h.s f hf).small,fun f hf=>(h.q f hf).small⟩
theorem bcu_{cs:List Value}{y:DataW H × List MemPlace}(h:DataW.trod enc Tryz.prog w 0 (fun _=>true) true m 58 cs=some y)(hb:Rows.uptoBulk y.1≤1048576):
 ∃l:LinkV,cs= [.int .i64 l.e,.int .i64 l.n,.slice l.sA l.s.length l.sc,.slice l.qA l.q.length l.qc,.int .i64 l.h]∧l.In w∧l.Fit:=by
 obtain⟨ys,n,hx,_,hl,hf⟩:=fb_ Tryz.underlying58 (by kernel_rfl) (by kernel_rfl) h;have k192_:K_ (∀(P:Prop) (h:P:=by
 obtain⟨e,rfl,_⟩:=cj_ Tryz.underlying3 ht0;obtain⟨n,rfl,_⟩:=cj_ Tryz.underlying3 ht1;obtain⟨sA,sc,s,rfl,s1,s2,s3,s4,s5⟩:=lx_ ht2 (cg_ hx hb hy2);obtain⟨qA,qc,q,rfl,q1,q2,q3,q4,q5⟩:=lx_ ht3 (cg_ hx hb hy3);obtain⟨hd,rfl,_⟩:=cj_ Tryz.underlying3 ht4;exact⟨⟨e,n,sA,sc,s,qA,qc,q,hd⟩,rfl,⟨s3,q3⟩,⟨s4,q4,s5,q5,⟨s1,s2⟩,⟨q1,q2⟩⟩⟩
 ),P):=⟨@q6_⟩
 exact m192_
end
section
variable {α:Type}{l:List α}
include α l
theorem list4N(h:l.length=4): ∃a b c d,l= [a,b,c,d]:=by
 match l,h with
 | [a,b,c,d],_=>exact⟨a,b,c,d,rfl⟩
theorem list8N(h:l.length=8): ∃a b c d e f g i,l= [a,b,c,d,e,f,g,i]:=by
 match l,h with
 | [a,b,c,d,e,f,g,i],_=>exact⟨a,b,c,d,e,f,g,i,rfl⟩
theorem list10N(h:l.length=10): ∃a b c d e f g i j k,l= [a,b,c,d,e,f,g,i,j,k]:=by
 match l,h with
 | [a,b,c,d,e,f,g,i,j,k],_=>exact⟨a,b,c,d,e,f,g,i,j,k,rfl⟩
end
structure SideV.Fit (x:SideV):Prop where
 len:x.L.length≤1048576
 ops: ∀o∈x.L,o.Fit
 link:x.k.Fit
 cap:x.L.length≤x.c∧x.c≤9223372036854775807
theorem SideV.Fit.small{x:SideV}(h:x.Fit):x.Small:=⟨h.len,fun o ho=>(h.ops o ho).small,h.link.small⟩
structure NodeV.Fit (n:NodeV):Prop where
 text:n.t.size≤1048576
 sl:n.S.length≤1048576
 sides: ∀x∈n.S,x.Fit
 ul:n.U.length≤1048576
 undo: ∀o∈n.U,o.Fit
 ml:n.M.length≤1048576
 sc:n.S.length≤n.sc∧n.sc≤9223372036854775807
 uc:n.U.length≤n.uc∧n.uc≤9223372036854775807
 mc:n.M.length≤n.mc∧n.mc≤9223372036854775807
theorem NodeV.Fit.small{n:NodeV}(h:n.Fit):n.Small:=⟨h.text,h.sl,fun x hx=>(h.sides x hx).small,h.ul,fun o ho=>(h.undo o ho).small,h.ml⟩
section
variable {H:Type}{enc:TypeId × Value→H}{w:World}{m:Nat}
section
variable {cs:List Value}{y:DataW H × List MemPlace}
include cs y
theorem bcv_(h:DataW.trod enc Tryz.prog w 0 (fun _=>true) true m 53 cs=some y): ∃q:Int × Int,cs=markCells q:=by
 obtain⟨zs,n2,_,_,hl2,hf2⟩:=fb_ Tryz.underlying53 (by kernel_rfl) (by kernel_rfl) h;obtain⟨z0,z1,rfl⟩:=list2 hl2;obtain⟨_,y0,hc0,hz0,ht0⟩:=hf2 0 _ rfl;obtain⟨_,y1,hc1,hz1,ht1⟩:=hf2 1 _ rfl;obtain rfl:=Option.some.inj hc0;obtain rfl:=Option.some.inj hc1;obtain⟨an,rfl,_⟩:=cj_ Tryz.underlying3 ht0;obtain⟨hd,rfl,_⟩:=cj_ Tryz.underlying3 ht1;exact⟨(an,hd),rfl⟩
theorem bcx_(h:DataW.trod enc Tryz.prog w 0 (fun _=>true) true m 60 cs=some y)(hb:Rows.uptoBulk y.1≤1048576):
 ∃x:SideV,cs=x.cells∧x.In w∧x.Fit:=by
 obtain⟨ys,n,_,hy,hlen,hyl,hf⟩:=DataW.trod_struct Tryz.underlying60 h;rw [show Tryz.prog.cellsOf 60=10 by kernel_rfl]at hlen;obtain⟨c0,c1,c2,c3,c4,c5,c6,c7,c8,c9,rfl⟩:=list10N hlen;obtain⟨y0,y1,y2,y3,rfl⟩:=list4N hyl;have h0:DataW.trod enc Tryz.prog w 0 (fun _=>true) true n 3 ((List.drop 0 [c0,c1,c2,c3,c4,c5,c6,c7,c8,c9]).take (Tryz.prog.cellsOf 3))=some y0:=hf 0 _ rfl;have h1:DataW.trod enc Tryz.prog w 0 (fun _=>true) true n 4 ((List.drop 1 [c0,c1,c2,c3,c4,c5,c6,c7,c8,c9]).take (Tryz.prog.cellsOf 4))=some y1:=hf 1 _ rfl;have h2:DataW.trod enc Tryz.prog w 0 (fun _=>true) true n 55 ((List.drop 2 [c0,c1,c2,c3,c4,c5,c6,c7,c8,c9]).take (Tryz.prog.cellsOf 55))=some y2:=hf 2 _ rfl;have h3:DataW.trod enc Tryz.prog w 0 (fun _=>true) true n 58 ((List.drop 5 [c0,c1,c2,c3,c4,c5,c6,c7,c8,c9]).take (Tryz.prog.cellsOf 58))=some y3:=hf 3 _ rfl;rw [show Tryz.prog.cellsOf 3=1 by kernel_rfl]at h0;rw [show Tryz.prog.cellsOf 4=1 by kernel_rfl]at h1;rw [show Tryz.prog.cellsOf 55=3 by kernel_rfl]at h2;rw [show Tryz.prog.cellsOf 58=5 by kernel_rfl]at h3;have h0':DataW.trod enc Tryz.prog w 0 (fun _=>true) true n 3 [c0]=some y0:=h0;have h1':DataW.trod enc Tryz.prog w 0 (fun _=>true) true n 4 [c1]=some y1:=h1;have h2':DataW.trod enc Tryz.prog w 0 (fun _=>true) true n 55 [c2,c3,c4]=some y2:=h2;have h3':DataW.trod enc Tryz.prog w 0 (fun _=>true) true n 58 [c5,c6,c7,c8,c9]=some y3:=h3;have hb2:Rows.uptoBulk y2.1≤1048576:=by
  rw [hy]at hb;exact cg_ (ys:= [y0,y1,y2,y3]) rfl hb (j:=2) rfl
 have hb3:Rows.uptoBulk y3.1≤1048576:=by
  rw [hy]at hb;exact cg_ (ys:= [y0,y1,y2,y3]) rfl hb (j:=3) rfl
 obtain⟨p,rfl,_⟩:=cj_ Tryz.underlying3 h0';obtain⟨j,e1,_⟩:=DataW.trod_bool Tryz.underlying4 h1';have e1':c1= .bool j:=by simpa using e1
 subst e1';obtain⟨s,hd,A,c,L,hcs,_,_,g1,g2,g3,g4,g5⟩:=bct_ h2' hb2;obtain⟨k,hcs2,g6,g7⟩:=bcu_ h3' hb3;refine⟨⟨p,j,s,hd,A,c,L,k⟩,?_,⟨g3,g6⟩,⟨g4,g5,g7,g1,g2⟩⟩;have e: [Value.int .i64 p,.bool j]++ [c2,c3,c4]++ [c5,c6,c7,c8,c9]= [Value.int .i64 p,.bool j]++ [.int .i64 s,.int .i64 hd,.slice A L.length c]++ [.int .i64 k.e,.int .i64 k.n,.slice k.sA k.s.length k.sc,.slice k.qA k.q.length k.qc,.int .i64 k.h]:=by rw [hcs,hcs2]
 exact e
theorem bcw_(h:DataW.trod enc Tryz.prog w 0 (fun _=>true) true m 28 cs=some y)(hb:Rows.uptoBulk y.1≤1048576):
 ∃n:NodeV,cs= [.int .i64 n.me,.int .i64 n.ep,.int .i64 n.up,.bool n.rd,.string n.t,.slice n.sA n.S.length n.sc,.slice n.uA n.U.length n.uc,.slice n.mA n.M.length n.mc]∧n.In w∧n.Fit:=by
 obtain⟨ys,n,hx,_,hl,hf⟩:=fb_ Tryz.underlying28 (by kernel_rfl) (by kernel_rfl) h;obtain⟨v0,v1,v2,v3,v4,v5,v6,v7,rfl⟩:=list8N hl;obtain⟨_,y0,hc0,hy0,ht0⟩:=hf 0 _ rfl;obtain⟨_,y1,hc1,hy1,ht1⟩:=hf 1 _ rfl;obtain⟨_,y2,hc2,hy2,ht2⟩:=hf 2 _ rfl;obtain⟨_,y3,hc3,hy3,ht3⟩:=hf 3 _ rfl;obtain⟨_,y4,hc4,hy4,ht4⟩:=hf 4 _ rfl;obtain⟨_,y5,hc5,hy5,ht5⟩:=hf 5 _ rfl;obtain⟨_,y6,hc6,hy6,ht6⟩:=hf 6 _ rfl;obtain⟨_,y7,hc7,hy7,ht7⟩:=hf 7 _ rfl;obtain rfl:=Option.some.inj hc0;obtain rfl:=Option.some.inj hc1;obtain rfl:=Option.some.inj hc2;obtain rfl:=Option.some.inj hc3;obtain rfl:=Option.some.inj hc4;obtain rfl:=Option.some.inj hc5;obtain rfl:=Option.some.inj hc6;obtain rfl:=Option.some.inj hc7;obtain⟨me,rfl,_⟩:=cj_ Tryz.underlying3 ht0;obtain⟨ep,rfl,_⟩:=cj_ Tryz.underlying3 ht1;obtain⟨up,rfl,_⟩:=cj_ Tryz.underlying3 ht2;obtain⟨rd,e3,_⟩:=DataW.trod_bool Tryz.underlying4 ht3;have e3':v3= .bool rd:=by simpa using e3
 subst e3';obtain⟨t,rfl,q4⟩:=se_ Tryz.underlying9 ht4 (cg_ hx hb hy4);obtain⟨sA,sc,S,rfl,s1,s2,s3,s4,s5⟩:=km_ SideV.cells 10 SideV.cells_len (by decide) (fun x=>x.In w∧x.Fit) Tryz.underlying24 (by kernel_rfl) (fun m cs y h hb=>bcx_ h hb) ht5 (cg_ hx hb hy5);obtain⟨uA,uc,U,rfl,u1,u2,u3,u4,u5⟩:=vr_ Tryz.underlying25 ht6 (cg_ hx hb hy6);obtain⟨mA,mc,M,rfl,m1,m2,m3,m4,_⟩:=km_ markCells 2 bp_ (by decide) (fun _=>True) Tryz.underlying26 (by kernel_rfl) (fun m cs y h _=>by obtain⟨q,hq⟩:=bcv_ h;exact⟨q,hq,trivial⟩) ht7 (cg_ hx hb hy7);exact⟨⟨me,ep,up,rd,t,sA,sc,S,uA,uc,U,mA,mc,M⟩,rfl,⟨⟨s3,fun x hx=>(s5 x hx).1⟩,u3,m3⟩,⟨q4,Nat.le_trans s4 (cg_ hx hb hy5),fun x hx=>(s5 x hx).2,u4,u5,Nat.le_trans m4 (cg_ hx hb hy7),⟨s1,s2⟩,⟨u1,u2⟩,⟨m1,m2⟩⟩⟩
end
end
end Go.Proofs.YtacacoklddogmaaGreatDoor
namespace Go.Proofs.YtacacoklddogmaaGreatDoor
set_option maxHeartbeats 4000000
open Go.ChangeShapes Go.WideShapes Go.ChangeAt Go.RowKit
set_option maxRecDepth 100000
section
variable(w:World) (s h:Int) (A:OA_) (c:Nat) (L:List OpV) (hT:Tabs w) (hs:OpsIn w A L) (hm: ∀o∈L,o.Small) (hll:L.length≤1048576) (B:OA_) (cc:Nat) (ps:LP_) (hop:OpIn (· <w.heap.size) w B ps) (hpl:ps.length≤1048576) (htt: ∀p∈ps,p.text.size≤1048576)
include w s h A c L hT hs hm hll B cc ps hop hpl htt
theorem bbn_:
 Calls Tryz.prog 101 #[edgeV s h A L.length c,.slice B ps.length cc] w (RetSent w s h L ps (sendErr s h L ps)):=by
 have HC:=h_ (fun W hT hs hm=>ij_ W s h A c L hT hs hm);have HF:=h_ (fun W hT hs=>bt_ W B cc ps hT hs hpl htt);have HL:=h_ (fun W hs=>cs_ W B cc ps hs hpl htt);have HO:=h_ (fun W hs=>own_c W s h A c L hs hll hm);have HD:=h_ (fun W hs=>dj_ W B cc ps hs hpl);unfold sendErr;by_cases h1:edgeMay s h L
 ·rw [if_neg (not_not_intro h1)];rw [show edgeErr s h L=0 from if_pos h1]at HC;by_cases h2:opFault ps=0
  ·rw [if_neg (not_not_intro h2)];rw [h2]at HF;have hs0:0≤s∧s≤1048576:=h1.1.1;unfold badLast;rcases hlast:L.getLast? with _ | ⟨qA,qc,qp⟩
   ·have hl0:L.length=0:=(by rw [List.getLast?_eq_none_iff.1 hlast];rfl);rw [if_neg (by simp)];by_cases h4:s=1048576
    ·rw [if_pos h4];exact wz_ w s h A c L hT hs hm B cc ps hop hl0 (by simpa using h4) (by simp;omega) HC HF
    ·rw [if_neg h4];exact bbg_ w s h A c L hT hs hm B cc ps hop hl0 hll hs0.1 (by omega) (by simpa using h4) (by simp;omega) HC HF HO HD
   ·have hmem:(⟨qA,qc,qp⟩:OpV)∈L:=List.mem_of_getLast? hlast;have hsm:=hm _ hmem;have HQ:=h_ (fun W hs=>cs_ W qA qc qp hs hsm.len hsm.text);dsimp only;by_cases h3:(lens ps).1=(lens qp).2
    ·rw [if_neg (by simpa using h3)];rw [←h3]at HQ;by_cases h4:s=1048576
     ·rw [if_pos h4];exact zf_ w s h A c L hT hs hm B cc ps hop qA qc qp hlast _ _ _ hll (by simpa using h4) (by simp;omega) HC HF HL HQ
     ·rw [if_neg h4];exact bec_ w s h A c L hT hs hm B cc ps hop qA qc qp hlast _ _ _ hll hs0.1 (by omega) (by simpa using h4) (by simp;omega) HC HF HL HQ HO HD
    ·rw [if_pos (by simpa using h3)];exact xa_ w s h A c L hT hs hm B cc ps hop qA qc qp hlast _ _ _ _ (by simpa using h3) hll HC HF HL HQ
  ·rw [if_pos h2];exact wy_ w s h A c L hT hs hm B cc ps hop _ (by simpa using h2) HC HF
 ·rw [if_pos h1];rw [show edgeErr s h L=9 from if_neg h1]at HC;exact xb_ w s h A c L hT hs hm B cc ps HC
theorem un_:
 Calls Tryz.prog 109 #[edgeV s h A L.length c,.slice B ps.length cc] w (RetSent w s h L ps (sendErr s h L ps)):=by
 have HC:=h_ (fun W hT hs hm=>jx_ W s h A c L hT hs hm);have HF:=h_ (fun W hT hs=>bk_ W B cc ps hT hs hpl htt);have HL:=h_ (fun W hs=>bq_ W B cc ps hs hpl htt);have HO:=h_ (fun W hs=>jb_ W s h A c L hs hll hm);have HD:=h_ (fun W hs=>eb_ W B cc ps hs hpl);unfold sendErr;by_cases h1:edgeMay s h L
 ·rw [if_neg (not_not_intro h1)];rw [show edgeB s h L=true from decide_eq_true h1]at HC;by_cases h2:opFault ps=0
  ·rw [if_neg (not_not_intro h2)];rw [h2]at HF;have hs0:0≤s∧s≤1048576:=h1.1.1;unfold badLast;rcases hlast:L.getLast? with _ | ⟨qA,qc,qp⟩
   ·have hl0:L.length=0:=(by rw [List.getLast?_eq_none_iff.1 hlast];rfl);rw [if_neg (by simp)];by_cases h4:s=1048576
    ·rw [if_pos h4];exact up_ w s h A c L hT hs hm B cc ps hop hl0 (by simpa using h4) (by simp;omega) HC HF
    ·rw [if_neg h4];exact zs_ w s h A c L hT hs hm B cc ps hop hl0 hll hs0.1 (by omega) (by simpa using h4) (by simp;omega) HC HF HO HD
   ·have hmem:(⟨qA,qc,qp⟩:OpV)∈L:=List.mem_of_getLast? hlast;have hsm:=hm _ hmem;have HQ:=h_ (fun W hs=>bq_ W qA qc qp hs hsm.len hsm.text);dsimp only;by_cases h3:(lens ps).1=(lens qp).2
    ·rw [if_neg (by simpa using h3)];rw [←h3]at HQ;by_cases h4:s=1048576
     ·rw [if_pos h4];exact xd_ w s h A c L hT hs hm B cc ps hop qA qc qp hlast _ _ _ hll (by simpa using h4) (by simp;omega) HC HF HL HQ
     ·rw [if_neg h4];exact bbp_ w s h A c L hT hs hm B cc ps hop qA qc qp hlast _ _ _ hll hs0.1 (by omega) (by simpa using h4) (by simp;omega) HC HF HL HQ HO HD
    ·rw [if_pos (by simpa using h3)];exact uq_ w s h A c L hT hs hm B cc ps hop qA qc qp hlast _ _ _ _ (by simpa using h3) hll HC HF HL HQ
  ·rw [if_pos h2];exact uo_ w s h A c L hT hs hm B cc ps hop _ (by simpa using h2) HC HF
 ·rw [if_pos h1];rw [show edgeB s h L=false from decide_eq_false h1]at HC;exact ur_ w s h A c L hT hs hm B cc ps HC
end
theorem vw_{w w':World}{base:Nat}{e:TypeId}{size:Nat}{v:Value}{n:Nat}{xs:List Value}(h:w.ownsRow base e size v n xs)(hb: ∀g,v.ownBlock=some g→w'.heap[g]?=w.heap[g]?):w'.ownsRow base e size v n xs:=by
 refine⟨h.1,?_⟩;rcases h.2 with h0 | ⟨g,cap,cur,h1,h2,h3,h4⟩
 ·exact .inl h0
 ·subst h1;exact .inr ⟨g,cap,cur,rfl,h2,(hb g rfl).trans h3,h4⟩
theorem Bld.stay{w w':World}{base B:Nat}{A:Option Addr}{c:Nat}{rs:List PartD}(h:Bld w base B A c rs)(hB:w'.heap[B]?=w.heap[B]?)(hb: ∀g,(Value.slice A rs.length c).ownBlock=some g→w'.heap[g]?=w.heap[g]?):Bld w' base B A c rs:=
 ⟨h.lo,hB.trans h.obj,vw_ h.row hb,h.apart⟩
section
variable {w0 w w':World}{X Y P Q:Nat}{A B:Option Addr}{c d:Nat}{x y:List PartD}{xs ys:List (Int × Int)}{Ap Aq:Option Addr}{cp cq:Nat}{rs qs:List PartD}{K:List (Nat × Obj)}{ox oy:Option Obj}
structure Tr (w0 w:World) (X Y P Q:Nat) (A:OA_) (c:Nat) (x:LP_) (B:OA_) (d:Nat) (y:LP_) (xs ys:List (Int × Int)) (Ap:OA_) (cp:Nat) (rs:LP_) (Aq:OA_) (cq:Nat) (qs:LP_) (K:List (Nat × Obj)) (ox oy:Option Obj):Prop where
 ex:w.heap[X]?=ox
 ey:w.heap[Y]?=oy
 wx:Wk w X A c x xs
 wy:Wk w Y B d y ys
 bp:Bld w w0.heap.size P Ap cp rs
 bq:Bld w w0.heap.size Q Aq cq qs
 ne:(w0.heap.size≤X∧X<Y)∧Y<P∧P<Q
 ap: ∀g,(Value.slice Ap rs.length cp).ownBlock=some g→Q<g
 aq: ∀g,(Value.slice Aq qs.length cq).ownBlock=some g→Q<g
 apq:Apart2 (Value.slice Ap rs.length cp).ownBlock (Value.slice Aq qs.length cq).ownBlock
 b:Below w0.heap.size w0 w
 k: ∀e∈K,w.heap[e.1]?=some e.2∧Q<e.1∧(Value.slice Ap rs.length cp).ownBlock≠some e.1∧(Value.slice Aq qs.length cq).ownBlock≠some e.1
section
variable(h:Tr w0 w X Y P Q A c x B d y xs ys Ap cp rs Aq cq qs K ox oy)
include h
theorem Tr.la(hb:Below w.heap.size w w'):Tr w0 w' X Y P Q A c x B d y xs ys Ap cp rs Aq cq qs K ox oy:=
 ⟨(hb.block _ h.wx.lt).trans h.ex,(hb.block _ h.wy.lt).trans h.ey,h.wx.kept (hb.block _ h.wx.lt),h.wy.kept (hb.block _ h.wy.lt),h.bp.la hb,h.bq.la hb,h.ne,h.ap,h.aq,h.apq,bThen h.b hb,fun e he=>⟨(hb.block _ (Array.getElem?_eq_some_iff.1 (h.k e he).1).1).trans (h.k e he).1,(h.k e he).2⟩⟩
theorem Tr.note(o:Obj):Tr w0 (w.alloc o) X Y P Q A c x B d y xs ys Ap cp rs Aq cq qs ((w.heap.size,o) :: K) ox oy:=by
 have h1:=h.la (bAlloc (Below.refl _ _) o);refine⟨h1.ex,h1.ey,h1.wx,h1.wy,h1.bp,h1.bq,h1.ne,h1.ap,h1.aq,h1.apq,h1.b,fun e he=>?_⟩;rcases List.mem_cons.1 he with rfl | he
 ·exact⟨heap_alloc_new _ _,h.bq.lt,fun e=>by have:=(h.bp.lay _ e).2;omega,fun e=>by have:=(h.bq.lay _ e).2;omega⟩
 ·exact h1.k e he
theorem Tr.drop:Tr w0 w X Y P Q A c x B d y xs ys Ap cp rs Aq cq qs [] ox oy:=
 ⟨h.ex,h.ey,h.wx,h.wy,h.bp,h.bq,h.ne,h.ap,h.aq,h.apq,h.b,fun e he=>by cases he⟩
end
theorem Tr.p{rs':List PartD}(h:Tr w0 w X Y P Q A c x B d y xs ys Ap cp rs Aq cq qs K ox oy)(hto:BldTo w w0.heap.size P Ap rs.length cp rs' w'): ∃A' c',Tr w0 w' X Y P Q A c x B d y xs ys A' c' rs' Aq cq qs K ox oy:=by
 obtain⟨A',c',hb,ht,hr⟩:=hto;obtain⟨⟨n0,n1⟩,n2,n3⟩:=h.ne;have hQ:=h.bq.lt;have st: ∀k,k<w.heap.size→k≠P→(Value.slice Ap rs.length cp).ownBlock≠some k→w'.heap[k]?=w.heap[k]?:=fun k h1 h2 h3=>ht.block k h1 h2 (fun e=>h3 e.symm);have hrow: ∀g,(Value.slice A' rs'.length c').ownBlock=some g→Q<g:=fun g hg=>by
  rcases hr with e | e
  ·exact h.ap g (e.symm.trans hg)
  ·have:=e g hg;omega
 refine⟨A',c',(st X h.wx.lt (by omega) fun e=>by have:=h.ap _ e;omega).trans h.ex,(st Y h.wy.lt (by omega) fun e=>by have:=h.ap _ e;omega).trans h.ey,h.wx.kept (st X h.wx.lt (by omega) fun e=>by have:=h.ap _ e;omega),h.wy.kept (st Y h.wy.lt (by omega) fun e=>by have:=h.ap _ e;omega),hb,h.bq.stay (st Q h.bq.lt (by omega) fun e=>by have:=h.ap _ e;omega) fun g hg=>?_,h.ne,hrow,h.aq,?_,bOver h.b (ht.below (by omega) (fun g hg=>(h.bp.lay g hg).1) h.b.size),fun e he=>?_⟩
 ·refine st g (h.bq.lay g hg).2 (by have:=h.aq g hg;omega) ?_;rcases h.apq with q | q | q
  ·rw [q];simp
  ·rw [q]at hg;cases hg
  ·rw [←hg];exact q
 ·rcases hr with e | e
  ·rw [e];exact h.apq
  ·cases hq:(Value.slice Aq qs.length cq).ownBlock with
   | none=>exact .inr (.inl rfl)
   | some g=>
    refine .inr (.inr fun e2=>?_);have h1:=e g e2;have h2:=(h.bq.lay g hq).2;omega
 ·obtain⟨k1,k2,k3,k4⟩:=h.k e he;have hl:=(Array.getElem?_eq_some_iff.1 k1).1;refine⟨(st _ hl (by omega) k3).trans k1,k2,fun e2=>?_,k4⟩;rcases hr with q | q
  ·exact k3 (q.symm.trans e2)
  ·have:=q _ e2;omega
theorem Tr.q{qs':List PartD}(h:Tr w0 w X Y P Q A c x B d y xs ys Ap cp rs Aq cq qs K ox oy)(hto:BldTo w w0.heap.size Q Aq qs.length cq qs' w'): ∃A' c',Tr w0 w' X Y P Q A c x B d y xs ys Ap cp rs A' c' qs' K ox oy:=by
 obtain⟨A',c',hb,ht,hr⟩:=hto;obtain⟨⟨n0,n1⟩,n2,n3⟩:=h.ne;have hQ:=h.bq.lt;have st: ∀k,k<w.heap.size→k≠Q→(Value.slice Aq qs.length cq).ownBlock≠some k→w'.heap[k]?=w.heap[k]?:=fun k h1 h2 h3=>ht.block k h1 h2 (fun e=>h3 e.symm);have hrow: ∀g,(Value.slice A' qs'.length c').ownBlock=some g→Q<g:=fun g hg=>by
  rcases hr with e | e
  ·exact h.aq g (e.symm.trans hg)
  ·have:=e g hg;omega
 refine⟨A',c',(st X h.wx.lt (by omega) fun e=>by have:=h.aq _ e;omega).trans h.ex,(st Y h.wy.lt (by omega) fun e=>by have:=h.aq _ e;omega).trans h.ey,h.wx.kept (st X h.wx.lt (by omega) fun e=>by have:=h.aq _ e;omega),h.wy.kept (st Y h.wy.lt (by omega) fun e=>by have:=h.aq _ e;omega),h.bp.stay (st P h.bp.lt (by omega) fun e=>by have:=h.aq _ e;omega) fun g hg=>?_,hb,h.ne,h.ap,hrow,?_,bOver h.b (ht.below (by omega) (fun g hg=>(h.bq.lay g hg).1) h.b.size),fun e he=>?_⟩
 ·refine st g (h.bp.lay g hg).2 (by have:=h.ap g hg;omega) ?_;rcases h.apq with q | q | q
  ·rw [q]at hg;cases hg
  ·rw [q];simp
  ·rw [←hg];exact fun e=>q e.symm
 ·rcases hr with e | e
  ·rw [e];exact h.apq
  ·cases hq:(Value.slice Ap rs.length cp).ownBlock with
   | none=>exact .inl rfl
   | some g=>
    refine .inr (.inr fun e2=>?_);have h1:=e g e2.symm;have h2:=(h.bp.lay g hq).2;omega
 ·obtain⟨k1,k2,k3,k4⟩:=h.k e he;have hl:=(Array.getElem?_eq_some_iff.1 k1).1;refine⟨(st _ hl (by omega) k4).trans k1,k2,k3,fun e2=>?_⟩;rcases hr with q | q
  ·exact k4 (q.symm.trans e2)
  ·have:=q _ e2;omega
theorem Tr.goX{xs':List (Int × Int)}(h:Tr w0 w X Y P Q A c x B d y xs ys Ap cp rs Aq cq qs K ox oy)(hw:Wk w' X A c x xs')(ho:Only X w w'):Tr w0 w' X Y P Q A c x B d y xs' ys Ap cp rs Aq cq qs K (w'.heap[X]?) oy:=by
 obtain⟨⟨n0,n1⟩,n2,n3⟩:=h.ne;exact⟨rfl,(ho.block Y h.wy.lt (by omega)).trans h.ey,hw,h.wy.kept (ho.block Y h.wy.lt (by omega)),h.bp.stay (ho.block P h.bp.lt (by omega)) fun g hg=>ho.block g (h.bp.lay g hg).2 (by have:=h.ap g hg;omega),h.bq.stay (ho.block Q h.bq.lt (by omega)) fun g hg=>ho.block g (h.bq.lay g hg).2 (by have:=h.aq g hg;omega),
  h.ne,h.ap,h.aq,h.apq,bOver h.b (ho.below (by omega) h.b.size),fun e he=>⟨(ho.block _ (Array.getElem?_eq_some_iff.1 (h.k e he).1).1 (by have:=(h.k e he).2.1;omega)).trans (h.k e he).1,(h.k e he).2⟩⟩
theorem Tr.goY{ys':List (Int × Int)}(h:Tr w0 w X Y P Q A c x B d y xs ys Ap cp rs Aq cq qs K ox oy)(hw:Wk w' Y B d y ys')(ho:Only Y w w'):Tr w0 w' X Y P Q A c x B d y xs ys' Ap cp rs Aq cq qs K ox (w'.heap[Y]?):=by
 obtain⟨⟨n0,n1⟩,n2,n3⟩:=h.ne;exact⟨(ho.block X h.wx.lt (by omega)).trans h.ex,rfl,h.wx.kept (ho.block X h.wx.lt (by omega)),hw,h.bp.stay (ho.block P h.bp.lt (by omega)) fun g hg=>ho.block g (h.bp.lay g hg).2 (by have:=h.ap g hg;omega),h.bq.stay (ho.block Q h.bq.lt (by omega)) fun g hg=>ho.block g (h.bq.lay g hg).2 (by have:=h.aq g hg;omega),
  h.ne,h.ap,h.aq,h.apq,bOver h.b (ho.below (by omega) h.b.size),fun e he=>⟨(ho.block _ (Array.getElem?_eq_some_iff.1 (h.k e he).1).1 (by have:=(h.k e he).2.1;omega)).trans (h.k e he).1,(h.k e he).2⟩⟩
end
section
variable {w0 w:World}{X Y P Q:Nat}{A B:Option Addr}{c d:Nat}{x y:List PartD}{xs ys:List (Int × Int)}{Ap Aq:Option Addr}{cp cq:Nat}{rs qs:List PartD}
include w0 w X Y P Q A B c d x y xs ys Ap Aq cp cq rs qs
theorem Tr.k0{e:Nat × Obj}{K:List (Nat × Obj)}{ox oy:Option Obj}(h:Tr w0 w X Y P Q A c x B d y xs ys Ap cp rs Aq cq qs (e :: K) ox oy):w.heap[e.1]?=some e.2:=(h.k e (List.mem_cons.2 (.inl rfl))).1
theorem Tr.k1{e f:Nat × Obj}{K:List (Nat × Obj)}{ox oy:Option Obj}(h:Tr w0 w X Y P Q A c x B d y xs ys Ap cp rs Aq cq qs (f :: e :: K) ox oy):w.heap[e.1]?=some e.2:=(h.k e (List.mem_cons.2 (.inr (List.mem_cons.2 (.inl rfl))))).1
end
def cellN (w:World) (X j:Nat):Nat:=match w.cell? ⟨X,j,none⟩with
 | some (.int _ z)=>z.toNat
 | _=>0
def leftN (w:World) (X:Nat) (ps:LP_):Nat:=(remS ps (cellN w X 1) (cellN w X 2)).length
theorem Wk.left{w:World}{X:Nat}{A:Option Addr}{c:Nat}{ps:List PartD}{l:List (Int × Int)}(h:Wk w X A c ps l):leftN w X ps=l.length:=by
 obtain⟨k,m,h1,_,rfl⟩:=h;obtain⟨_,c1,c2,_⟩:=b_ h1;unfold leftN cellN;rw [c1,c2];simp
theorem ut_(w:World)(A B:OA_)(c d:Nat)(x y:LP_)(hT:Tabs w)(hx:OpIn (· <w.heap.size) w A x)(hy:OpIn (· <w.heap.size) w B y)(hxl:x.length≤1048576)(hyl:y.length≤1048576)(hxt: ∀p∈x,p.text.size≤1048576)(hyt: ∀p∈y,p.text.size≤1048576)(he:bothErr x y≠0):
 Calls Tryz.prog 139 #[.slice A x.length c,.slice B y.length d] w (RetTwo w [] [] (bothErr x y)):=by
 have HC:=h_ (bbw_ w A B c d x y hT hx hy hxl hyl hxt hyt);have hd:(bothErr x y !=0)=true:=by simpa using he
 generalize bothErr x y=z at*;clear he hT hx hy hxl hyl hxt hyt;go_enter Tryz.func139,Tryz.ntmps139
 go_wp2_with fail
 refine HC.o.mono ?_;rintro e w1 ⟨rfl,hb1⟩;go_wp2_with fail
 go_ret3
 exact⟨none,0,none,0,rfl,Sl.nil,Sl.nil,hb1⟩
def trC (x y:LP_):List (Int × Int):=(trS (stepsOf x) (stepsOf y)).1
def trD (x y:LP_):List (Int × Int):=(trS (stepsOf x) (stepsOf y)).2
def trE (x y:LP_):Int:=if bothErr x y≠0 then bothErr x y else fitsErr (grouped (trC x y)) (grouped (trD x y))
def trL (x y:LP_):List PartD:=if trE x y=0 then grouped (trC x y)else []
def trR (x y:LP_):List PartD:=if trE x y=0 then grouped (trD x y)else []
theorem ka_{x y:List PartD}(h:bothErr x y=0):opFault x=0∧opFault y=0∧(lens x).1=(lens y).1:=by
 unfold bothErr at h;by_cases h1:opFault x≠0
 ·rw [if_pos h1]at h;exact absurd h h1
 rw [if_neg h1]at h;by_cases h2:opFault y≠0
 ·rw [if_pos h2]at h;exact absurd h h2
 rw [if_neg h2]at h;by_cases h3:(lens x).1≠(lens y).1
 ·rw [if_pos h3]at h;cases h
 ·exact⟨Classical.not_not.1 h1,Classical.not_not.1 h2,Classical.not_not.1 h3⟩
theorem jf_(Z:List Int)(l:List (Int × Int)):fromS (insS Z++l)=fromS l:=by
 rw [hn_,show fromS (insS Z)=0 from rj_ Z];omega
theorem hf_{q:Int}(h:q≠2)(n:Nat)(l:List (Int × Int)):fromS (othS q n++l)=n+fromS l:=by
 rw [hn_,show fromS (othS q n)=n from rk_ q h n]
theorem vp_{q k:Int}(h:q≠k){n:Nat}(hn:0<n)(l:List (Int × Int)):Not1 k (othS q n++l):=by
 intro x r hx;obtain⟨m,rfl⟩: ∃m,n=m+1:=⟨n - 1,by omega⟩
 rw [show othS q (m+1)=(q,0) :: othS q m from rfl,List.cons_append]at hx;injection hx with a b
 rw [←a];exact h
theorem jk_(k:Int):Not1 k []:=by
 intro x r hx;cases hx
theorem vt_(q:Int){m n:Nat}(h:m≤n)(l:List (Int × Int)):othS q n++l=othS q m++(othS q (n - m)++l):=by
 rw [←List.append_assoc,show othS q m++othS q (n - m)=othS q n by simp only [othS];rw [List.replicate_append_replicate];congr 1;omega]
theorem Tr.note'{w0 w V:World}{X Y P Q:Nat}{A B:Option Addr}{c d:Nat}{x y:List PartD}{xs ys:List (Int × Int)}{Ap Aq:Option Addr}{cp cq:Nat}{rs qs:List PartD}{K:List (Nat × Obj)}{ox oy:Option Obj}{o:Obj}(h:Tr w0 w X Y P Q A c x B d y xs ys Ap cp rs Aq cq qs K ox oy)(hV:V=w.alloc o):Tr w0 V X Y P Q A c x B d y xs ys Ap cp rs Aq cq qs ((w.heap.size,o) :: K) ox oy:=by
 rw [hV];exact h.note o
section
variable {w0 w:World}{X Y P Q:Nat}{A B:Option Addr}{c d:Nat}{x y:List PartD}{xs ys:List (Int × Int)}{Ap Aq:Option Addr}{cp cq:Nat}{rs qs:List PartD}{K:List (Nat × Obj)}{ox oy:Option Obj}(h:Tr w0 w X Y P Q A c x B d y xs ys Ap cp rs Aq cq qs K ox oy)
include w0 w X Y P Q A B c d x y xs ys Ap Aq cp cq rs qs K ox oy h
theorem Tr.opxi(hs:OpIn (· <w0.heap.size) w0 A x):OpIn (· <w.heap.size) w A x:=Sl.la hs h.b
theorem Tr.opyi(hs:OpIn (· <w0.heap.size) w0 B y):OpIn (· <w.heap.size) w B y:=Sl.la hs h.b
theorem Tr.clean:Tr w0 w X Y P Q A c x B d y xs ys Ap cp rs Aq cq qs [] w.heap[X]? w.heap[Y]?:=by
 have h1:=h.drop;exact⟨rfl,rfl,h1.wx,h1.wy,h1.bp,h1.bq,h1.ne,h1.ap,h1.aq,h1.apq,h1.b,h1.k⟩
end
theorem us_(w:World)(A B:OA_)(c d:Nat)(x y:LP_)(hT:Tabs w)(hx:OpIn (· <w.heap.size) w A x)(hy:OpIn (· <w.heap.size) w B y)(hxl:x.length≤1048576)(hyl:y.length≤1048576)(hxt: ∀p∈x,p.text.size≤1048576)(hyt: ∀p∈y,p.text.size≤1048576)(he:bothErr x y=0):
 Calls Tryz.prog 139 #[.slice A x.length c,.slice B y.length d] w (RetTwo w (trL x y) (trR x y) (trE x y)):=by
 have HC:=h_ (bbw_ w A B c d x y hT hx hy hxl hyl hxt hyt);rw [he]at HC;obtain⟨hfx,hfy,hln⟩:=ka_ he;obtain⟨_,hokx,_,_⟩:=cr_ hfx;obtain⟨_,hoky,_,_⟩:=cr_ hfy;obtain⟨ex1,_,nx1,nx2⟩:=gc_ hfx;obtain⟨ey1,_,ny1,ny2⟩:=gc_ hfy;have hslx:=do_ hokx;have hsly:=do_ hoky;have htl:=kt_ (stepsOf x) (stepsOf y);have HCL:=h_ (show(trC x y).length≤16000 by unfold trC;omega);have HDL:=h_ (show(trD x y).length≤16000 by unfold trD;omega);have HF0:=h_ (show fromS (remS x 0 0)=fromS (remS y 0 0) by rw [et_,et_,eh_,eh_];omega);have HC0:=h_ (show []++(trS (remS x 0 0) (remS y 0 0)).1=trC x y by rw [et_,et_];rfl);have HD0:=h_ (show []++(trS (remS x 0 0) (remS y 0 0)).2=trD x y by rw [et_,et_];rfl);have hE:trE x y=fitsErr (grouped (trC x y)) (grouped (trD x y)):=if_neg (by simpa using he);have HL:=h_ (show trL x y=if trE x y=0 then grouped (trC x y)else []from rfl);have HR0:=h_ (show trR x y=if trE x y=0 then grouped (trD x y)else []from rfl);have HE:=h_ hE;have HVX:=h_ (fun(W:World) X l (h:Wk W X A c x l)=>h.view hokx hxl hxt);have HVY:=h_ (fun(W:World) X l (h:Wk W X B d y l)=>h.view hoky hyl hyt);have HWX:=h_ (WOk.start hokx);have HWY:=h_ (WOk.start hoky);have HT:=h_ hT;have HSX:=h_ hx;have HSY:=h_ hy;generalize trL x y=LL at*;generalize trR x y=LR at*;generalize trE x y=EE at*;generalize trC x y=CC at*;generalize trD x y=DD at*;clear he hT hx hy hxl hyl hxt hyt hfx hfy hln hokx hoky ex1 ey1 nx1 nx2 ny1 ny2 hslx hsly htl hE;go_enter Tryz.func139,Tryz.ntmps139
 go_wp2_with fail
 refine HC.o.mono ?_;rintro e w1 ⟨rfl,hb1⟩;have HB1:=h_ hb1;clear hb1 HC;go_wp2_with fail
 obtain⟨V1,hV1⟩:=q2_ (w1.alloc (.cells #[.slice A x.length c,.int .i64 0,.int .i64 0] 201));obtain⟨V2,hV2⟩:=q2_ (V1.alloc (.cells #[.slice B y.length d,.int .i64 0,.int .i64 0] 201));obtain⟨V3,hV3⟩:=q2_ (V2.alloc (.cells #[.slice none 0 0] 138));obtain⟨V4,hV4⟩:=q2_ (V3.alloc (.cells #[.slice none 0 0] 138));have g1:V1.heap.size=w1.heap.size+1:=by rw [hV1];simp
 have g2:V2.heap.size=V1.heap.size+1:=by rw [hV2];simp
 have g3:V3.heap.size=V2.heap.size+1:=by rw [hV3];simp
 have k2:Below V1.heap.size V1 V2:=by rw [hV2];exact bA_
 have k3:Below V2.heap.size V2 V3:=by rw [hV3];exact bA_
 have k4:Below V3.heap.size V3 V4:=by rw [hV4];exact bA_
 have k34:=bThen k3 k4;have k24:=bThen k2 k34;have k1:Below w1.heap.size w1 V1:=by rw [hV1];exact bA_
 have hXh:WalkAt V4 w1.heap.size A x.length c 0 0:=(k24.block _ (by omega)).trans (by rw [hV1];exact heap_alloc_new _ _);have hYh:WalkAt V4 V1.heap.size B y.length d 0 0:=(k34.block _ (by omega)).trans (by rw [hV2];exact heap_alloc_new _ _);have hPh:V4.heap[V2.heap.size]?=some (.cells #[.slice none 0 0] 138 (0,0)):=(k4.block _ (by omega)).trans (by rw [hV3];exact heap_alloc_new _ _);have hQh:V4.heap[V3.heap.size]?=some (.cells #[.slice none 0 0] 138 (0,0)):=by rw [hV4];exact heap_alloc_new _ _
 have HR0':=h_ (show Tr w1 V4 w1.heap.size V1.heap.size V2.heap.size V3.heap.size A c x B d y (remS x 0 0) (remS y 0 0) none 0 [] none 0 [] [] V4.heap[w1.heap.size]? V4.heap[V1.heap.size]? from
  ⟨rfl,rfl,⟨0,0,hXh,HWX.o,rfl⟩,⟨0,0,hYh,HWY.o,rfl⟩,⟨by omega,hPh,World.ownsRow_nil _ _ _ _,by simp [Value.ownBlock]⟩,⟨by omega,hQh,World.ownsRow_nil _ _ _ _,by simp [Value.ownBlock]⟩,by omega,fun g h=>by simp [Value.ownBlock]at h,fun g h=>by simp [Value.ownBlock]at h,.inl rfl,bThen k1 k24,fun e he=>by cases he⟩)
 have hW:(((w1.alloc (.cells #[.slice A x.length c,.int .i64 0,.int .i64 0] 201)).alloc (.cells #[.slice B y.length d,.int .i64 0,.int .i64 0] 201)).alloc (.cells #[.slice none 0 0] 138)).alloc (.cells #[.slice none 0 0] 138)=V4:=by rw [hV4,hV3,hV2,hV1]
 have HSX1:=h_ (Sl.la HSX.o HB1.o);have HSY1:=h_ (Sl.la HSY.o HB1.o);have hx1:w1.heap.size+1=V1.heap.size:=by omega
 have hx2:w1.heap.size+1+1=V2.heap.size:=by omega
 have hx3:w1.heap.size+1+1+1=V3.heap.size:=by omega
 rw [hW,hx3,hx2,hx1];obtain⟨X,hX⟩:=q2_ (w1.heap.size);obtain⟨Y,hY⟩:=q2_ (V1.heap.size);obtain⟨P,hP⟩:=q2_ (V2.heap.size);obtain⟨Q,hQ⟩:=q2_ (V3.heap.size);rw [←hX,←hY,←hP,←hQ]at HR0';rw [←hX,←hY,←hP,←hQ];clear hXh hYh hPh hQh k1 k2 k3 k4 k34 k24 g1 g2 g3 hV1 hV2 hV3 hV4 hx1 hx2 hx3 hX hY hP hQ hW HSX HSY HWX HWY;go_loopw [4,5,6] (fun r1 r2 r3 wr=> ∃(xs ys c' d':List (Int × Int)) (rs qs:LP_) (Ap:OA_) (cp:Nat) (Aq:OA_) (cq:Nat),r1= .slice none 0 0∧r2= .slice none 0 0∧r3= .int .i64 0∧Hid (Tr w1 wr X Y P Q A c x B d y xs ys Ap cp rs Aq cq qs [] wr.heap[X]? wr.heap[Y]?)∧Hid (Holds rs c')∧Hid (Holds qs d')∧Hid (c'++(trS xs ys).1=CC)∧Hid (d'++(trS xs ys).2=DD)∧Hid (fromS xs=fromS ys))
  (fun _ _ _ wr=>leftN wr X x+leftN wr Y y)
 case atStart=>exact⟨remS x 0 0,remS y 0 0,[],[],[],[],none,0,none,0,rfl,rfl,rfl,HR0',rr_,rr_,HC0,HD0,HF0⟩
 case round=>
  obtain⟨xs,ys,c',d',rs,qs,Ap,cp,Aq,cq,rfl,rfl,rfl,HR1,hP,hQ,hC,hD,hF⟩:=hrel;have HSX:=HSX1;have HSY:=HSY1;have HLR:=h_ (show rs.length≤16000 by have h1:=hP.o.len;have h2:=congrArg List.length hC.o;have h3:=HCL.o;rw [List.length_append]at h2;omega);have HLQ:=h_ (show qs.length≤16000 by have h1:=hQ.o.len;have h2:=congrArg List.length hD.o;have h3:=HDL.o;rw [List.length_append]at h2;omega);have HTR:=h_ (show∀p∈rs,p.text.size≤4611686018427387903 from fun p hp=>by have h1:=hP.o.text p hp;have h2:=congrArg List.length hC.o;have h3:=HCL.o;rw [List.length_append]at h2;omega);have HTQ:=h_ (show∀p∈qs,p.text.size≤4611686018427387903 from fun p hp=>by have h1:=hQ.o.text p hp;have h2:=congrArg List.length hD.o;have h3:=HDL.o;rw [List.length_append]at h2;omega);have HBC:=h_ (show c'.length≤16000 by have h2:=congrArg List.length hC.o;have h3:=HCL.o;rw [List.length_append]at h2;omega);have HBD:=h_ (show d'.length≤16000 by have h2:=congrArg List.length hD.o;have h3:=HDL.o;rw [List.length_append]at h2;omega);rcases HVX.o wr X xs HR1.o.wx with⟨rfl,hpx⟩ | ⟨Z,l,hZ,hsc,hZ4,rfl,hpx,hpass⟩ | ⟨q,n,l,hq,hn0,hn4,rfl,hpx,hpass⟩
  ·have HPX:=h_ hpx;rcases HVY.o wr Y ys HR1.o.wy with⟨rfl,hpy⟩ | ⟨Z,l,hZ,hsc,hZ4,rfl,hpy,hpass⟩ | ⟨q,n,l,hq,hn0,hn4,rfl,hpy,hpass⟩
   ·have HPY:=h_ hpy;have hcc:c'=CC:=(by have:=hC.o;simpa [trS]using this);have hdd:d'=DD:=(by have:=hD.o;simpa [trS]using this);have hrr:=hP.o.rev;have hqr:=hQ.o.rev;rw [hcc]at hrr;rw [hdd]at hqr;have hlr:(grouped CC).length=rs.length:=(by rw [←hrr,List.length_reverse]);have hlq:(grouped DD).length=qs.length:=(by rw [←hqr,List.length_reverse]);have hgt: ∀p∈grouped CC,p.text.size≤1048576:=fun p hp=>by have:=fr_ CC p hp;have:=HCL.o;omega
    have hht: ∀p∈grouped DD,p.text.size≤1048576:=fun p hp=>by have:=fr_ DD p hp;have:=HDL.o;omega
    have hfit:=fun(W:World) A' c' B' d' hT hx hy=>bhn_ W A' B' c' d' (grouped CC) (grouped DD) hT hx hy (by have:=HLR.o;omega) (by have:=HLQ.o;omega) hgt hht;rw [hlr,hlq]at hfit;have HFIT:=h_ hfit;have HSP:=h_ (fun(W:World) (h:Bld W w1.heap.size P Ap cp rs)=>show OpIn (fun b=>w1.heap.size≤b∧b<W.heap.size) W Ap (grouped CC) by
     have h1:=Sl.of_own W h.row;rw [hrr,←hlr]at h1;exact h1)
    have HSQ:=h_ (fun(W:World) (h:Bld W w1.heap.size Q Aq cq qs)=>show OpIn (fun b=>w1.heap.size≤b∧b<W.heap.size) W Aq (grouped DD) by
     have h1:=Sl.of_own W h.row;rw [hqr,←hlq]at h1;exact h1)
    clear hpx hpy hP hQ hC hD hF hfit hgt hht hcc hdd hrr hqr;by_cases hz:fitsErr (grouped CC) (grouped DD)=0
    ·have he0:EE=0:=HE.o.trans hz;have h1:=HL.o;have h2:=HR0.o;rw [if_pos he0]at h1 h2;have HLL:=h_ h1;have HLR2:=h_ h2;have HEE:=h_ he0;have HZ:=h_ hz;clear h1 h2 he0 hz HL HR0 HE;have k146_:K_ (∀(P:Prop) (h:P:=by
     obtain⟨VS,hV⟩:=q2_ (wa.alloc (.cells #[.int .i64 0,.int .i64 0,.string ⟨#[]⟩] 73));have k83_:K_ (∀(P:Prop) (h:P:=by
     have y1:=HR4.o.bp.cell;have y2:=HR4.o.bq.cell;have y3:=HR4.o.bp.lt;have y4:=HR4.o.bq.lt;go_wp2_with fail
     obtain⟨VT,hV⟩:=q2_ (wb.alloc (.cells #[.int .i64 0,.int .i64 0,.string ⟨#[]⟩] 73));have k163_:K_ (∀(P:Prop) (h:P:=by
     have y1:=HR5.o.bp.cell;have y2:=HR5.o.bq.cell;have y3:=HR5.o.bp.lt;have y4:=HR5.o.bq.lt;have HFW:=h_ (fun(W:World) (hb:Below VT.heap.size VT W)=>show Calls Tryz.prog 143 #[.slice Ap rs.length cp,.slice Aq qs.length cq] W (R_ W (.tuple #[.slice Ap rs.length cp,.slice Aq qs.length cq,.int .i64 0])) by
      have h2:=HR5.o.la hb;have h3:=HFIT.o W Ap cp Aq cq (HT.o.la (bThen HB1.o h2.b)) ((HSP.o _ h2.bp).keep (fun _ h=>h.2) (fun _ _=>rfl)) ((HSQ.o _ h2.bq).keep (fun _ h=>h.2) (fun _ _=>rfl));rw [HZ.o,vd_]at h3;exact h3)
     go_region_held3 (fun w'=>w'.cell? ⟨P,0,none⟩=some (.slice Ap rs.length cp)∧w'.cell? ⟨Q,0,none⟩=some (.slice Aq qs.length cq))
      (go_keep)
      ((first
        | (go_at_call 143;(with_reducible refine(HFW.o _ ?_).mono ?_);exact bz_;rintro r w8 ⟨rfl,hb8⟩;obtain⟨⟨d8,os8⟩,rfl⟩:=e_ hb8)))
     all_goals(
      refine u_ (fun W=>Below VT.heap.size VT W) bz_ ?_;intro W9 hb9;have HR9:=h_ (HR5.o.la hb9);clear hb9;go_wp2_with fail
      go_ret3
      rw [HLL.o,HLR2.o,HEE.o];exact⟨Ap,cp,Aq,cq,(by rw [hlr,hlq];rfl),(HSP.o _ HR9.o.bp).keep (fun _ h=>⟨by have:=HB1.o.size;omega,h.2⟩) (fun _ _=>rfl),(HSQ.o _ HR9.o.bq).keep (fun _ h=>⟨by have:=HB1.o.size;omega,h.2⟩) (fun _ _=>rfl),bThen HB1.o HR9.o.b⟩)
     ),P):=⟨@q6_⟩
     exact m163_
     ),P):=⟨@q6_⟩
     exact m83_
     ),P):=⟨@q6_⟩
     exact m146_
    ·have he0: ¬EE=0:=fun e=>hz (HE.o.symm.trans e);have h1:=HL.o;have h2:=HR0.o;rw [if_neg he0]at h1 h2;have HLL:=h_ h1;have HLR2:=h_ h2;have HEE:=h_ HE.o;have HZ:=h_ hz;clear h1 h2 he0 hz HL HR0 HE;have k146_:K_ (∀(P:Prop) (h:P:=by
     obtain⟨VS,hV⟩:=q2_ (wa.alloc (.cells #[.int .i64 0,.int .i64 0,.string ⟨#[]⟩] 73));have k83_:K_ (∀(P:Prop) (h:P:=by
     have y1:=HR4.o.bp.cell;have y2:=HR4.o.bq.cell;have y3:=HR4.o.bp.lt;have y4:=HR4.o.bq.lt;go_wp2_with fail
     obtain⟨VT,hV⟩:=q2_ (wb.alloc (.cells #[.int .i64 0,.int .i64 0,.string ⟨#[]⟩] 73));have k163_:K_ (∀(P:Prop) (h:P:=by
     have y1:=HR5.o.bp.cell;have y2:=HR5.o.bq.cell;have y3:=HR5.o.bp.lt;have y4:=HR5.o.bq.lt;have HFW:=h_ (fun(W:World) (hb:Below VT.heap.size VT W)=>show Calls Tryz.prog 143 #[.slice Ap rs.length cp,.slice Aq qs.length cq] W (R_ W (.tuple #[.slice none 0 0,.slice none 0 0,.int .i64 (fitsErr (grouped CC) (grouped DD))])) by
      have h2:=HR5.o.la hb;have h3:=HFIT.o W Ap cp Aq cq (HT.o.la (bThen HB1.o h2.b)) ((HSP.o _ h2.bp).keep (fun _ h=>h.2) (fun _ _=>rfl)) ((HSQ.o _ h2.bq).keep (fun _ h=>h.2) (fun _ _=>rfl));rw [nc_ HZ.o]at h3;exact h3)
     go_region_held3 (fun w'=>w'.cell? ⟨P,0,none⟩=some (.slice Ap rs.length cp)∧w'.cell? ⟨Q,0,none⟩=some (.slice Aq qs.length cq))
      (go_keep)
      ((first
        | (go_at_call 143;(with_reducible refine(HFW.o _ ?_).mono ?_);exact bz_;rintro r w8 ⟨rfl,hb8⟩;obtain⟨⟨d8,os8⟩,rfl⟩:=e_ hb8)))
     all_goals(
      refine u_ (fun W=>Below VT.heap.size VT W) bz_ ?_;intro W9 hb9;have HR9:=h_ (HR5.o.la hb9);clear hb9;go_wp2_with fail
      go_ret3
      rw [HLL.o,HLR2.o,HEE.o];exact⟨none,0,none,0,rfl,Sl.nil,Sl.nil,bThen HB1.o HR9.o.b⟩)
     ),P):=⟨@q6_⟩
     exact m163_
     ),P):=⟨@q6_⟩
     exact m83_
     ),P):=⟨@q6_⟩
     exact m146_
   ·have HPY:=h_ hpy;have HPASS:=h_ (hpass Z.length (Nat.le_refl _));have k174_:K_ (∀(P:Prop) (h:P:=by
    have HC':=h_ (show(c'++othS 1 Z.length)++(trS [] l).1=CC by rw [←hC.o,iy_ (jk_ 2),List.append_assoc]);have HD':=h_ (show(d'++insS Z)++(trS [] l).2=DD by rw [←hD.o,iy_ (jk_ 2),List.append_assoc]);have HF':=h_ (show fromS []=fromS l by rw [hF.o,jf_]);have HP':=h_ (hP.o.keep Z.length (List.length_pos_iff.2 hZ) (by have:=HBC.o;omega));have HQ':=h_ (hQ.o.ins Z hZ);have HZ0:=h_ (List.length_pos_iff.2 hZ);rw [show insS (Z.drop Z.length)++l=l by simp [insS]]at HPASS;clear hpx hpy hpass hZ hsc hC hD hF hP hQ;have k146_:K_ (∀(P:Prop) (h:P:=by
    obtain⟨VS,hV⟩:=q2_ (wa.alloc (.cells #[.int .i64 0,.int .i64 0,.string ⟨#[]⟩] 73));have k83_:K_ (∀(P:Prop) (h:P:=by
    have k106_:K_ (∀(P:Prop) (h:P:=by
    go_roundw
    case rel=>exact⟨[],l,c'++othS 1 Z.length,d'++insS Z,_,_,A7,c7,A8,c8,rfl,rfl,rfl,h_ HR10.o.clean,HP',HQ',HC',HD',HF'⟩
    case measure=>
     rw [HR10.o.wx.left,HR10.o.wy.left,HR1.o.wx.left,HR1.o.wy.left];have:=HZ0.o;simp only [insS,List.length_append,List.length_map];omega
    ),P):=⟨@q6_⟩
    exact m106_
    ),P):=⟨@q6_⟩
    exact m83_
    ),P):=⟨@q6_⟩
    exact m146_
    ),P):=⟨@q6_⟩
    exact m174_
   ·exfalso;have:=hF.o;rw [hf_ (by rcases hq with rfl | rfl <;> decide)]at this;simp [fromS]at this;omega
  ·have HPX:=h_ hpx;have HPASS:=h_ (hpass Z.length (Nat.le_refl _));obtain⟨tk,tn,tt,tb,hpy⟩: ∃tk tn tt tb,Parts wr Y B y tk tn tt tb:=by
    rcases HVY.o wr Y ys HR1.o.wy with⟨_,h⟩ | ⟨_,_,_,_,_,_,h,_⟩ | ⟨_,_,_,_,_,_,_,h,_⟩ <;> exact⟨_,_,_,_,h⟩
   have HPY:=h_ hpy;have k174_:K_ (∀(P:Prop) (h:P:=by
   have HC':=h_ (show(c'++insS Z)++(trS l ys).1=CC by rw [←hC.o,rc_,List.append_assoc]);have HD':=h_ (show(d'++othS 1 Z.length)++(trS l ys).2=DD by rw [←hD.o,rc_,List.append_assoc]);have HF':=h_ (show fromS l=fromS ys by rw [←hF.o,jf_]);have HP':=h_ (hP.o.ins Z hZ);have HQ':=h_ (hQ.o.keep Z.length (List.length_pos_iff.2 hZ) (by have:=HBD.o;omega));have HZ0:=h_ (List.length_pos_iff.2 hZ);rw [show insS (Z.drop Z.length)++l=l by simp [insS]]at HPASS;clear hpx hpy hpass hZ hsc hC hD hF hP hQ;have k146_:K_ (∀(P:Prop) (h:P:=by
   obtain⟨VS,hV⟩:=q2_ (wa.alloc (.cells #[.int .i64 2,.int .i64 0,.string (runesBytes Z)] 73));have k83_:K_ (∀(P:Prop) (h:P:=by
   go_wp2_with fail
   obtain⟨VT,hV⟩:=q2_ (wb.alloc (.cells #[.int .i64 tk,.int .i64 tn,.string tt] 73));have k163_:K_ (∀(P:Prop) (h:P:=by
   refine(ng_ _ _ P Ap cp (runesBytes Z) rs HR5.o.bp HZS.o (by have:=HLR.o;omega) HTR.o).mono ?_;rintro e w6 ⟨rfl,hto⟩;obtain⟨A6,c6,hr⟩:=HR5.o.p hto;have HR6:=h_ hr;clear hto hr;obtain⟨s0,s1,s2,_,_,_,sz⟩:=b_ HR6.o.k1;go_wp2_with fail
   refine(HSZ.o _).mono ?_;rintro e w7 ⟨rfl,hb⟩;have HR7:=h_ (HR6.o.la hb);clear hb;clear s0 s1 s2 sz;obtain⟨s0,s1,s2,_,_,_,sz⟩:=b_ HR7.o.k1;go_wp2_with fail
   refine(kf_ _ _ Q Aq cq Z.length qs HR7.o.bq (by have:=HLQ.o;omega)).mono ?_;rintro e w8 ⟨rfl,hto⟩;obtain⟨A8,c8,hr⟩:=HR7.o.q hto;have HR8:=h_ hr;clear hto hr;clear s0 s1 s2 sz;obtain⟨s0,s1,s2,_,_,_,sz⟩:=b_ HR8.o.k1;go_wp2_with fail
   refine(HSZ.o _).mono ?_;rintro e w9 ⟨rfl,hb⟩;have HR9:=h_ (HR8.o.la hb);clear hb;clear s0 s1 s2 sz;go_wp2_with fail
   refine(HPASS.o _ HR9.o.ex (HR9.o.opxi HSX.o)).mono ?_;rintro e w10 ⟨rfl,hwk,ho⟩;have HR10:=h_ (HR9.o.goX hwk ho);clear hwk ho;go_wp2_with fail
   go_roundw
   case rel=>exact⟨l,ys,c'++insS Z,d'++othS 1 Z.length,_,_,A6,c6,A8,c8,rfl,rfl,rfl,h_ HR10.o.clean,HP',HQ',HC',HD',HF'⟩
   case measure=>
    rw [HR10.o.wx.left,HR10.o.wy.left,HR1.o.wx.left,HR1.o.wy.left];have:=HZ0.o;rw [List.length_append,List.length_map];omega
   ),P):=⟨@q6_⟩
   exact m163_
   ),P):=⟨@q6_⟩
   exact m83_
   ),P):=⟨@q6_⟩
   exact m146_
   ),P):=⟨@q6_⟩
   exact m174_
  ·have HPX:=h_ hpx;have e2:(q==2)=false:=by rcases hq with rfl | rfl <;> rfl
   rcases HVY.o wr Y ys HR1.o.wy with⟨rfl,hpy⟩ | ⟨Z,l',hZ,hsc,hZ4,rfl,hpy,hpass'⟩ | ⟨q',n',l',hq',hn0',hn4',rfl,hpy,hpass'⟩
   ·exfalso;have:=hF.o;rw [hf_ (by rcases hq with rfl | rfl <;> decide)]at this;simp [fromS]at this;omega
   ·have HPY:=h_ hpy;have HPASS:=h_ (hpass' Z.length (Nat.le_refl _));have k174_:K_ (∀(P:Prop) (h:P:=by
    have HC':=h_ (show(c'++othS 1 Z.length)++(trS (othS q n++l) l').1=CC by rw [←hC.o,iy_ (vp_ (by rcases hq with rfl | rfl <;> decide) hn0 _),List.append_assoc]);have HD':=h_ (show(d'++insS Z)++(trS (othS q n++l) l').2=DD by rw [←hD.o,iy_ (vp_ (by rcases hq with rfl | rfl <;> decide) hn0 _),List.append_assoc]);have HF':=h_ (show fromS (othS q n++l)=fromS l' by rw [hF.o,jf_]);have HP':=h_ (hP.o.keep Z.length (List.length_pos_iff.2 hZ) (by have:=HBC.o;omega));have HQ':=h_ (hQ.o.ins Z hZ);have HZ0:=h_ (List.length_pos_iff.2 hZ);rw [show insS (Z.drop Z.length)++l'=l' by simp [insS]]at HPASS;clear hpx hpy hpass' hZ hsc hC hD hF hP hQ;have k146_:K_ (∀(P:Prop) (h:P:=by
    obtain⟨VS,hV⟩:=q2_ (wa.alloc (.cells #[.int .i64 q,.int .i64 n,.string ⟨#[]⟩] 73));have k83_:K_ (∀(P:Prop) (h:P:=by
    have k106_:K_ (∀(P:Prop) (h:P:=by
    go_roundw
    case rel=>exact⟨(othS q n++l),l',c'++othS 1 Z.length,d'++insS Z,_,_,A7,c7,A8,c8,rfl,rfl,rfl,h_ HR10.o.clean,HP',HQ',HC',HD',HF'⟩
    case measure=>
     rw [HR10.o.wx.left,HR10.o.wy.left,HR1.o.wx.left,HR1.o.wy.left];have:=HZ0.o;simp only [insS,List.length_append,List.length_map];omega
    ),P):=⟨@q6_⟩
    exact m106_
    ),P):=⟨@q6_⟩
    exact m83_
    ),P):=⟨@q6_⟩
    exact m146_
    ),P):=⟨@q6_⟩
    exact m174_
   ·have HPY:=h_ hpy;have e3:(q'==2)=false:=by rcases hq' with rfl | rfl <;> rfl
    obtain⟨m,hm⟩:=q2_ (min n n');have hmn:m≤n:=(by omega);have hmn':m≤n':=(by omega);have hm0:0<m:=(by omega);have hmi:min (n:Int) (n':Int)=(m:Int):=(by omega);have HPA:=h_ (hpass m hmn);have HPB:=h_ (hpass' m hmn');have hC2:=hC.o;have hD2:=hD.o;rw [vt_ q hmn,vt_ q' hmn',yz_ (by rcases hq with rfl | rfl <;> decide) (by rcases hq' with rfl | rfl <;> decide)]at hC2 hD2;dsimp only at hC2 hD2;have HF':=h_ (show fromS (othS q (n - m)++l)=fromS (othS q' (n' - m)++l') by
     have:=hF.o;rw [hf_ (by rcases hq with rfl | rfl <;> decide),hf_ (by rcases hq' with rfl | rfl <;> decide)]at this⊢;omega)
    have HMS:=h_ (show m≤n∧m≤n'∧0<m from⟨hmn,hmn',hm0⟩);clear hpx hpy hpass hpass' hC hD hF hm;rcases hq with rfl | rfl
    ·rcases hq' with rfl | rfl
     ·have HC':=h_ (show(c'++othS 1 m)++(trS (othS 1 (n - m)++l) (othS 1 (n' - m)++l')).1=CC by simpa using hC2);have HD':=h_ (show(d'++othS 1 m)++(trS (othS 1 (n - m)++l) (othS 1 (n' - m)++l')).2=DD by simpa using hD2);have HP':=h_ (hP.o.keep m hm0 (by have:=HBC.o;omega));have HQ':=h_ (hQ.o.keep m hm0 (by have:=HBD.o;omega));clear hC2 hD2 hP hQ hm0 hmn hmn';have k146_:K_ (∀(P:Prop) (h:P:=by
      obtain⟨VS,hV⟩:=q2_ (wa.alloc (.cells #[.int .i64 1,.int .i64 n,.string ⟨#[]⟩] 73));have k83_:K_ (∀(P:Prop) (h:P:=by
      go_wp2_with fail
      obtain⟨VT,hV⟩:=q2_ (wb.alloc (.cells #[.int .i64 1,.int .i64 n',.string ⟨#[]⟩] 73));have k163_:K_ (∀(P:Prop) (h:P:=by
      refine(kf_ _ _ P Ap cp m rs HR5.o.bp (by have:=HLR.o;omega)).mono ?_;rintro e w6 ⟨rfl,hto⟩;obtain⟨A6,c6,hr⟩:=HR5.o.p hto;have HR6:=h_ hr;clear hto hr;go_wp2_with fail
      refine(kf_ _ _ Q Aq cq m qs HR6.o.bq (by have:=HLQ.o;omega)).mono ?_;rintro e w7 ⟨rfl,hto⟩;obtain⟨A7,c7,hr⟩:=HR6.o.q hto;have HR7:=h_ hr;clear hto hr;go_wp2_with fail
      refine(HPA.o _ HR7.o.ex (HR7.o.opxi HSX.o)).mono ?_;rintro e w8 ⟨rfl,hwk,ho⟩;have HR8:=h_ (HR7.o.goX hwk ho);clear hwk ho;go_wp2_with fail
      refine(HPB.o _ HR8.o.ey (HR8.o.opyi HSY.o)).mono ?_;rintro e w9 ⟨rfl,hwk,ho⟩;have HR9:=h_ (HR8.o.goY hwk ho);clear hwk ho;go_wp2_with fail
      go_roundw
      case rel=>exact⟨_,_,c'++othS 1 m,d'++othS 1 m,_,_,A6,c6,A7,c7,rfl,rfl,rfl,h_ HR9.o.clean,HP',HQ',HC',HD',HF'⟩
      case measure=>
       rw [HR9.o.wx.left,HR9.o.wy.left,HR1.o.wx.left,HR1.o.wy.left];exact m272_
      ),P):=⟨@q6_⟩
      exact m163_
      ),P):=⟨@q6_⟩
      exact m83_
      ),P):=⟨@q6_⟩
      exact m146_
     ·have HC':=h_ (show(c')++(trS (othS 1 (n - m)++l) (othS 3 (n' - m)++l')).1=CC by simpa using hC2);have HD':=h_ (show(d'++othS 3 m)++(trS (othS 1 (n - m)++l) (othS 3 (n' - m)++l')).2=DD by simpa using hD2);have HP':=h_ (hP.o);have HQ':=h_ (hQ.o.del m hm0 (by have:=HBD.o;omega));clear hC2 hD2 hP hQ hm0 hmn hmn';have k146_:K_ (∀(P:Prop) (h:P:=by
      obtain⟨VS,hV⟩:=q2_ (wa.alloc (.cells #[.int .i64 1,.int .i64 n,.string ⟨#[]⟩] 73));have k83_:K_ (∀(P:Prop) (h:P:=by
      go_wp2_with fail
      obtain⟨VT,hV⟩:=q2_ (wb.alloc (.cells #[.int .i64 3,.int .i64 n',.string ⟨#[]⟩] 73));have k163_:K_ (∀(P:Prop) (h:P:=by
      refine(nk_ _ _ Q Aq cq m qs HR5.o.bq (by have:=HLQ.o;omega)).mono ?_;rintro e w6 ⟨rfl,hto⟩;obtain⟨A6,c6,hr⟩:=HR5.o.q hto;have k236_:K_ (∀(P:Prop) (h:P:=by
      go_roundw
      case rel=>exact⟨_,_,c',d'++othS 3 m,_,_,Ap,cp,A6,c6,rfl,rfl,rfl,h_ HR8.o.clean,HP',HQ',HC',HD',HF'⟩
      case measure=>
       rw [HR8.o.wx.left,HR8.o.wy.left,HR1.o.wx.left,HR1.o.wy.left];exact m272_
      ),P):=⟨@q6_⟩
      exact m236_
      ),P):=⟨@q6_⟩
      exact m163_
      ),P):=⟨@q6_⟩
      exact m83_
      ),P):=⟨@q6_⟩
      exact m146_
    ·rcases hq' with rfl | rfl
     ·have HC':=h_ (show(c'++othS 3 m)++(trS (othS 3 (n - m)++l) (othS 1 (n' - m)++l')).1=CC by simpa using hC2);have HD':=h_ (show(d')++(trS (othS 3 (n - m)++l) (othS 1 (n' - m)++l')).2=DD by simpa using hD2);have HP':=h_ (hP.o.del m hm0 (by have:=HBC.o;omega));have HQ':=h_ (hQ.o);clear hC2 hD2 hP hQ hm0 hmn hmn';have k146_:K_ (∀(P:Prop) (h:P:=by
      obtain⟨VS,hV⟩:=q2_ (wa.alloc (.cells #[.int .i64 3,.int .i64 n,.string ⟨#[]⟩] 73));have k83_:K_ (∀(P:Prop) (h:P:=by
      go_wp2_with fail
      obtain⟨VT,hV⟩:=q2_ (wb.alloc (.cells #[.int .i64 1,.int .i64 n',.string ⟨#[]⟩] 73));have k163_:K_ (∀(P:Prop) (h:P:=by
      refine(nk_ _ _ P Ap cp m rs HR5.o.bp (by have:=HLR.o;omega)).mono ?_;rintro e w6 ⟨rfl,hto⟩;obtain⟨A6,c6,hr⟩:=HR5.o.p hto;have k236_:K_ (∀(P:Prop) (h:P:=by
      go_roundw
      case rel=>exact⟨_,_,c'++othS 3 m,d',_,_,A6,c6,Aq,cq,rfl,rfl,rfl,h_ HR8.o.clean,HP',HQ',HC',HD',HF'⟩
      case measure=>
       rw [HR8.o.wx.left,HR8.o.wy.left,HR1.o.wx.left,HR1.o.wy.left];exact m272_
      ),P):=⟨@q6_⟩
      exact m236_
      ),P):=⟨@q6_⟩
      exact m163_
      ),P):=⟨@q6_⟩
      exact m83_
      ),P):=⟨@q6_⟩
      exact m146_
     ·have HC':=h_ (show(c')++(trS (othS 3 (n - m)++l) (othS 3 (n' - m)++l')).1=CC by simpa using hC2);have HD':=h_ (show(d')++(trS (othS 3 (n - m)++l) (othS 3 (n' - m)++l')).2=DD by simpa using hD2);have HP':=h_ (hP.o);have HQ':=h_ (hQ.o);clear hC2 hD2 hP hQ hm0 hmn hmn';have k146_:K_ (∀(P:Prop) (h:P:=by
      obtain⟨VS,hV⟩:=q2_ (wa.alloc (.cells #[.int .i64 3,.int .i64 n,.string ⟨#[]⟩] 73));have k83_:K_ (∀(P:Prop) (h:P:=by
      go_wp2_with fail
      obtain⟨VT,hV⟩:=q2_ (wb.alloc (.cells #[.int .i64 3,.int .i64 n',.string ⟨#[]⟩] 73));have k163_:K_ (∀(P:Prop) (h:P:=by
      refine(HPA.o _ HR5.o.ex (HR5.o.opxi HSX.o)).mono ?_;rintro e w6 ⟨rfl,hwk,ho⟩;have HR6:=h_ (HR5.o.goX hwk ho);clear hwk ho;go_wp2_with fail
      refine(HPB.o _ HR6.o.ey (HR6.o.opyi HSY.o)).mono ?_;rintro e w7 ⟨rfl,hwk,ho⟩;have HR7:=h_ (HR6.o.goY hwk ho);clear hwk ho;go_wp2_with fail
      go_roundw
      case rel=>exact⟨_,_,c',d',_,_,Ap,cp,Aq,cq,rfl,rfl,rfl,h_ HR7.o.clean,HP',HQ',HC',HD',HF'⟩
      case measure=>
       rw [HR7.o.wx.left,HR7.o.wy.left,HR1.o.wx.left,HR1.o.wy.left];exact m272_
      ),P):=⟨@q6_⟩
      exact m163_
      ),P):=⟨@q6_⟩
      exact m83_
      ),P):=⟨@q6_⟩
      exact m146_
end Go.Proofs.YtacacoklddogmaaGreatDoor
