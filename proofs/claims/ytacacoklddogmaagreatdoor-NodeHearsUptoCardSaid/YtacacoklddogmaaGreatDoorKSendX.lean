/- Lemmas. -/
import Derived.Test.YtacacoklddogmaaGreatDoorKJAQ
import Derived.Test.YtacacoklddogmaaGreatDoorKPost
namespace Go.Proofs.YtacacoklddogmaaGreatDoor
set_option maxHeartbeats 4000000
open Go.ChangeShapes Go.WideShapes Go.ChangeAt Go.RowKit
set_option maxRecDepth 100000
theorem m24_{P:Prop}(h:P:=by
 first
 |guard_hyp vAK
  have HSE:=h_ (fun W hT (hi:n.S[s].k.In W) hf=>bcm_ W n.S[s].k f hT hi hm hf hfm her)
 |have HSE:=h_ (fun W hT (hi:n.S[s].k.In W) hf=>bfe_ W n.S[s].k f hT hi hm hf hfm her)
 have k189_:K_ (∀(P:Prop) (h:P:=by
 have her':(sendE n.S[s].k ⟨fk,fh,fe,fp,fs⟩==0)=false:=by simpa using her
 generalize sendE n.S[s].k _=er at*;clear hT h hm hf hfm her;have k120_:K_ (∀(P:Prop) (h:P:=by
 first
 |guard_hyp vAK
 |go_enter Tryz.func77,Tryz.ntmps77
  go_wp2_with fail
  rw [HW.o];refine(cm_ _ X).mono ?_;rintro r w1 ⟨rfl,rfl⟩
 have k81_:K_ (∀(P:Prop) (h:P:=by
 first
 |guard_hyp vAK
  go_enter Tryz.func41,Tryz.ntmps41
 |skip
 go_wp2_with fail
 first
 |guard_hyp vAK
  rw [HW.o];go_region_law (go_simp;go_at_call 81;(with_reducible refine(HSE.o _ ?_ ?_ ?_).mono ?_);exact(HT.o.la HBA.o).la bz_;exact HLI.o.la bz_;exact Sl.la (Sl.la HO.o HBA.o) bz_;rintro r w2 ⟨l2,A2,c2,K,rfl,hd2,hk2,hl2,hp2,hb2⟩;have HB2:Below WA.heap.size WA w2:=bThen bz_ hb2;first | (have HX2:w2.heap[WA.heap.size]?=some (.cells #[.int .i64 0,.int .i64 0,.slice none 0 0,.slice none 0 0,.int .i64 0] 58 (0,0)):=(hb2.block _ (by simp)).trans (World.alloc_heap_new _ _);obtain⟨z0,z1,z2,z3,z4,f0,f1,f2,f3,f4,xz2⟩:=a_ HX2) | skip)
 |go_region_law (go_simp;go_at_call 116;(with_reducible refine(HSE.o _ ?_ ?_ ?_).mono ?_);exact(HT.o.la HBA.o).la bz_;exact HLI.o.la bz_;exact Sl.la (Sl.la HO.o HBA.o) bz_;rintro r w2 ⟨l2,A2,c2,K,rfl,hd2,hk2,hl2,hp2,hb2⟩;have HB2:Below WA.heap.size WA w2:=bThen bz_ hb2;first | (have HX2:w2.heap[WA.heap.size]?=some (.cells #[.int .i64 0,.int .i64 0,.slice none 0 0,.slice none 0 0,.int .i64 0] 58 (0,0)):=(hb2.block _ (by simp)).trans (World.alloc_heap_new _ _);obtain⟨z0,z1,z2,z3,z4,f0,f1,f2,f3,f4,xz2⟩:=a_ HX2) | skip)
 all_goals(
  first
  | (obtain ⟨B, hB⟩ := q2_ (w2.heap.size)
     rw [←hB];have hbx:Below w2.heap.size w2 (w2.alloc (.cells #[.int .i64 l2.e,.int .i64 l2.n,.slice l2.sA l2.s.length l2.sc,.slice l2.qA l2.q.length l2.qc,.int .i64 l2.h] 58)):=bA_;refine u_ (fun G=>Below w.heap.size w G) (bThen (bThen HBA.o HB2) hbx) ?_;clear hB)
  | (obtain ⟨B, hB⟩ := q2_ (WA.heap.size)
     rw [←hB]at HX2;rw [←hB];have hO:Only B w2 (((((w2.setCell ⟨B,0,none⟩ (.int .i64 l2.e)).setCell ⟨B,1,none⟩ (.int .i64 l2.n)).setCell ⟨B,2,none⟩ (.slice l2.sA l2.s.length l2.sc)).setCell ⟨B,3,none⟩ (.slice l2.qA l2.q.length l2.qc)).setCell ⟨B,4,none⟩ (.int .i64 l2.h)):=(((q5_.trans q5_).trans q5_).trans q5_).trans q5_;have HBf:=HB2.trans (hO.below (by omega) HB2.size);refine u_ (fun G=>Below w.heap.size w G) (bThen HBA.o HBf) ?_;clear hB))
 all_goals(
  rintro G hG;have HG:=h_ hG;clear hG hl2 hp2 hb2 hd2 hk2 s5 s6 s7 s8 s9 x0 x1 x2 x3 x4 x5 x6 x7 x8 x9 q0 q1 q2 q3 q4 qz;go_wp2_with fail
  exact bodyPost_end (results_none rfl _ _ _) rfl ⟨rfl,HG.o⟩)
 ),P):=⟨@q6_⟩
 exact m81_
 ),P):=⟨@q6_⟩
 exact m120_
 ),P):=⟨@q6_⟩
 exact m189_):P:=h
theorem m81_{P:Prop}(h:P:=by
 have hcs: ∀j u,(SideV.cells n.S[s])[j]?=some u→WA.cell? ⟨g,s*10+j,none⟩=some u:=fun j u hu=>by
  have hr:=HK.o.srow;rw [HG.o]at hr;have hj:j<10:=by
   exact m184_
  rw [hr.cellAt (s*10+j) (by omega),bx_ SideV.cells 10 SideV.cells_len n.S s j hs hj];exact hu
 have s5:WA.cell? ⟨g,s*10+5,none⟩=some (.int .i64 n.S[s].k.e):=hcs 5 _ rfl;have s6:WA.cell? ⟨g,s*10+6,none⟩=some (.int .i64 n.S[s].k.n):=hcs 6 _ rfl;have s7:WA.cell? ⟨g,s*10+7,none⟩=some (.slice n.S[s].k.sA n.S[s].k.s.length n.S[s].k.sc):=hcs 7 _ rfl;have s8:WA.cell? ⟨g,s*10+8,none⟩=some (.slice n.S[s].k.qA n.S[s].k.q.length n.S[s].k.qc):=hcs 8 _ rfl;have s9:WA.cell? ⟨g,s*10+9,none⟩=some (.int .i64 n.S[s].k.h):=hcs 9 _ rfl;have HLI:=h_ ((HK.o.side _ (List.getElem_mem hs)).link.in_ (fun b hb=>hb.1.2));obtain⟨q0,q1,q2,q3,q4,_,_,_,_,_,qz⟩:=a_ HFA.o;have hgz:g<WA.heap.size:=by
  have hr:=HK.o.srow;rw [HG.o]at hr;exact(hr.lt g rfl).2
 clear hcs;exact k81_.o _):P:=h
theorem m97_{P:Prop}(h:P:=by
 rintro G ⟨g1,g2,g3,g4,g5,g6⟩;have HG1:=h_ g1;have HG2:=h_ g2;have HG4:=h_ g4;have HG5:=h_ g5;have HD2:=h_ hd2;have HKD:=h_ hk2;have hKL:K.length≤8:=by rw [←List.length_map (f:=PacketV.d),hk2];exact HP8.o
 have hgB: ¬g=B:=by omega
 have hBg: ¬B=g:=by omega
 have hgG:g<G.heap.size:=by have:=(Array.getElem?_eq_some_iff.1 g6).1;omega
 have hr:=g1.srow;rw [HG.o]at hr;have hlen:(n.S.flatMap SideV.cells).length=n.S.length*10:=by have h9:=hr.1;exact h9
 have e5: ∃v,G.cell? ⟨g,s*10+5,none⟩=some v:=⟨_,by rw [hr.cellAt (s*10+5) (by omega)];exact List.getElem?_eq_getElem (by omega)⟩
 have e6: ∃v,G.cell? ⟨g,s*10+6,none⟩=some v:=⟨_,by rw [hr.cellAt (s*10+6) (by omega)];exact List.getElem?_eq_getElem (by omega)⟩
 have e7: ∃v,G.cell? ⟨g,s*10+7,none⟩=some v:=⟨_,by rw [hr.cellAt (s*10+7) (by omega)];exact List.getElem?_eq_getElem (by omega)⟩
 have e8: ∃v,G.cell? ⟨g,s*10+8,none⟩=some v:=⟨_,by rw [hr.cellAt (s*10+8) (by omega)];exact List.getElem?_eq_getElem (by omega)⟩
 have e9: ∃v,G.cell? ⟨g,s*10+9,none⟩=some v:=⟨_,by rw [hr.cellAt (s*10+9) (by omega)];exact List.getElem?_eq_getElem (by omega)⟩
 obtain⟨v5,e5⟩:=e5;obtain⟨v6,e6⟩:=e6;obtain⟨v7,e7⟩:=e7;obtain⟨v8,e8⟩:=e8;obtain⟨v9,e9⟩:=e9;have fr:=hr.frozenAt;have f5:=fr (s*10+5);have f6:=fr (s*10+6);have f7:=fr (s*10+7);have f8:=fr (s*10+8);have f9:=fr (s*10+9);obtain⟨b0,b1,b2,b3,b4,_,_,_,_,_,bz⟩:=a_ g6;exact k97_.o _):P:=h
theorem m120_{P:Prop}(h:P:=by
 have HFA:=h_ (show(w.alloc (.cells #[.int .i64 fk,.int .i64 fh,.int .i64 fe,.slice fA fp.length fc,.string fs] 46)).heap[w.heap.size]?=some (.cells #[.int .i64 fk,.int .i64 fh,.int .i64 fe,.slice fA fp.length fc,.string fs] 46 (0,0))from World.alloc_heap_new _ _);obtain⟨WA,hWA⟩:=q2_ (w.alloc (.cells #[.int .i64 fk,.int .i64 fh,.int .i64 fe,.slice fA fp.length fc,.string fs] 46));rw [←hWA]at HFA;have HBA:=h_ (show Below w.heap.size w WA by rw [hWA];exact bA_);have HW:=h_ hWA.symm;clear hWA;have HK:=h_ (HB.o.la HBA.o);obtain⟨x0,x1,x2,x3,x4,x5,x6,x7,x8,x9,xz⟩:=j_ HK.o.blk;rw [hg]at x5;clear hg;exact k120_.o _):P:=h
theorem m125_{P:Prop}(h:P:=by
 obtain⟨G2,hG2⟩:=q2_ ((((((G.setCell ⟨g,s*10+5,none⟩ (.int .i64 l2.e)).setCell ⟨g,s*10+5+1,none⟩ (.int .i64 l2.n)).setCell ⟨g,s*10+5+2,none⟩ (.slice l2.sA l2.s.length l2.sc)).setCell ⟨g,s*10+5+3,none⟩ (.slice l2.qA l2.q.length l2.qc)).setCell ⟨g,s*10+5+4,none⟩ (.int .i64 l2.h)));rw [←hG2];have hKX:=HK.o.lt;have hlo:=HK.o.lo;have hpl: ∀y,(Value.slice A L.length c).ownBlock=some y→X+1≤y∧y<WA.heap.size:=fun y hy=>HK.o.prow.lt y hy;have hql: ∀y,(Value.slice n.sA n.S.length n.sc).ownBlock=some y→base≤y∧y<WA.heap.size:=fun y hy=>HK.o.srow.lt y hy;have hqg:(Value.slice n.sA n.S.length n.sc).ownBlock=some g:=by rw [HG.o];rfl
 have hfree: ∀b,WA.heap.size≤b→b<G.heap.size→FreeX G base X (Value.slice A L.length c).ownBlock (Value.slice n.sA n.S.length n.sc).ownBlock ex b:=fun b h8 h9=>
  ⟨⟨by omega,h9⟩,by omega,fun e=>by have:=hpl b e;omega,fun e=>by have:=hql b e;omega,fun r hr e=>by have:=(HK.o.exl r hr b e).1.1;omega⟩
 exact k125_.o _):P:=h
theorem m184_{P:Prop}(h:P:=by
 have:=(List.getElem?_eq_some_iff.1 hu).1;rwa [SideV.cells_len]at this):P:=h
theorem m189_{P:Prop}(h:P:=by
 obtain⟨g,hg⟩: ∃g,n.sA=some ⟨g,0,none⟩:=by
  obtain⟨g,cap,hv,_,_⟩:=h.srow.form (by omega);exact⟨g,by injection hv⟩
 have HT:=h_ hT;have HB:=h_ h;have HO:=h_ hf;have HG:=h_ hg;obtain⟨fk,fh,fe,⟨fA,fc,fp⟩,fs⟩:=f;dsimp only at*;exact k189_.o _):P:=h
theorem m209_{P:Prop}(h:P:=by
 have h6:=HZ2.o;refine⟨HP4.o.turned.os.trans HOS.o.1,HP4.o.turned.tape.trans HOS.o.2.1,HP4.o.turned.output.trans HOS.o.2.2,Nat.le_trans h6 HP4.o.turned.size,fun b h8 h9 h10 h11=>(HP4.o.turned.block b (by omega) h9 (fun e=>h10 e.symm)).trans (HTO.o b h8 h11),?_⟩;rcases HP4.o.own with e | e
 ·exact .inl e
 ·exact .inr fun y hy=>Nat.le_trans h6 (e y hy)):P:=h
structure Touch (w w':World) (X:Nat) (P Q P':Option Nat):Prop where
 os:w'.os=w.os
 tape:w'.tape=w.tape
 output:w'.output=w.output
 size:w.heap.size≤w'.heap.size
 block: ∀b,b<w.heap.size→b≠X→P≠some b→Q≠some b→w'.heap[b]?=w.heap[b]?
 own:P'=P∨ ∀y,P'=some y→w.heap.size≤y
theorem Touch.of_below{w w':World}{X:Nat}{P Q:Option Nat}(h:Below w.heap.size w w'):Touch w w' X P Q P:=⟨h.os,h.tape,h.output,h.size,fun b hb _ _ _=>h.block b hb,.inl rfl⟩
theorem wk_(w:World)(base X:Nat)(n:NodeV)(A:OA_)(c:Nat)(L:List PostV)(R:Value)(ex:List (Option Nat))(s:Nat)(hs:s<n.S.length)(f:FrameV)(hT:Tabs w)(h:BusyX 71 w base X n A c L R ex)(hm:n.S[s].k.Small)(hf:OpIn (· <w.heap.size) w f.o.A f.o.ps)(hfm:f.Small)
 (hk:linkMay n.S[s].k) (h0:n.S[s].k.e≠0) (he:frameFault f.d=0) (h1:n.S[s].k.n≠1048576) (hl:L.length≤1099511000000):
 Calls Tryz.prog 77 #[.pointer (some ⟨X,0,none⟩),.int .i64 s,frameV f.k f.h f.e f.o.A f.o.ps.length f.o.c f.s] w fun e w'=>e= .returned (.tuple #[])∧ ∃l' A' c' L',BusyX 71 w' base X (n.link s l') A' c' L' R ex∧l'.d=fillL (waitL n.S[s].k.d f.d)∧L'.map PostV.d=L.map PostV.d++(fillP (waitL n.S[s].k.d f.d)).map (PostD.mk n.S[s].p)∧Below base w w'∧Touch w w' X (Value.slice A L.length c).ownBlock (Value.slice n.sA n.S.length n.sc).ownBlock (Value.slice A' L'.length c').ownBlock:=by
 have HSE:=h_ (fun W hT (hi:n.S[s].k.In W) hf=>bep_ W n.S[s].k f hT hi hm hf hfm hk h0 he h1);have HP8:=h_ (gl_ (waitL n.S[s].k.d f.d));have k189_:K_ (∀(P:Prop) (h:P:=by
 generalize fillL (waitL n.S[s].k.d _)=ld at*;generalize fillP (waitL n.S[s].k.d _)=pd at*;clear hT h hm hf hfm hk h0 he h1;have k120_:K_ (∀(P:Prop) (h:P:=by
 go_enter Tryz.func77,Tryz.ntmps77
 go_wp2_with fail
 rw [HW.o];refine(cm_ _ X).mono ?_;rintro r w1 ⟨rfl,rfl⟩;have k81_:K_ (∀(P:Prop) (h:P:=by
 go_wp2_with fail
 go_region_law (go_simp;go_at_call 116;(with_reducible refine(HSE.o _ ?_ ?_ ?_).mono ?_);exact(HT.o.la HBA.o).la bz_;exact HLI.o.la bz_;exact Sl.la (Sl.la HO.o HBA.o) bz_;rintro r w2 ⟨l2,A2,c2,K,rfl,hd2,hk2,hl2,hp2,hb2⟩;have HB2:Below WA.heap.size WA w2:=bThen bz_ hb2;first | (have HX2:w2.heap[WA.heap.size]?=some (.cells #[.int .i64 0,.int .i64 0,.slice none 0 0,.slice none 0 0,.int .i64 0] 58 (0,0)):=(hb2.block _ (by simp)).trans (World.alloc_heap_new _ _);obtain⟨z0,z1,z2,z3,z4,f0,f1,f2,f3,f4,xz2⟩:=a_ HX2) | skip)
 all_goals(
  first
  | (obtain ⟨B, hB⟩ := q2_ (w2.heap.size)
     rw [←hB];have hbx:Below w2.heap.size w2 (w2.alloc (.cells #[.int .i64 l2.e,.int .i64 l2.n,.slice l2.sA l2.s.length l2.sc,.slice l2.qA l2.q.length l2.qc,.int .i64 l2.h] 58)):=bA_;have hzx:(w2.alloc (.cells #[.int .i64 l2.e,.int .i64 l2.n,.slice l2.sA l2.s.length l2.sc,.slice l2.qA l2.q.length l2.qc,.int .i64 l2.h] 58)).heap.size=w2.heap.size+1:=(by simp);refine u_ (fun G=>BusyX 71 G base X n A c L R ex∧Below w.heap.size w G∧WA.heap.size≤B∧l2.InS (fun b=>WA.heap.size≤b∧b<G.heap.size) G∧PksS (fun b=>WA.heap.size≤b∧b<G.heap.size) G A2 K∧G.heap[B]?=some (.cells #[.int .i64 l2.e,.int .i64 l2.n,.slice l2.sA l2.s.length l2.sc,.slice l2.qA l2.q.length l2.qc,.int .i64 l2.h] 58 (0,0))) ⟨(HK.o.la HB2).la hbx,bThen (bThen HBA.o HB2) hbx,by rw [hB];exact HB2.size,hl2.mv fun b hb=>⟨⟨hb.1,by rw [hzx];have:=hb.2;omega⟩,hbx.block b hb.2⟩,hp2.mv fun b hb=>⟨⟨hb.1,by rw [hzx];have:=hb.2;omega⟩,hbx.block b hb.2⟩,by rw [hB];exact World.alloc_heap_new _ _⟩ ?_)
  | (obtain ⟨B, hB⟩ := q2_ (WA.heap.size)
     rw [←hB]at HX2;rw [←hB];have hO:Only B w2 (((((w2.setCell ⟨B,0,none⟩ (.int .i64 l2.e)).setCell ⟨B,1,none⟩ (.int .i64 l2.n)).setCell ⟨B,2,none⟩ (.slice l2.sA l2.s.length l2.sc)).setCell ⟨B,3,none⟩ (.slice l2.qA l2.q.length l2.qc)).setCell ⟨B,4,none⟩ (.int .i64 l2.h)):=(((q5_.trans q5_).trans q5_).trans q5_).trans q5_;have HBf:=HB2.trans (hO.below (by omega) HB2.size);have hzO:(((((w2.setCell ⟨B,0,none⟩ (.int .i64 l2.e)).setCell ⟨B,1,none⟩ (.int .i64 l2.n)).setCell ⟨B,2,none⟩ (.slice l2.sA l2.s.length l2.sc)).setCell ⟨B,3,none⟩ (.slice l2.qA l2.q.length l2.qc)).setCell ⟨B,4,none⟩ (.int .i64 l2.h)).heap.size=w2.heap.size:=(by simp [World.setCell]);refine u_ (fun G=>BusyX 71 G base X n A c L R ex∧Below w.heap.size w G∧WA.heap.size≤B∧l2.InS (fun b=>WA.heap.size≤b∧b<G.heap.size) G∧PksS (fun b=>WA.heap.size≤b∧b<G.heap.size) G A2 K∧G.heap[B]?=some (.cells #[.int .i64 l2.e,.int .i64 l2.n,.slice l2.sA l2.s.length l2.sc,.slice l2.qA l2.q.length l2.qc,.int .i64 l2.h] 58 (0,0))) ⟨HK.o.la HBf,bThen HBA.o HBf,by omega,hl2.mv fun b hb=>⟨⟨by have h9:=hb.1;simp at h9;omega,by rw [hzO];exact hb.2⟩,hO.block b hb.2 (by have h9:=hb.1;simp at h9;omega)⟩,hp2.mv fun b hb=>⟨⟨by have h9:=hb.1;simp at h9;omega,by rw [hzO];exact hb.2⟩,hO.block b hb.2 (by have h9:=hb.1;simp at h9;omega)⟩,f_ 4 _ (f_ 3 _ (f_ 2 _ (f_ 1 _ (f_ 0 _ HX2))))⟩ ?_))
 all_goals(
  have k97_:K_ (∀(P:Prop) (h:P:=by
  clear hB g1 g2 g4 g5 g6 hr hlen fr hd2 hk2 hl2 hp2 hb2 s5 s6 s7 s8 s9 x0 x1 x2 x3 x4 x5 x6 x7 x8 x9 q0 q1 q2 q3 q4 qz;go_wp2_with fail
  have k125_:K_ (∀(P:Prop) (h:P:=by
  have HS2:=h_ (show BusyX 71 G2 base X (n.link s l2) A c L R ex by
   rw [hG2];exact HG1.o.setLink (by decide) hs HG.o l2 (HG4.o.mv fun b hb=>⟨hfree b hb.1 hb.2,rfl⟩))
  have hO2:Only g G G2:=by rw [hG2];exact(((q5_.trans q5_).trans q5_).trans q5_).trans q5_
  have hz2:G2.heap.size=G.heap.size:=by rw [hG2];simp [World.setCell]
  have hgW:g<WA.heap.size:=(hql g hqg).2;have hll:(n.link s l2).S.length=n.S.length:=by simp [NodeV.link]
  have hPS:=HG5.o.mv (S':=fun b=>WA.heap.size≤b∧b<G2.heap.size) (w':=G2) fun b hb=>⟨⟨hb.1,by rw [hz2];exact hb.2⟩,hO2.block b hb.2 (by have:=hb.1;omega)⟩
  have hPC:=bde_ G2 X (n.link s l2) A c L R s (by rw [hll];exact hs) A2 c2 K (HS2.o.work (by decide)) (hPS.row.mv fun b hb=>⟨⟨hb.2,by have:=hb.1;omega,fun e=>by have:=hpl b e;have:=hb.1;omega⟩,rfl⟩)
   (fun q hq=>(hPS.each q hq).mv fun b hb=>⟨⟨⟨by have:=hb.1;omega,hb.2⟩,fun e=>by have:=hpl b e;have:=hb.1;omega⟩,rfl⟩) (by omega)
  have hpe: ∀h:s<(n.link s l2).S.length,(n.link s l2).S[s].p=n.S[s].p:=fun h=>by simp [NodeV.link,List.getD_eq_getElem?_getD,List.getElem?_eq_getElem hs]
  rw [hpe]at hPC;have HPC:=h_ hPC;have HKK:=h_ (show∀q∈K,OpIn (fun b=>X+1≤b∧FreeX G2 base X (Value.slice A L.length c).ownBlock (Value.slice (n.link s l2).sA (n.link s l2).S.length (n.link s l2).sc).ownBlock ex b) G2 q.f.o.A q.f.o.ps from fun q hq=>(hPS.each q hq).mv fun b hb=>⟨⟨by have:=hb.1;omega,by
   have h9:=hfree b hb.1 (by rw [←hz2];exact hb.2);rw [hll];exact⟨⟨h9.1.1,hb.2⟩,h9.2⟩⟩,rfl⟩)
  have HBL:=h_ (show Below base w G2 from(HG2.o.mono (by have:=HBA.o.size;have:=(HB.o.lt);omega)).trans (hO2.below (by have:=hql g hqg;omega) (by have:=HG1.o.lt;omega)));have HPL:=h_ hpl;have HTO:=h_ (show∀b,b<w.heap.size→(Value.slice n.sA n.S.length n.sc).ownBlock≠some b→G2.heap[b]?=w.heap[b]? from fun b h8 h9=>(hO2.block b (by have:=HG2.o.size;omega) (fun e=>h9 (by rw [hqg,e]))).trans (HG2.o.block b h8));have HZ2:=h_ (show w.heap.size≤G2.heap.size by have:=HG2.o.size;omega);have HOS:=h_ (show G2.os=w.os∧G2.tape=w.tape∧G2.output=w.output from⟨hO2.os.trans HG2.o.os,hO2.tape.trans HG2.o.tape,hO2.output.trans HG2.o.output⟩);clear hPC hPS hpe hO2 hz2 hfree hql hqg hpl hG2 e5 e6 e7 e8 e9 f5 f6 f7 f8 f9 b0 b1 b2 b3 b4 bz hgB hBg hgG;refine HPC.o.mono ?_;rintro r w4 ⟨rfl,A',c',hp4⟩;have HP4:=h_ hp4;clear hp4;go_wp2_with fail
  refine bodyPost_end (results_none rfl _ _ _) rfl ⟨rfl,l2,A',c',_,HS2.o.posted (by decide) HP4.o HKK.o,HD2.o,?_,?_,?_⟩
  ·rw [List.map_append,List.map_map,←HKD.o,List.map_map];rfl
  ·have h7:=HG1.o.lt;exact HBL.o.trans (HP4.o.turned.below HK.o.lo (fun y hy=>by have:=HPL.o y hy;omega) (by have:=HS2.o.lt;omega))
  ·exact m209_
  ),P):=⟨@q6_⟩
  exact m125_
  ),P):=⟨@q6_⟩
  exact m97_)
 ),P):=⟨@q6_⟩
 exact m81_
 ),P):=⟨@q6_⟩
 exact m120_
 ),P):=⟨@q6_⟩
 exact m189_
end Go.Proofs.YtacacoklddogmaaGreatDoor
