/- Lemmas. -/
import Derived.Test.YtacacoklddogmaaGreatDoorKJAC
import Derived.Test.YtacacoklddogmaaGreatDoorKJAU
import Derived.Test.YtacacoklddogmaaGreatDoorKJBA
import Derived.BigRegion
namespace Go.Proofs.YtacacoklddogmaaGreatDoor
set_option maxHeartbeats 4000000
open Go.ChangeShapes Go.WideShapes Go.ChangeAt Go.RowKit
set_option maxRecDepth 100000
theorem _root_.Go.Shut.o{p:Prop}(h:Shut p):p:=h
theorem m70_{P:Prop}(h:P:=by
 obtain⟨up,hup⟩:=q2_ ((decide (s.n.me=0) || decide (0<i)));have HUP:=h_ hup;have k171_:K_ (∀(P:Prop) (h:P:=by
 have HT:=h_ hT;have HB:=h_ h;have HK:=h_ (EdAt.la h HBA.o);have HFM:=h_ hfm;have HS:=h_ hS;have HLR:=h_ (And.intro hL hR);have HI:=h_ hi;obtain⟨g,hg⟩: ∃g,s.n.sA=some ⟨g,0,none⟩:=by
  exact m207_
 have HG:=h_ hg;have hr:=HK.o.busy.srow;rw [HG.o]at hr;have hgz:g<WA.heap.size:=(hr.lt g rfl).2;have hcs: ∀j u,(SideV.cells s.n.S[i])[j]?=some u->WA.cell? ⟨g,i*10+j,none⟩=some u:=fun j u hu=>by
  have hj:j<10:=by
   have:=(List.getElem?_eq_some_iff.1 hu).1;rwa [SideV.cells_len]at this
  exact m259_
 have s2:WA.cell? ⟨g,i*10+2,none⟩=some (.int .i64 s.n.S[i].s):=hcs 2 _ rfl;have s3:WA.cell? ⟨g,i*10+3,none⟩=some (.int .i64 s.n.S[i].h):=hcs 3 _ rfl;have s4:WA.cell? ⟨g,i*10+4,none⟩=some (.slice s.n.S[i].A s.n.S[i].L.length s.n.S[i].c):=hcs 4 _ rfl;obtain⟨x0,x1,x2,x3,x4,x5,x6,x7,x8,x9,xz⟩:=j_ HK.o.busy.blk;rw [hg]at x5;obtain⟨q0,q1,q2,q3,q4,_,_,_,_,_,qz⟩:=a_ HFA.o;have HSB:=h_ (show∀w',Below WA.heap.size WA w'->(w'.cell? ⟨X,0,none⟩=some (.int .i64 s.n.me)∧w'.cell? ⟨X,5,none⟩=some (.slice (some ⟨g,0,none⟩) s.n.S.length s.n.sc)∧w'.cell? ⟨g,i*10+2,none⟩=some (.int .i64 s.n.S[i].s)∧w'.cell? ⟨g,i*10+3,none⟩=some (.int .i64 s.n.S[i].h)∧w'.cell? ⟨g,i*10+4,none⟩=some (.slice s.n.S[i].A s.n.S[i].L.length s.n.S[i].c)∧w'.cell? ⟨w.heap.size,1,none⟩=some (.int .i64 f.h)∧w'.cell? ⟨w.heap.size,3,none⟩=some (.slice f.o.A f.o.ps.length f.o.c))from fun w' hb=>⟨(hb.cell (p:=⟨X,0,none⟩) xz).trans x0,(hb.cell (p:=⟨X,5,none⟩) xz).trans x5,(hb.cell (p:=⟨g,i*10+2,none⟩) hgz).trans s2,(hb.cell (p:=⟨g,i*10+3,none⟩) hgz).trans s3,(hb.cell (p:=⟨g,i*10+4,none⟩) hgz).trans s4,(hb.cell (p:=⟨w.heap.size,1,none⟩) qz).trans q1,(hb.cell (p:=⟨w.heap.size,3,none⟩) qz).trans q3⟩);have HBW:=h_ (show Below base w WA from HBA.o.mono h.base_le);have HLI:=h_ (show OpsIn WA s.n.S[i].A s.n.S[i].L from((HK.o.busy.side _ (List.getElem_mem hi)).in_ (fun b hb=>hb.1.2)).ops);have HOF:=h_ (show OpIn (· <WA.heap.size) WA f.o.A f.o.ps from Sl.la (hf.mv (S':=(· <w.heap.size)) fun b hb=>⟨hb.lt,rfl⟩) HBA.o);have HSI:=h_ (hS.sides _ (List.getElem_mem hi));exact k70_.o _
 ),P):=⟨@q6_⟩
 exact m171_):P:=h
theorem m82_{P:Prop}(h:P:=by
 unfold RetApply at HAP;rw [HG.o]at x5;go_wp2_with fail
 refine(HAP.o wc (HT.o _ HTG.o.2.1) (HOG.o.mv fun b hb=>⟨hb.lt,rfl⟩)).mono ?_;rintro r w2 ⟨rfl,hb2⟩;have HT2:=h_ (HTG.o.la hb2);have HO2:=h_ (HOG.o.mv fun b hb=>(Stay.of_below hb2 b hb));have HS2:=h_ (HSG.o.mv (S':=FreeX w2 base X (Value.slice s.A s.L.length s.c).ownBlock s.n.sOwn [s.n.mOwn,s.n.uOwn,(Value.slice s.RA s.RL.length s.rc).ownBlock]) (w':=w2) fun b hb=>⟨⟨⟨hb.1.1,Nat.lt_of_lt_of_le hb.1.2 hb2.size⟩,hb.2⟩,hb2.block b hb.1.2⟩);have HE2:=h_ ((hb2.block B bz).trans HEB.o);clear hb2 b0 b1 b2 bz x4 x5 xz HAP;by_cases h2:applyErr s.n.t op=0
 case neg=>
  have hne:(applyErr s.n.t op !=0)=true:=by simpa using h2
  have HD:=h_ (rp_ (f:=f.d) HI.o HUP.o HR0.o rfl h2);clear h2;go_wp2_with fail
  exact bodyPost_ret (results_none rfl _ _ _) rfl ⟨rfl,s,HT2.o.1,HD.o.symm,HT2.o.2.1,HT2.o.2.2⟩
 have HD:=h_ (rq_ (f:=f.d) HI.o HUP.o HR0.o rfl h2);rw [h2];clear h2;obtain⟨b0,b1,b2,_,_,_,bz⟩:=b_ HE2.o;obtain⟨_,_,_,_,x4,x5,_,_,_,_,xz⟩:=j_ HT2.o.1.busy.blk;have f4x:=tenF HT2.o.1.busy.blk 4;rw [HG.o]at x5;have hr:=HT2.o.1.busy.srow;rw [HG.o]at hr;have hlen:(s.n.S.flatMap SideV.cells).length=s.n.S.length*10:=by have h9:=hr.1;exact h9
 have hi:=HI.o;have e2: ∃v,w2.cell? ⟨g,i*10+2,none⟩=some v:=⟨_,by rw [hr.cellAt (i*10+2) (by omega)];exact List.getElem?_eq_getElem (by omega)⟩
 have e3: ∃v,w2.cell? ⟨g,i*10+3,none⟩=some v:=⟨_,by rw [hr.cellAt (i*10+3) (by omega)];exact List.getElem?_eq_getElem (by omega)⟩
 have e4: ∃v,w2.cell? ⟨g,i*10+4,none⟩=some v:=⟨_,by rw [hr.cellAt (i*10+4) (by omega)];exact List.getElem?_eq_getElem (by omega)⟩
 obtain⟨v2,e2⟩:=e2;obtain⟨v3,e3⟩:=e3;obtain⟨v4,e4⟩:=e4;have fr:=hr.frozenAt;have f2:=fr (i*10+2);have f3:=fr (i*10+3);have f4:=fr (i*10+4);have hgl:=(hr.lt g rfl).2;exact k82_.o _):P:=h
theorem m93_{P:Prop}(h:P:=by
 clear hme;refine wp_region_held_drew (S:=fun w'=>w'.cell? ⟨X,0,none⟩=some (.int .i64 s.n.me)∧w'.cell? ⟨X,5,none⟩=some (.slice (some ⟨g,0,none⟩) s.n.S.length s.n.sc)∧w'.cell? ⟨g,i*10+2,none⟩=some (.int .i64 s.n.S[i].s)∧w'.cell? ⟨g,i*10+3,none⟩=some (.int .i64 s.n.S[i].h)∧w'.cell? ⟨g,i*10+4,none⟩=some (.slice s.n.S[i].A s.n.S[i].L.length s.n.S[i].c)∧w'.cell? ⟨w.heap.size,1,none⟩=some (.int .i64 f.h)∧w'.cell? ⟨w.heap.size,3,none⟩=some (.slice f.o.A f.o.ps.length f.o.c)) (by kernel_rfl) (HSB.o _ bz_) (fun hHeld=>?_);exact k93_.o _):P:=h
theorem m109_{P:Prop}(h:P:=by
 refine wpAnyH_ready (rs:= [27]) (by kernel_rfl) (by simp) (AllReadyH.cons rfl (fun K hK=>?_) AllReadyH.nil);go_simp
 (refine hK.o _ _ (HSB.o _ (bSet (bSet (bSet HB2 (Nat.le_refl _) _) (Nat.le_refl _) _) (Nat.le_refl _) _)) (fun hHeld=>?_));clear hK K;try simp only [q3_,q4_]
 refine ht_ 28 8 hHeld ?_;simp only [q3_,q4_];refine ht_ 29 9 hHeld ?_;simp only [q3_,q4_];refine wpAnyH_done (by kernel_rfl) ?_ _;go_wp2_with fail
 go_meet
 have hO:Only WA.heap.size w2 (((w2.setCell ⟨WA.heap.size,0,none⟩ (.int .i64 r0.1)).setCell ⟨WA.heap.size,1,none⟩ (.int .i64 r0.2.1)).setCell ⟨WA.heap.size,2,none⟩ (.slice A1 L1.length c1)):=(q5_.trans q5_).trans q5_;exact⟨WA.heap.size,A1,c1,L1,B1,cc1,rfl,rfl,rfl,hL1,HB2.trans (hO.below (Nat.le_refl _) HB2.size),Nat.le_refl _,f_ 2 _ (f_ 1 _ (f_ 0 _ HX2)),hs1.mv fun b hb=>⟨⟨by have:=hb.1;simp at this;omega,Nat.lt_of_lt_of_le hb.2 hO.size⟩,hO.block b hb.2 (by have:=hb.1;simp at this;omega)⟩,ho1.mv fun b hb=>⟨⟨by have:=hb.1;simp at this;omega,Nat.lt_of_lt_of_le hb.2 hO.size⟩,hO.block b hb.2 (by have:=hb.1;simp at this;omega)⟩⟩):P:=h
theorem m114_{P:Prop}(h:P:=by
 obtain⟨B,eA,ec,eL,oA,oc,rfl,rfl,rfl,hps,hbG,hBW,hE,hOS,hOI⟩:=hcut;obtain⟨es,eh,eP,op,er⟩:=r0;dsimp only at*;clear x0 x1 x2 x3 x4 x5 x6 x7 x8 x9 xz s2 s3 s4 q0 q1 q2 q3 q4 qz HSB HE HFA HOF HLI HSI hgz;have HTG:=h_ (Turns.of_below HB.o (bThen HBA.o hbG));have HOG:=h_ (hOI.mv (S':=Off wc X s) (w':=wc) fun b hb=>⟨HK.o.fresh hb.1 hb.2,rfl⟩);have HSG:=h_ (hOS.mv (S':=FreeX wc base X (Value.slice s.A s.L.length s.c).ownBlock s.n.sOwn [s.n.mOwn,s.n.uOwn,(Value.slice s.RA s.RL.length s.rc).ownBlock]) (w':=wc) fun b hb=>⟨HK.o.freshX hb.1 hb.2,rfl⟩);have HPS:=h_ hps;have HXB:=h_ (show X<WA.heap.size from HK.o.busy.lt);have HEB:=h_ hE;have HBW:=h_ hBW;clear hps hbG hBW hE hOS hOI;by_cases h1:er=0
 case neg=>
  have hne:(er !=0)=true:=by simpa using h1
  have HD:=h_ (ro_ (f:=f.d) HI.o HUP.o HR0.o h1);clear h1;go_wp2_with fail
  exact bodyPost_ret (results_none rfl _ _ _) rfl ⟨rfl,s,HTG.o.1,HD.o.symm,HTG.o.2.1,HTG.o.2.2⟩
 have H1:=h_ h1;subst h1;obtain⟨b0,b1,b2,_,_,_,bz⟩:=b_ HEB.o;obtain⟨_,_,_,_,x4,x5,_,_,_,_,xz⟩:=j_ HTG.o.1.busy.blk;exact k114_.o _):P:=h
theorem m123_{P:Prop}(h:P:=by
 refine wpAnyH_ready (rs:= [26]) (by kernel_rfl) (by simp) (AllReadyH.cons rfl (fun K hK=>?_) AllReadyH.nil);go_simp
 (refine hK.o _ _ (HSB.o _ bf_) (fun hHeld=>?_));clear hK K;try simp only [q3_,q4_]
 refine wpAnyH_ready (rs:= [27]) (by kernel_rfl) (by simp) (AllReadyH.cons rfl (fun K hK=>?_) AllReadyH.nil);go_simp
 (refine hK.o _ _ (HSB.o _ bf_) (fun hHeld=>?_));clear hK K;try simp only [q3_,q4_]
 refine ht_ 28 8 hHeld ?_;simp only [q3_,q4_];refine ht_ 29 9 hHeld ?_;simp only [q3_,q4_];refine wpAnyH_done (by kernel_rfl) ?_ _;go_wp2_with fail
 go_meet
 have hbx:Below w2.heap.size w2 (w2.alloc (.cells #[.int .i64 r0.1,.int .i64 r0.2.1,.slice A1 L1.length c1] 55)):=bA_;exact⟨w2.heap.size,A1,c1,L1,B1,cc1,rfl,rfl,rfl,hL1,bThen HB2 hbx,HB2.size,World.alloc_heap_new _ _,hs1.mv fun b hb=>⟨⟨hb.1,Nat.lt_of_lt_of_le hb.2 hbx.size⟩,hbx.block b hb.2⟩,ho1.mv fun b hb=>⟨⟨hb.1,Nat.lt_of_lt_of_le hb.2 hbx.size⟩,hbx.block b hb.2⟩⟩):P:=h
theorem m161_{P:Prop}(h:P:=by
 have HC:=h_ (HT2.o.trans hcut);have HO3:=h_ (HO2.o.mv fun b hb=>hcut.2.2 b hb);have HD2:=h_ (show((s.edge i es eh eA ec eL).withT (applyText s.n.t op)).d=textD (edgeHD s.d i es eh eP) (applyText s.n.t op) by
  rw [<-HPS.o,<-yb_ s i es eh eA ec eL];rfl)
 have HSM:=h_ (show∀x∈((s.edge i es eh eA ec eL).withT (applyText s.n.t op)).n.S,x.Small from oo_ HS.o.sides HI.o (by have h9:=HRS.o.len;rw [<-HPS.o,List.length_map]at h9;exact Nat.le_trans h9 (HS.o.sides _ (List.getElem_mem HI.o)).len) (fun o ho=>HRS.o.ops _ (by rw [<-HPS.o];exact List.mem_map.2 ⟨o,ho,rfl⟩)));have HSL:=h_ (show((s.edge i es eh eA ec eL).withT (applyText s.n.t op)).n.S.length=s.n.S.length by simp [NodeV.edge]);clear hcut;go_wp2_with fail
 exact k161_.o _):P:=h
theorem m171_{P:Prop}(h:P:=by
 have HFA:=h_ (show(w.alloc (.cells #[.int .i64 f.k,.int .i64 f.h,.int .i64 f.e,.slice f.o.A f.o.ps.length f.o.c,.string f.s] 46)).heap[w.heap.size]?=some (.cells #[.int .i64 f.k,.int .i64 f.h,.int .i64 f.e,.slice f.o.A f.o.ps.length f.o.c,.string f.s] 46 (0,0))from World.alloc_heap_new _ _);obtain⟨WA,hWA⟩:=q2_ (w.alloc (.cells #[.int .i64 f.k,.int .i64 f.h,.int .i64 f.e,.slice f.o.A f.o.ps.length f.o.c,.string f.s] 46));rw [<-hWA]at HFA;have HBA:=h_ (show Below w.heap.size w WA by rw [hWA];exact bA_);have HW:=h_ hWA.symm;exact k171_.o _):P:=h
theorem m176_{P:Prop}(h:P:=by
 rintro r w4 ⟨rfl,s3,k1,k2,k3,k4⟩;have HK3:=h_ (HC.o.trans ⟨k1,k3,k4⟩);have HO4:=h_ (HO3.o.mv fun b hb=>k4 b hb);have HD3:=h_ (k2.trans (by rw [HD2.o]));have HU3:=h_ (show s3.n.U.map OpV.ps=s.n.U.map OpV.ps from congrArg (fun d:EdD=>d.n.U) k2);have HE3:=h_ (show s3.n.S.map SideV.d=((s.edge i es eh eA ec eL).withT (applyText s.n.t op)).n.S.map SideV.d∧s3.L.length=s.L.length∧s3.RL.length=s.RL.length from⟨congrArg (fun d:EdD=>d.n.S) k2,mapLen (congrArg EdD.L k2),mapLen (congrArg EdD.R k2)⟩);clear k1 k2 k3 k4;exact k176_.o _):P:=h
theorem m227_{P:Prop}(h:P:=by
 have hXg: ¬X=g:=fun e=>hgX e.symm;have hrA:=HK.o.busy.srow;rw [HG.o]at hrA;have hgA:=(hrA.lt g rfl).2;have hBg: ¬B=g:=by have:=HBW.o;omega
 have hgB: ¬g=B:=fun e=>hBg e.symm;have hXB:=HXB.o;have hBX: ¬B=X:=by have:=HBW.o;omega
 have hXB': ¬X=B:=fun e=>hBX e.symm;have hil:(i:Int)<(s.n.S.length:Int):=by omega
 exact k227_.o _):P:=h
theorem m259_{P:Prop}(h:P:=by
 rw [hr.cellAt (i*10+j) (by omega),bx_ SideV.cells 10 SideV.cells_len s.n.S i j hi hj];exact hu):P:=h
theorem m268_{P:Prop}(h:P:=by
 have HX2:w2.heap[WA.heap.size]?=some (.cells #[.int .i64 0,.int .i64 0,.slice none 0 0] 55 (0,0)):=(hb2.block _ (by simp)).trans (World.alloc_heap_new _ _);obtain⟨z0,z1,z2,g0,g1,g2,zz2⟩:=b_ HX2
 (refine hK.o _ _ (HSB.o _ bf_) (fun hHeld=>?_));clear hK K;try simp only [q3_,q4_]
 exact k268_.o _):P:=h
abbrev EdV.withU (s:EdV) (uA:OA_) (uc:Nat) (U:List OpV):EdV:=⟨s.n.withU uA uc U,s.A,s.c,s.L,s.RA,s.rc,s.RL⟩
section
variable {T:TypeId}{W:World}{base X:Nat}{s:EdV}(hT:TurnT T)(h:EdAt T W base X s)
include T W base X s hT h
theorem EdAt.setUndo{k:Nat}{g:Nat}(hg:s.n.uA=some ⟨g,0,none⟩)(q:OpV)(hq:OpIn (FreeX W base X (Value.slice s.A s.L.length s.c).ownBlock s.n.sOwn [s.n.mOwn,s.n.uOwn,(Value.slice s.RA s.RL.length s.rc).ownBlock]) W q.A q.ps):
 EdAt T (W.setCell ⟨g,k,none⟩ q.val) base X (s.withU s.n.uA s.n.uc (s.n.U.set k q))∧Only g W (W.setCell ⟨g,k,none⟩ q.val)∧
  base<=g∧Stay W X s (W.setCell ⟨g,k,none⟩ q.val) (s.withU s.n.uA s.n.uc (s.n.U.set k q)):=by
 have hQ:s.n.uOwn=some g:=by rw [NodeV.uOwn,hg];rfl
 have hr:=h.urow;have hgl:=hr.lt g hQ;rw [hg]at hr;obtain⟨r1,t1⟩:=hr.stored k q.val;have hO:Only g W (W.setCell ⟨g,k,none⟩ q.val):=Only.set _ _ _;have hz:(W.setCell ⟨g,k,none⟩ q.val).heap.size=W.heap.size:=by simp [World.setCell]
 generalize W.setCell ⟨g,k,none⟩ q.val=W5 at*;have hgX:g≠X:=fun e=>s_ h.urow h.busy.blk hT.u (by rw [<-e];exact hQ);have hlen:(s.n.U.set k q).length=s.n.U.length:=by simp
 have hmo:(Value.slice s.n.uA (s.n.U.set k q).length s.n.uc).ownBlock=s.n.uOwn:=by rw [hlen]
 have hrow:W5.ownsRow base 30 1 (.slice s.n.uA (s.n.U.set k q).length s.n.uc) (s.n.U.set k q).length ((s.n.U.set k q).map OpV.val):=by
  rw [hlen,hg,List.map_set];exact r1
 refine⟨EditAt.undoRow hT h (Below.refl _ _) (w3:=W5) (fun o ho=>?_) ⟨hO.os,hO.tape,hO.output,hO.size,fun x h1 h2=>hO.block x h1 (fun e=>h2 (by rw [hQ,e]))⟩ hrow (.inl hmo) rfl (fun _ _=>rfl) ?_,hO,hgl.1,fun y hb=>?_⟩
 ·rcases List.mem_or_eq_of_mem_set ho with ho | rfl
  ·exact .inl ho
  ·exact .inr hq
 ·have:=(hO.block X h.busy.lt (fun e=>hgX e.symm)).trans h.busy.blk;rw [show turnCells (s.n.withU s.n.uA s.n.uc (s.n.U.set k q)) (.slice s.A s.L.length s.c) (.slice s.RA s.RL.length s.rc)=turnCells s.n (.slice s.A s.L.length s.c) (.slice s.RA s.RL.length s.rc) by simp only [turnCells,NodeV.withU,hlen]];exact this
 ·have hne:y≠g:=fun e=>hb.2.2.2.2 s.n.uOwn (by simp) (by rw [hQ,e]);refine⟨?_,hO.block y hb.1.2 hne⟩;have hmo':(s.n.withU s.n.uA s.n.uc (s.n.U.set k q)).uOwn=s.n.uOwn:=hmo;unfold Off;rw [hmo'];exact⟨⟨hb.1.1,by rw [hz];exact hb.1.2⟩,hb.2⟩
theorem EdAt.noUndo:
 EdAt T (W.setCell ⟨X,6,none⟩ (.slice none 0 0)) base X (s.withU none 0 [])∧Below base W (W.setCell ⟨X,6,none⟩ (.slice none 0 0))∧Stay W X s (W.setCell ⟨X,6,none⟩ (.slice none 0 0)) (s.withU none 0 []):=by
 have hO:Only X W (W.setCell ⟨X,6,none⟩ (.slice none 0 0)):=Only.set _ _ _;have hX:=f_ 6 (.slice none 0 0) h.busy.blk;have hz:(W.setCell ⟨X,6,none⟩ (.slice none 0 0)).heap.size=W.heap.size:=by simp [World.setCell]
 refine⟨EditAt.undoNew hT h (Below.refl _ _) ⟨World.ownsRow_nil _ _ _ _,by simp⟩ hz (fun b hb=>bH_ hb) hX,hO.below h.busy.lo h.base_le,fun y hb=>⟨?_,bH_ hb.2.1⟩⟩;refine⟨⟨hb.1.1,by rw [hz];exact hb.1.2⟩,hb.2.1,hb.2.2.1,hb.2.2.2.1,fun r hr=>?_⟩;simp only [List.mem_cons,List.not_mem_nil,or_false]at hr;rcases hr with rfl | rfl | rfl
 ·exact hb.2.2.2.2 s.n.mOwn (by simp)
 ·simp [NodeV.withU,NodeV.uOwn,Value.ownBlock]
 ·exact hb.2.2.2.2 _ (by simp)
end
theorem bhp_(w:World)(base X:Nat)(s:EdV)(pA:OA_)(pc:Nat)(ps:LP_)(hT: ∀W,Below base w W->Tabs W)(h:EdAt 71 w base X s)(hop:OpIn (Off w X s) w pA ps)(hsm:SmallD ps)(hl:s.n.U.length<=1048576)(hu: ∀q∈s.n.U,SmallD q.ps):
 Calls Tryz.prog 133 #[.pointer (some ⟨X,0,none⟩),.slice pA ps.length pc] w (Goes 71 base X w s (overDD ps s.d)):=by
 have HT:=h_ hT;have HB:=h_ h;have HOP:=h_ hop;have HSM:=h_ hsm;have HU:=h_ hu;have hbw:=h.base_le;clear hT h hop hsm hu;obtain⟨x0,x1,x2,x3,x4,x5,x6,x7,x8,x9,xz⟩:=j_ HB.o.busy.blk;have hw:wrap64 ((s.n.U.length:Int) - 1)=(s.n.U.length:Int) - 1:=by unfold wrap64;omega
 go_enter Tryz.func133,Tryz.ntmps133
 go_wp2_with fail
 refine(cm_ _ X).mono ?_;rintro r w1 ⟨rfl,rfl⟩;go_wp2_with fail
 go_loopw [1,5] (fun ov i wr=> ∃(z:Int) (k:Nat) (U:List OpV) (oA:OA_) (oc:Nat) (op:LP_),z+1=(k:Int)∧k<=s.n.U.length∧i= .int .i64 z∧ov= .slice oA op.length oc∧Hid (U.length=s.n.U.length)∧Hid (EdAt 71 wr base X (s.withU s.n.uA s.n.uc U))∧Hid (Below base w wr)∧Hid (Stay w X s wr (s.withU s.n.uA s.n.uc U))∧Hid (OpIn (Off wr X (s.withU s.n.uA s.n.uc U)) wr oA op)∧Hid (SmallD op)∧Hid (overG op (U.map OpV.ps) k=overG ps s.d.n.U s.d.n.U.length)∧Hid (∀q∈U,SmallD q.ps)) (fun _ i _=>(intOf i+1).toNat)
 case atStart=>exact⟨(s.n.U.length:Int) - 1,s.n.U.length,s.n.U,pA,pc,ps,by omega,Nat.le_refl _,rfl,rfl,h_ rfl,HB,h_ (Below.refl _ _),h_ (Stay.refl w X s),HOP,HSM,h_ (by show _=overG ps (s.n.U.map OpV.ps) (s.n.U.map OpV.ps).length;rw [List.length_map]),HU⟩
 case round=>
  obtain⟨z,k,U,oA,oc,op,hzk,hk,rfl,rfl,HUL,HR,HBW,HST,HO,HSO,HG,HUS⟩:=hrel;clear x0 x1 x2 x3 x4 x5 x6 x7 x8 x9 xz hw;obtain⟨_,_,_,_,_,_,x6,_,_,_,xz⟩:=j_ HR.o.busy.blk;replace x6:wr.cell? ⟨X,6,none⟩=some (.slice s.n.uA U.length s.n.uc):=x6
  have f6:=tenF HR.o.busy.blk 6;cases k with
  | zero=>
   obtain rfl:z= -1:=(by omega);have HGE:=h_ (show U.map OpV.ps=overG ps s.d.n.U s.d.n.U.length from HG.o);go_wp2_with fail
   refine bodyPost_end (results_none rfl _ _ _) rfl ⟨rfl,(s.withU s.n.uA s.n.uc U),HR.o,?_,HBW.o,HST.o⟩;refine EdD.ext' ?_ rfl rfl;show(⟨_,_,_,_,_,_,U.map OpV.ps,_⟩:NodeD)=_;rw [HGE.o];rfl
  | succ k=>
   obtain rfl:z=(k:Int):=(by omega);have hkU:k<U.length:=(by have:=HUL.o;omega);obtain⟨g,hg⟩: ∃g,s.n.uA=some ⟨g,0,none⟩:=by
    obtain⟨g,cap,hv,_,_⟩:=HB.o.urow.form (by omega);exact⟨g,by injection hv⟩
   have hur:=HR.o.urow;have c0:wr.cell? ⟨g,k,none⟩=some (.slice U[k].A U[k].ps.length U[k].c):=by
    have h9:wr.ownsRow base 30 1 (.slice s.n.uA U.length s.n.uc) U.length (U.map OpV.val):=hur;rw [hg]at h9;rw [h9.cellAt k (by omega),List.getElem?_map,List.getElem?_eq_getElem hkU];rfl
   have fg:wr.frozen? ⟨g,k,none⟩=false:=by
    have h9:wr.ownsRow base 30 1 (.slice s.n.uA U.length s.n.uc) U.length (U.map OpV.val):=hur;rw [hg]at h9;exact h9.frozenAt k
   have hgl:base<=g∧g<wr.heap.size:=hur.lt g (by show(Value.slice s.n.uA _ _).ownBlock=some g;rw [hg];rfl);have hgX: ¬g=X:=fun e=>s_ HR.o.urow HR.o.busy.blk bi_.u (by show(Value.slice s.n.uA _ _).ownBlock=some X;rw [hg,e];rfl);have hXg: ¬X=g:=fun e=>hgX e.symm;rw [hg]at x6;have HGU:=h_ hg;have HGD:=h_ (show(U.map OpV.ps).getD k []=U[k].ps by rw [List.getD_eq_getElem?_getD,List.getElem?_map,List.getElem?_eq_getElem hkU];rfl);have HKU:=h_ hkU;have HUP:=h_ (HUS.o _ (List.getElem_mem hkU));have HUI:=h_ (show OpIn (· <wr.heap.size) wr U[k].A U[k].ps from(HR.o.undo _ (List.getElem_mem hkU)).mv fun b hb=>⟨hb.1.2,rfl⟩);have hul:(k:Int)<(U.length:Int):=(by omega);have hw2:wrap64 ((k:Int) - 1)=(k:Int) - 1:=(by unfold wrap64;omega);clear hur hg;generalize U[k]=q at*;obtain⟨qA,qc,qp⟩:=q;dsimp only at c0;go_wp2_with fail
   have hwb:base<=wr.heap.size:=(by have:=HBW.o.size;omega);refine(ik_ wr oA qA oc qc op qp (HT.o _ HBW.o) (HO.o.mv fun b hb=>⟨hb.lt,rfl⟩) HUI.o HSO.o.1 HUP.o.1 HSO.o.2 HUP.o.2).mono ?_;rintro r w2 ⟨A1,c1,A2,c2,rfl,ho1,ho2,hb2⟩;have HR2:=h_ (EdAt.la HR.o hb2);have x6b:=(hb2.cell (p:=⟨X,6,none⟩) HR.o.busy.lt).trans x6;have f6b:=tenF HR2.o.busy.blk 6;have HB2:=h_ hb2;have HO1:=h_ ho1;have HO2:=h_ ho2;have fgb:=(hb2.frozen (p:=⟨g,k,none⟩) hgl.2).trans fg;have c0b:=(hb2.cell (p:=⟨g,k,none⟩) hgl.2).trans c0;clear x6 f6 fg c0 ho1 ho2 hb2;by_cases he:trE op qp=0
   · have HE:=h_ he
     rw [he];go_wp2_with fail
     go_region
     go_wp2_with fail
     obtain⟨W3,hW3⟩:=q2_ (w2.setCell ⟨g,k,none⟩ (.slice A2 (trR op qp).length c2));obtain⟨k1,k2,k3,k4⟩:=EdAt.setUndo (k:=k) bi_ HR2.o HGU.o ⟨A2,c2,trR op qp⟩ (HO2.o.mv fun b hb=>⟨EdAt.freshX HR.o hb.1 hb.2,rfl⟩);rw [show w2.setCell ⟨g,k,none⟩ (OpV.val ⟨A2,c2,trR op qp⟩)=W3 from hW3.symm]at k1 k2 k4;replace k1:EdAt 71 W3 base X (s.withU s.n.uA s.n.uc (U.set k ⟨A2,c2,trR op qp⟩)):=k1
     replace k4:Stay w2 X (s.withU s.n.uA s.n.uc U) W3 (s.withU s.n.uA s.n.uc (U.set k ⟨A2,c2,trR op qp⟩)):=k4
     rw [<-hW3];have hd:Below W3.heap.size W3 W3.drew:=(Below.refl _ _).drew;have hz2:=HB2.o.size;have hz3:=k2.size;have HS1:=h_ (Stay.of_below (X:=X) (s:=(s.withU s.n.uA s.n.uc U)) HB2.o);have HS2:=h_ k4;have HS3:=h_ (Stay.of_below (X:=X) (s:=(s.withU s.n.uA s.n.uc (U.set k ⟨A2,c2,trR op qp⟩))) hd);have HK1:=h_ (EdAt.la k1 hd);have HBD:=h_ (show Below base w W3.drew from((HBW.o.trans (HB2.o.mono hwb)).trans (k2.below k3 (by omega))).trans (hd.mono (by omega)));have HOD:=h_ (show OpIn (Off W3.drew X (s.withU s.n.uA s.n.uc (U.set k ⟨A2,c2,trR op qp⟩))) W3.drew A1 (trL op qp)from((HO1.o.mv (S':=Off w2 X (s.withU s.n.uA s.n.uc U)) (w':=w2) fun b hb=>⟨EdAt.fresh HR.o hb.1 hb.2,rfl⟩).mv fun b hb=>HS2.o b hb).mv fun b hb=>HS3.o b hb);clear hW3 k1 k2 k3 k4 hd hz2 hz3;go_roundw
     case rel=>
      refine⟨(k:Int) - 1,k,U.set k ⟨A2,c2,trR op qp⟩,A1,c1,trL op qp,by omega,by omega,rfl,rfl,h_ (by rw [List.length_set];exact HUL.o),HK1,HBD,h_ (fun b hb=>?_),HOD,h_ (ih_ _ _),h_ ?_,h_ (fun q hq=>?_)⟩
      · have a1:=HST.o b hb
        have a2:=HS1.o b a1.1;have a3:=HS2.o b a2.1;have a4:=HS3.o b a3.1;exact⟨a4.1,a4.2.trans (a3.2.trans (a2.2.trans a1.2))⟩
      · rw [List.map_set,<-HG.o,jl_ (by rw [HGD.o];exact HE.o),HGD.o]
      · rcases List.mem_or_eq_of_mem_set hq with hq | rfl
        · exact HUS.o q hq
        · exact gy_ _ _
     case measure=>simp [intOf]
   · have hne:(trE op qp !=0)=true:=by simpa using he
     have HNE:=h_ he;clear he;go_wp2_with fail
     obtain⟨k1,k2,k3⟩:=EdAt.noUndo bi_ HR2.o;refine bodyPost_ret (results_none rfl _ _ _) rfl ⟨rfl,(s.withU none 0 []),k1,?_,?_,?_⟩
     · refine EdD.ext' ?_ rfl rfl
       show(⟨_,_,_,_,_,_,[],_⟩:NodeD)=⟨_,_,_,_,_,_,overG ps s.d.n.U s.d.n.U.length,_⟩;rw [<-HG.o,jm_ (by rw [HGD.o];exact HNE.o)];rfl
     · exact(HBW.o.trans (HB2.o.mono hwb)).trans k2
     · intro b hb
       have a1:=HST.o b hb;have a2:=Stay.of_below (X:=X) (s:=(s.withU s.n.uA s.n.uc U)) HB2.o b a1.1;have a3:=k3 b a2.1;exact⟨a3.1,a3.2.trans (a2.2.trans a1.2)⟩
end Go.Proofs.YtacacoklddogmaaGreatDoor
