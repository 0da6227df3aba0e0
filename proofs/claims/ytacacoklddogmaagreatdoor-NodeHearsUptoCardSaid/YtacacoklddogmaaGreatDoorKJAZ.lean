/- Lemmas. -/
import Derived.Test.YtacacoklddogmaaGreatDoorKJAC
import Derived.Test.YtacacoklddogmaaGreatDoorKJBA
namespace Go.Proofs.YtacacoklddogmaaGreatDoor
set_option maxHeartbeats 4000000
open Go.ChangeShapes Go.WideShapes Go.ChangeAt Go.RowKit
set_option maxRecDepth 100000
theorem m154_{P:Prop}(h:P:=by
 rintro H ⟨h1,h2⟩;have HH1:=h_ h1;have HH2:=h_ h2;clear h1 h2;obtain⟨x0,x1,x2,x3,x4,x5,x6,x7,x8,x9,xz⟩:=j_ HH1.o.busy.blk;have hll:(n.link 0 (openL n.ep)).S.length=n.S.length:=by simp [NodeV.link]
 have hk0: ∀h:0<(n.link 0 (openL n.ep)).S.length,(n.link 0 (openL n.ep)).S[0].k=openL n.ep∧(n.link 0 (openL n.ep)).S[0].p=n.S[0].p:=fun h=>by simp [NodeV.link,List.getD_eq_getElem?_getD,List.getElem?_eq_getElem hs]
 have x1':H.cell? ⟨X,1,none⟩=some (.int .i64 n.ep):=x1;have x2':H.cell? ⟨X,2,none⟩=some (.int .i64 n.up):=x2;have hs':0<(n.link 0 (openL n.ep)).S.length:=by rw [hll];exact hs
 exact k154_.o _):P:=h
theorem m243_{P:Prop}(h:P:=by
 go_wp2_with fail
 obtain⟨m',A',c',L',q1,q2,q3,q4⟩:=hq;exact bodyPost_end (results_none rfl _ _ _) rfl ⟨rfl,m',A',c',L',q1,q2,q3,HH2.o.trans (Below.trans (show Below base H _ from bz_) q4)⟩):P:=h
theorem m262_{P:Prop}(h:P:=by
 rintro e w' ⟨rfl,n',A',c',L',h1,h2,h3,h4⟩;exact⟨rfl,⟨n',A',c',L',s.RA,s.rc,s.RL⟩,h1,rs_ (s:=s) (s':=⟨n',A',c',L',s.RA,s.rc,s.RL⟩) h2 h3 rfl,h4⟩):P:=h
def joinF (e u:Int):FrameV:=⟨2,u,e,⟨none,0,[]⟩,⟨#[]⟩⟩
theorem kl_{e:Int}(h:1<=e∧e<=1048576):linkMay (openL e):=by
 unfold linkMay linkNums linkLens linkNone framesOk openL;simp;omega
theorem go_(e:Int):(openL e).Small:=⟨Nat.zero_le _,Nat.zero_le _,(by intro f hf;cases hf),(by intro f hf;cases hf)⟩
theorem sc_(S:Nat->Prop)(w:World)(e:Int):(openL e).InS S w:=⟨Sl.nil,(by intro f hf;cases hf),Sl.nil,(by intro f hf;cases hf)⟩
section
variable(w:World) (base X:Nat) (n:NodeV) (A RA:OA_) (c rc:Nat) (L:List PostV) (RL:List RecV) (hs:0<n.S.length) (hT: ∀W,Below base w W->Tabs W)
include w base X n A RA c rc L RL hs hT
theorem bbx_(h:EditAt 71 w base X n A c L RA rc RL)(he:1<=n.ep∧n.ep<=1048576)(hl:L.length<=1099511000000):
 Calls Tryz.prog 75 #[.pointer (some ⟨X,0,none⟩)] w fun e w'=>e= .returned (.tuple #[])∧ ∃n' A' c' L',EditAt 71 w' base X n' A' c' L' RA rc RL∧n'.d=sentD (n.link 0 (openL n.ep)) 0 (joinF n.ep n.up).d∧L'.map PostV.d=L.map PostV.d++sentP (n.link 0 (openL n.ep)) 0 (joinF n.ep n.up).d∧Below base w w':=by
 obtain⟨g,hg⟩: ∃g,n.sA=some ⟨g,0,none⟩:=by
  exact m207_
 have HOG:=h_ (fun W=>sd_ n.ep W he.1 he.2);have HT:=h_ hT;have HB:=h_ h;have HG:=h_ hg;have HE:=h_ he;obtain⟨x0,x1,x2,x3,x4,x5,x6,x7,x8,x9,xz⟩:=j_ HB.o.busy.blk;rw [hg]at x5;clear hg hT h he;go_enter Tryz.func75,Tryz.ntmps75
 go_wp2_with fail
 refine(cm_ _ X).mono ?_;rintro r w1 ⟨rfl,rfl⟩;go_wp2_with fail
 refine(HOG.o _).mono ?_;rintro r w1 ⟨rfl,hb1⟩;have HB1:=h_ hb1;have HK:=h_ (HB.o.la hb1);clear hb1 x0 x1 x2 x3 x4 x5 x6 x7 x8 x9 xz;have hgw:g<w1.heap.size:=by
  have hr:=HK.o.busy.srow;rw [HG.o]at hr;exact(hr.lt g rfl).2
 go_wp2_with fail
 have hbx:Below w1.heap.size w1 (w1.alloc (.cells #[.int .i64 n.ep,.int .i64 1,.slice none 0 0,.slice none 0 0,.int .i64 0] 58)):=bA_;obtain⟨B,hB⟩:=q2_ (w1.heap.size);rw [<-hB];refine ja_ (fun G=>EditAt 71 G base X n A c L RA rc RL∧Below w.heap.size w G∧G.heap[B]?=some (.cells #[.int .i64 n.ep,.int .i64 1,.slice none 0 0,.slice none 0 0,.int .i64 0] 58 (0,0))) ⟨HK.o.la hbx,bThen HB1.o hbx,by rw [hB];exact World.alloc_heap_new _ _⟩ ?_;rintro G ⟨g1,g2,g6⟩;have HG1:=h_ g1;have HG2:=h_ g2;have hgB: ¬g=B:=by omega
 have hBg: ¬B=g:=by omega
 have hgG:g<G.heap.size:=by have:=(Array.getElem?_eq_some_iff.1 g6).1;omega
 have hr:=g1.busy.srow;rw [HG.o]at hr;have hlen:(n.S.flatMap SideV.cells).length=n.S.length*10:=by have h9:=hr.1;exact h9
 have e5: ∃v,G.cell? ⟨g,5,none⟩=some v:=⟨_,by rw [hr.cellAt 5 (by omega)];exact List.getElem?_eq_getElem (by omega)⟩
 have e6: ∃v,G.cell? ⟨g,6,none⟩=some v:=⟨_,by rw [hr.cellAt 6 (by omega)];exact List.getElem?_eq_getElem (by omega)⟩
 have e7: ∃v,G.cell? ⟨g,7,none⟩=some v:=⟨_,by rw [hr.cellAt 7 (by omega)];exact List.getElem?_eq_getElem (by omega)⟩
 have e8: ∃v,G.cell? ⟨g,8,none⟩=some v:=⟨_,by rw [hr.cellAt 8 (by omega)];exact List.getElem?_eq_getElem (by omega)⟩
 have e9: ∃v,G.cell? ⟨g,9,none⟩=some v:=⟨_,by rw [hr.cellAt 9 (by omega)];exact List.getElem?_eq_getElem (by omega)⟩
 obtain⟨v5,e5⟩:=e5;obtain⟨v6,e6⟩:=e6;obtain⟨v7,e7⟩:=e7;obtain⟨v8,e8⟩:=e8;obtain⟨v9,e9⟩:=e9;have fr:=hr.frozenAt;have f5:=fr 5;have f6:=fr 6;have f7:=fr 7;have f8:=fr 8;have f9:=fr 9;obtain⟨b0,b1,b2,b3,b4,_,_,_,_,_,bz⟩:=a_ g6;obtain⟨_,_,_,_,_,x5,_,_,_,_,xz⟩:=j_ g1.busy.blk;rw [HG.o]at x5;clear hB g1 g2 g6 hr hlen fr hbx;have HS:=h_ (show EditAt 71 (((((G.setCell ⟨g,5,none⟩ (.int .i64 n.ep)).setCell ⟨g,6,none⟩ (.int .i64 1)).setCell ⟨g,7,none⟩ (.slice none 0 0)).setCell ⟨g,8,none⟩ (.slice none 0 0)).setCell ⟨g,9,none⟩ (.int .i64 0)) base X (n.link 0 (openL n.ep)) A c L RA rc RL from HG1.o.touched ⟨rfl,rfl,rfl⟩ ⟨rfl,rfl,rfl⟩ (by simp [NodeV.sOwn,NodeV.link]) (HG1.o.busy.setLink (by decide) hs HG.o (openL n.ep) (sc_ _ _ _)) (fy_ ((((q5_.trans q5_).trans q5_).trans q5_).trans q5_) (by rw [NodeV.sOwn,HG.o];rfl)));have hO2:Only g G (((((G.setCell ⟨g,5,none⟩ (.int .i64 n.ep)).setCell ⟨g,6,none⟩ (.int .i64 1)).setCell ⟨g,7,none⟩ (.slice none 0 0)).setCell ⟨g,8,none⟩ (.slice none 0 0)).setCell ⟨g,9,none⟩ (.int .i64 0)):=(((q5_.trans q5_).trans q5_).trans q5_).trans q5_;have hgb:base<=g:=by
  have hr:=HG1.o.busy.srow;rw [HG.o]at hr;exact(hr.lt g rfl).1
 have hbw:base<w.heap.size:=by have:=HB.o.busy.lt;have:=HB.o.busy.lo;omega
 have HBL:=h_ (show Below base w (((((G.setCell ⟨g,5,none⟩ (.int .i64 n.ep)).setCell ⟨g,6,none⟩ (.int .i64 1)).setCell ⟨g,7,none⟩ (.slice none 0 0)).setCell ⟨g,8,none⟩ (.slice none 0 0)).setCell ⟨g,9,none⟩ (.int .i64 0))from(HG2.o.mono (by omega)).trans (hO2.below hgb (by have:=HG2.o.size;omega)));clear hO2;go_region
 all_goals(
  refine u_ (fun H=>EditAt 71 H base X (n.link 0 (openL n.ep)) A c L RA rc RL∧Below base w H) ⟨HS.o.la (Below.drew (Below.refl _ _)),HBL.o.trans ((Below.drew (Below.refl _ _)).mono (by have:=HBL.o.size;omega))⟩ ?_;clear e5 e6 e7 e8 e9 f5 f6 f7 f8 f9 b0 b1 b2 b3 b4 bz x5 xz HS HBL;have k154_:K_ (∀(P:Prop) (h:P:=by
  have HSN:Hid (∀W,Below H.heap.size H W->Calls Tryz.prog 77 #[.pointer (some ⟨X,0,none⟩),.int .i64 0,.agg #[.int .i64 2,.int .i64 n.up,.int .i64 n.ep,.slice none 0 0,.string ⟨#[]⟩]] W fun e w'=>e= .returned (.tuple #[])∧ ∃n' A' c' L',EditAt 71 w' base X n' A' c' L' RA rc RL∧n'.d=sentD (n.link 0 (openL n.ep)) 0 (joinF n.ep n.up).d∧L'.map PostV.d=L.map PostV.d++sentP (n.link 0 (openL n.ep)) 0 (joinF n.ep n.up).d∧Below base W w'):=h_ (fun W hb=>by
   have hk:=hk0 hs';exact bby_ W base X (n.link 0 (openL n.ep)) A RA c rc L RL 0 hs' (joinF n.ep n.up) (HT.o W (HH2.o.trans (hb.mono (by have:=HH2.o.size;omega)))) (HH1.o.la hb) (by rw [hk.1];exact go_ _) Sl.nil ⟨⟨Nat.zero_le _,(by intro p hp;cases hp)⟩,Nat.zero_le _⟩ hl)
  clear x0 x1 x2 x3 x4 x5 x6 x7 x8 x9;go_wp2_with fail
  go_region_law (go_simp;go_at_call 77;refine(HSN.o _ bz_).mono ?_;rintro r w4 ⟨rfl,hq⟩)
  all_goals(
   exact m243_)
  ),P):=⟨@q6_⟩
  exact m154_)
theorem vb_(h:EditAt 35 w base X n A c L RA rc RL)(he:1<=n.ep∧n.ep<=1048576)(hl:L.length<=1099511000000):
 Calls Tryz.prog 38 #[.pointer (some ⟨X,0,none⟩)] w fun e w'=>e= .returned (.tuple #[])∧ ∃n' A' c' L',EditAt 35 w' base X n' A' c' L' RA rc RL∧n'.d=sentD (n.link 0 (openL n.ep)) 0 (joinF n.ep n.up).d∧L'.map PostV.d=L.map PostV.d++sentP (n.link 0 (openL n.ep)) 0 (joinF n.ep n.up).d∧Below base w w':=by
 obtain⟨g,hg⟩: ∃g,n.sA=some ⟨g,0,none⟩:=by
  exact m207_
 have HOG:=h_ (fun W=>ly_ n.ep W he.1 he.2);have HT:=h_ hT;have HB:=h_ h;have HG:=h_ hg;have HE:=h_ he;obtain⟨x0,x1,x2,x3,x4,x5,x6,x7,x8,x9,xz⟩:=j_ HB.o.busy.blk;rw [hg]at x5;clear hg hT h he;go_enter Tryz.func38,Tryz.ntmps38
 go_wp2_with fail
 go_region_law (go_simp;go_at_call 40;refine(HOG.o _).mono ?_;rintro r w1 ⟨rfl,hb1⟩;have HB1:=h_ (show Below w.heap.size w w1 from bThen bz_ hb1);have HG1:=h_ (HB.o.la HB1.o);obtain⟨_,_,_,_,_,y5,_,_,_,_,yz⟩:=j_ HG1.o.busy.blk;rw [HG.o]at y5;have hr:=HG1.o.busy.srow;rw [HG.o]at hr;have hlen:(n.S.flatMap SideV.cells).length=n.S.length*10:=hr.1;have hgG:g<w1.heap.size:=(hr.lt g rfl).2;have fr:=hr.frozenAt;(obtain⟨v5,e5⟩: ∃v,w1.cell? ⟨g,5,none⟩=some v:=⟨_,by rw [hr.cellAt 5 (by omega)];exact List.getElem?_eq_getElem (by omega)⟩);have f5:=fr 5;(obtain⟨v6,e6⟩: ∃v,w1.cell? ⟨g,6,none⟩=some v:=⟨_,by rw [hr.cellAt 6 (by omega)];exact List.getElem?_eq_getElem (by omega)⟩);have f6:=fr 6;(obtain⟨v7,e7⟩: ∃v,w1.cell? ⟨g,7,none⟩=some v:=⟨_,by rw [hr.cellAt 7 (by omega)];exact List.getElem?_eq_getElem (by omega)⟩);have f7:=fr 7;(obtain⟨v8,e8⟩: ∃v,w1.cell? ⟨g,8,none⟩=some v:=⟨_,by rw [hr.cellAt 8 (by omega)];exact List.getElem?_eq_getElem (by omega)⟩);have f8:=fr 8;(obtain⟨v9,e9⟩: ∃v,w1.cell? ⟨g,9,none⟩=some v:=⟨_,by rw [hr.cellAt 9 (by omega)];exact List.getElem?_eq_getElem (by omega)⟩);have f9:=fr 9)
 all_goals(
  have HS:=h_ (show EditAt 35 (((((w1.setCell ⟨g,5,none⟩ (.int .i64 n.ep)).setCell ⟨g,6,none⟩ (.int .i64 1)).setCell ⟨g,7,none⟩ (.slice none 0 0)).setCell ⟨g,8,none⟩ (.slice none 0 0)).setCell ⟨g,9,none⟩ (.int .i64 0)) base X (n.link 0 (openL n.ep)) A c L RA rc RL from HG1.o.touched ⟨rfl,rfl,rfl⟩ ⟨rfl,rfl,rfl⟩ (by simp [NodeV.sOwn,NodeV.link]) (HG1.o.busy.setLink (by decide) hs HG.o (openL n.ep) (sc_ _ _ _)) (fy_ ((((q5_.trans q5_).trans q5_).trans q5_).trans q5_) (by rw [NodeV.sOwn,HG.o];rfl)));have hO2:Only g w1 (((((w1.setCell ⟨g,5,none⟩ (.int .i64 n.ep)).setCell ⟨g,6,none⟩ (.int .i64 1)).setCell ⟨g,7,none⟩ (.slice none 0 0)).setCell ⟨g,8,none⟩ (.slice none 0 0)).setCell ⟨g,9,none⟩ (.int .i64 0)):=(((q5_.trans q5_).trans q5_).trans q5_).trans q5_;have hgb:base<=g:=by
   have hr:=HG1.o.busy.srow;rw [HG.o]at hr;exact(hr.lt g rfl).1
  have hbw:base<w.heap.size:=by have:=HB.o.busy.lt;have:=HB.o.busy.lo;omega
  have HBL:=h_ (show Below base w (((((w1.setCell ⟨g,5,none⟩ (.int .i64 n.ep)).setCell ⟨g,6,none⟩ (.int .i64 1)).setCell ⟨g,7,none⟩ (.slice none 0 0)).setCell ⟨g,8,none⟩ (.slice none 0 0)).setCell ⟨g,9,none⟩ (.int .i64 0))from(HB1.o.mono (by omega)).trans (hO2.below hgb (by have:=HB1.o.size;omega)));clear hO2;refine u_ (fun H=>EditAt 35 H base X (n.link 0 (openL n.ep)) A c L RA rc RL∧Below base w H) ⟨HS.o.la (by repeat(first | exact Below.refl _ _ | apply Below.drew)),HBL.o.trans (show Below base _ _ from(by repeat(first | exact Below.refl _ _ | apply Below.drew)))⟩ ?_;clear e5 e6 e7 e8 e9 f5 f6 f7 f8 f9 y5 yz HS HBL hr hlen fr hb1;clear x0 x1 x2 x3 x4 x5 x6 x7 x8 x9 xz;have k154_:K_ (∀(P:Prop) (h:P:=by
  have HSN:Hid (∀W,Below H.heap.size H W->Calls Tryz.prog 41 #[.pointer (some ⟨X,0,none⟩),.int .i64 0,.agg #[.int .i64 2,.int .i64 n.up,.int .i64 n.ep,.slice none 0 0,.string ⟨#[]⟩]] W fun e w'=>e= .returned (.tuple #[])∧ ∃n' A' c' L',EditAt 35 w' base X n' A' c' L' RA rc RL∧n'.d=sentD (n.link 0 (openL n.ep)) 0 (joinF n.ep n.up).d∧L'.map PostV.d=L.map PostV.d++sentP (n.link 0 (openL n.ep)) 0 (joinF n.ep n.up).d∧Below base W w'):=h_ (fun W hb=>by
   have hk:=hk0 hs';exact xh_ W base X (n.link 0 (openL n.ep)) A RA c rc L RL 0 hs' (joinF n.ep n.up) (HT.o W (HH2.o.trans (hb.mono (by have:=HH2.o.size;omega)))) (HH1.o.la hb) (by rw [hk.1];exact go_ _) Sl.nil ⟨⟨Nat.zero_le _,(by intro p hp;cases hp)⟩,Nat.zero_le _⟩ hl)
  clear x0 x1 x2 x3 x4 x5 x6 x7 x8 x9;go_wp2_with fail
  go_region_law (go_simp;go_at_call 41;refine(HSN.o _ bz_).mono ?_;rintro r w4 ⟨rfl,hq⟩)
  all_goals(
   exact m243_)
  ),P):=⟨@q6_⟩
  exact m154_)
end
def Makes (T:TypeId) (base X:Nat) (w:World) (D:EdD) (e:Ending) (w':World):Prop:=e= .returned (.tuple #[])∧ ∃s',EdAt T w' base X s'∧s'.d=D∧Below base w w'
noncomputable def joinDD (D:EdD):EdD:=sendDD (linkDD D 0 (openL D.n.ep).d []) 0 (joinF D.n.ep D.n.up).d
noncomputable def awayDD (D:EdD) (up:Int):EdD:=joinDD ⟨awayN D.n up,D.L,D.R⟩
theorem rs_{s s':EdV}(hn:s'.n.d=sentD (s.n.link 0 (openL s.n.ep)) 0 (joinF s.n.ep s.n.up).d)(hL:s'.L.map PostV.d=s.L.map PostV.d++sentP (s.n.link 0 (openL s.n.ep)) 0 (joinF s.n.ep s.n.up).d)(hR:s'.RL=s.RL):s'.d=joinDD s.d:=by
 have h1:linkDD s.d 0 (openL s.d.n.ep).d []=(s.link 0 (openL s.n.ep)).d:=by
  rw [yl_];unfold linkDD;simp
 obtain⟨d1,d2,d3⟩:=nn_ (s.link 0 (openL s.n.ep)) 0 (joinF s.n.ep s.n.up).d;unfold joinDD;rw [h1];refine EdD.ext' (hn.trans d1.symm) (hL.trans d2.symm) ?_;show s'.RL.map RecV.key=_;rw [hR];exact d3.symm
section
variable(w:World) (base X:Nat) (s:EdV) (hs:0<s.n.S.length) (hT: ∀W,Below base w W->Tabs W)
include w base X s hs hT
theorem bch_(h:EdAt 71 w base X s)(he:1<=s.n.ep∧s.n.ep<=1048576)(hl:s.L.length<=1099511000000):
 Calls Tryz.prog 75 #[.pointer (some ⟨X,0,none⟩)] w (Makes 71 base X w (joinDD s.d)):=by
 refine(bbx_ w base X s.n s.A s.RA s.c s.rc s.L s.RL hs hT h he hl).mono ?_;exact m262_
theorem rt_(h:EdAt 35 w base X s)(he:1<=s.n.ep∧s.n.ep<=1048576)(hl:s.L.length<=1099511000000):
 Calls Tryz.prog 38 #[.pointer (some ⟨X,0,none⟩)] w (Makes 35 base X w (joinDD s.d)):=by
 refine(vb_ w base X s.n s.A s.RA s.c s.rc s.L s.RL hs hT h he hl).mono ?_;exact m262_
end
def awayS (x:SideD):SideD:=⟨x.p,false,0,0,[],⟨0,1,[],[],0⟩⟩
def awayK (D:EdD) (k:Nat):EdD:=⟨⟨D.n.me,D.n.ep,D.n.up,false,⟨#[]⟩,(D.n.S.take k).map awayS++D.n.S.drop k,[],[]⟩,D.L,D.R⟩
section
variable {s s':EdV}{k:Nat}(h:s'.d=awayK s.d k)
include s s' k h
theorem bbt_:s'.n.S.length=s.n.S.length:=by
 have h1:s'.n.S.map SideV.d=((s.n.S.map SideV.d).take k).map awayS++(s.n.S.map SideV.d).drop k:=congrArg (fun d:EdD=>d.n.S) h;have:=congrArg List.length h1;simp at this;omega
theorem zz_(hk:k<s.n.S.length)(hk':k<s'.n.S.length):(s'.side k ⟨s'.n.S[k].p,false,0,0,none,0,[],⟨0,1,none,0,[],none,0,[],0⟩⟩).d=awayK s.d (k+1):=by
 have h1:s'.n.S.map SideV.d=((s.n.S.map SideV.d).take k).map awayS++(s.n.S.map SideV.d).drop k:=congrArg (fun d:EdD=>d.n.S) h;have h2:s'.n.S[k].p=s.n.S[k].p:=by
  have h3:=congrArg (fun L=>L[k]?) h1;simp only [List.getElem?_map,List.getElem?_eq_getElem hk']at h3;rw [List.getElem?_append_right (by simp;omega)]at h3;simp [Nat.min_eq_left (Nat.le_of_lt hk),List.getElem?_drop,List.getElem?_eq_getElem hk]at h3;exact h3.1
 rw [ix_,h];unfold awayK;congr 2;rw [h2];simp only;have hl:k<(s.n.S.map SideV.d).length:=by simpa using hk
 rw [List.set_append_right _ _ (by simp;omega),List.take_succ_eq_append_getElem hl,List.map_append,List.append_assoc];congr 1;have h0:k - (((s.n.S.map SideV.d).take k).map awayS).length=0:=by simp;omega
 rw [h0,List.drop_eq_getElem_cons hl,List.set_cons_zero];simp [awayS]
end
theorem zy_{s s':EdV}(h:s'.d=awayK s.d s.n.S.length):s'.d=⟨⟨s.n.me,s.n.ep,s.n.up,false,⟨#[]⟩,s.d.n.S.map awayS,[],[]⟩,s.d.L,s.d.R⟩:=by
 rw [h];unfold awayK;have e:s.n.S.length=s.d.n.S.length:=by simp
 rw [e,List.take_length,List.drop_length,List.append_nil]
theorem sn_{s:EdV}{i:Nat}{p:PacketD}(hi:i<s.n.S.length):
 sessDD s.d i p=if decide (isNext s.n.S[i].k.d p)=true then toldDD (linkDD s.d i (fillL (nextL s.n.S[i].k.d p)) (heardPk s.n.S[i].k.d p)) i (heardF s.n.S[i].k.d p)else linkDD s.d i (fillL (nextL s.n.S[i].k.d p)) (heardPk s.n.S[i].k.d p):=by
 have hg:s.d.n.S.getD i default=s.n.S[i].d:=by
  exact m237_
 unfold sessDD;rw [hg];by_cases hn:isNext s.n.S[i].k.d p
 ·rw [show heardF s.n.S[i].k.d p=p.frame from if_pos hn,decide_eq_true hn,if_pos rfl,if_pos hn]
 ·rw [decide_eq_false hn,if_neg hn];exact(if_neg (by decide)).symm
theorem rx_(s:EdV)(i:Nat)(l:LinkV)(A:OA_)(c:Nat)(K:List PacketV)(h:i<(s.link i l).n.S.length):((s.link i l).post A c ((s.link i l).n.S[i]'h).p K).d=linkDD s.d i l.d (K.map PacketV.d):=by
 rw [ys_,yl_];unfold linkDD;have hp:((s.link i l).n.S[i]'h).p=(s.d.n.S.getD i default).p:=by
  show _=((s.n.S.map SideV.d).getD i default).p;rw [ci_];simp [NodeV.link]
 rw [hp]
theorem oz_{s:EdV}{i:Nat}{l:LinkV}(hS:s.n.Small)(hi:i<s.n.S.length)(hl:l.Small):(s.link i l).n.Small:=by
 refine⟨hS.text,by simp [NodeV.link];exact hS.sl,fun x hx=>?_,hS.ul,hS.undo,hS.ml⟩;have hx':x∈s.n.S.set i ⟨(s.n.S.getD i default).p,(s.n.S.getD i default).j,(s.n.S.getD i default).s,(s.n.S.getD i default).h,(s.n.S.getD i default).A,(s.n.S.getD i default).c,(s.n.S.getD i default).L,l⟩:=hx;rcases List.mem_or_eq_of_mem_set hx' with hm | rfl
 ·exact hS.sides x hm
 ·have hg:s.n.S.getD i default=s.n.S[i]:=by rw [List.getD_eq_getElem?_getD,List.getElem?_eq_getElem hi];rfl
  have h9:=hS.sides _ (List.getElem_mem hi);rw [<-hg]at h9;exact⟨h9.len,h9.ops,hl⟩
theorem gn_(x:LinkD)(p:PacketD):(heardPk x p).length<=9:=by
 have h1:=co_ (nextL x p);unfold heardPk;split
 ·omega
 ·simp only [List.length_append,List.length_cons,List.length_nil];omega
theorem kr_{L:List FrameV}{f:FrameV}(h:f.d∈L.map FrameV.d)(hk: ∀g∈L,g.Small):f.Small:=by
 obtain⟨g,hg,e⟩:=List.mem_map.1 h;exact be_ (L:= [g]) (L':= [f]) (by simp [e]) (by simpa using hk g hg) f (by simp)
structure SessSmall (LD:LinkD) (FD:FrameD):Prop where
 link: ∀l:LinkV,l.d=LD->l.Small
 op:SmallD FD.op
theorem jp_{l:LinkV}{p:PacketV}(hk:linkMay l)(hm:l.Small)(hf:p.f.Small):SessSmall (fillL (nextL l.d p.d)) (heardF l.d p.d):=by
 refine⟨fun l' hd=>?_,?_⟩
 ·have hs:l'.s.map FrameV.d=(nextL l.d p.d).s++(nextL l.d p.d).q.take (fillN (nextL l.d p.d)):=congrArg LinkD.s hd;have hq:l'.q.map FrameV.d=(nextL l.d p.d).q.drop (fillN (nextL l.d p.d)):=congrArg LinkD.q hd;have hf8:=(co_ (nextL l.d p.d)).2;have h8:=hk.2.1.1;have hnq:(nextL l.d p.d).q=l.q.map FrameV.d:=rfl;have hns:(∀f∈(nextL l.d p.d).s,f∈l.s.map FrameV.d)∧(nextL l.d p.d).s.length<=l.s.length:=by
   show(∀f∈ackS l.d p.ak,_)∧(ackS l.d p.ak).length<=_;unfold ackS;split
   ·exact⟨fun f hf=>List.mem_of_mem_drop hf,by simp⟩
   ·exact⟨fun f hf=>hf,by simp⟩
  have l1:=congrArg List.length hs;have l2:=congrArg List.length hq;rw [hnq]at l1 l2 hs hq;simp only [List.length_map,List.length_append,List.length_take,List.length_drop]at l1 l2;refine⟨by have:=hm.sl;omega,by have:=hm.ql;omega,fun f hf=>?_,fun f hf=>?_⟩
  ·have:f.d∈l'.s.map FrameV.d:=List.mem_map.2 ⟨f,hf,rfl⟩;rw [hs]at this;rcases List.mem_append.1 this with q | q
   ·exact kr_ (hns.1 _ q) hm.s
   ·exact kr_ (List.mem_of_mem_take q) hm.q
  ·have:f.d∈l'.q.map FrameV.d:=List.mem_map.2 ⟨f,hf,rfl⟩;rw [hq]at this;exact kr_ (List.mem_of_mem_drop this) hm.q
 ·unfold heardF;split
  ·exact⟨hf.op.len,hf.op.text⟩
  ·exact⟨by simp,by simp⟩
theorem bft_{WA w2 G:World}{lo B F:Nat}{l:LinkV}{fA A:Option Addr}{fp:List PartD}{K:List PacketV}(h2:Two B F w2 G)(hB:WA.heap.size<=B∧(B<lo∨w2.heap.size<=B))(hF:WA.heap.size<=F∧(F<lo∨w2.heap.size<=F))(hb:Below WA.heap.size WA w2)(hlo:WA.heap.size<=lo)
 (hl:l.InS (fun b=>lo<=b∧b<w2.heap.size) w2) (ho:OpIn (fun b=>lo<=b∧b<w2.heap.size) w2 fA fp) (hp:PksS (fun b=>lo<=b∧b<w2.heap.size) w2 A K):
 Below WA.heap.size WA G∧l.InS (fun b=>WA.heap.size<=b∧b<G.heap.size) G∧OpIn (fun b=>WA.heap.size<=b∧b<G.heap.size) G fA fp∧PksS (fun b=>WA.heap.size<=b∧b<G.heap.size) G A K:=by
 have key: ∀b,(lo<=b∧b<w2.heap.size)->(WA.heap.size<=b∧b<G.heap.size)∧G.heap[b]?=w2.heap[b]?:=fun b k=>⟨⟨by omega,Nat.lt_of_lt_of_le k.2 h2.size⟩,h2.block b k.2 (by omega) (by omega)⟩
 exact⟨hb.trans (h2.below hB.1 hF.1 hb.size),hl.mv key,ho.mv key,hp.mv key⟩
theorem Two.alloc{R F:Nat}{w w1:World}(h:Two R F w w1)(o:Obj):Two R F w (w1.alloc o):=
 ⟨h.os,h.tape,h.output,by rw [World.size_alloc];have:=h.size;omega,fun k hk h1 h2=>(q_ _ _ _ (Nat.lt_of_lt_of_le hk h.size)).trans (h.block k hk h1 h2)⟩
theorem Two.refl(R F:Nat)(w:World):Two R F w w:=⟨rfl,rfl,rfl,Nat.le_refl _,fun _ _ _ _=>rfl⟩
theorem Two.only{R F B:Nat}{w w1 w2:World}(h:Two R F w w1)(k:Only B w1 w2)(hB:B=R∨B=F):Two R F w w2:=
 ⟨k.os.trans h.os,k.tape.trans h.tape,k.output.trans h.output,Nat.le_trans h.size k.size,fun x hx h1 h2=>(k.block x (Nat.lt_of_lt_of_le hx h.size) (by rcases hB with rfl | rfl <;> assumption)).trans (h.block x hx h1 h2)⟩
theorem ep_(w:World)(o:Obj)(cs:Array Value)(t:TypeId):((w.alloc o).alloc (.cells cs t)).heap[w.heap.size+1]?=some (.cells cs t (0,0)):=by
 have h:=World.alloc_heap_new (w.alloc o) (.cells cs t);rwa [World.size_alloc]at h
def SessRel (WA:World) (LD:LinkD) (FD:FrameD) (told:Bool) (PD:List PacketD) (sl sf st sp se:Value) (G:World):Prop:=
 ∃(B F:Nat) (l:LinkV) (fA:OA_) (fc:Nat) (A:OA_) (c:Nat) (K:List PacketV),(sl= .pointer (some ⟨B,0,none⟩)∧sf= .pointer (some ⟨F,0,none⟩)∧st= .bool told∧sp= .slice A K.length c∧se= .int .i64 0)∧(l.d=LD∧K.map PacketV.d=PD)∧Below WA.heap.size WA G∧(WA.heap.size<=B∧WA.heap.size<=F)∧LinkAt G B l∧FrameAt G F FD.kind FD.heard FD.epoch fA FD.op.length fc FD.text∧l.InS (fun b=>WA.heap.size<=b∧b<G.heap.size) G∧OpIn (fun b=>WA.heap.size<=b∧b<G.heap.size) G fA FD.op∧PksS (fun b=>WA.heap.size<=b∧b<G.heap.size) G A K
theorem gw_{WA w2 G:World}{lo B F fc c:Nat}{l:LinkV}{fA A:Option Addr}{K:List PacketV}{LD:LinkD}{FD:FrameD}{told:Bool}{PD:List PacketD}(h2:Two B F w2 G)(hL:LinkAt G B l)(hFr:FrameAt G F FD.kind FD.heard FD.epoch fA FD.op.length fc FD.text)(hB:WA.heap.size<=B∧(B<lo∨w2.heap.size<=B))(hF:WA.heap.size<=F∧(F<lo∨w2.heap.size<=F))(hb:Below WA.heap.size WA w2)(hlo:WA.heap.size<=lo)
 (hd:l.d=LD) (hk:K.map PacketV.d=PD) (hl:l.InS (fun b=>lo<=b∧b<w2.heap.size) w2) (ho:OpIn (fun b=>lo<=b∧b<w2.heap.size) w2 fA FD.op) (hp:PksS (fun b=>lo<=b∧b<w2.heap.size) w2 A K):
 SessRel WA LD FD told PD (.pointer (some ⟨B,0,none⟩)) (.pointer (some ⟨F,0,none⟩)) (.bool told) (.slice A K.length c) (.int .i64 0) G:=by
 obtain⟨r1,r2,r3,r4⟩:=bft_ h2 hB hF hb hlo hl ho hp;exact⟨B,F,l,fA,fc,A,c,K,⟨rfl,rfl,rfl,rfl,rfl⟩,⟨hd,hk⟩,r1,⟨hB.1,hF.1⟩,hL,hFr,r2,r3,r4⟩
theorem so_{w:World}{B:Nat}{v0 v1 v2 v3 v4 x0 x1 x2 x3 x4:Value}{t s:TypeId}{cs:Array Value}(h:w.heap[B]?=some (.cells #[v0,v1,v2,v3,v4] t (0,0))):
 ((((((w.setCell ⟨B, 0, none⟩ x0).setCell ⟨B, 1, none⟩ x1).setCell ⟨B, 2, none⟩ x2).setCell ⟨B, 3, none⟩ x3).setCell ⟨B, 4, none⟩ x4).alloc (.cells cs s)).heap[B]? = some (.cells #[x0, x1, x2, x3, x4] t (0, 0)) ∧
   ((((((w.setCell ⟨B,0,none⟩ x0).setCell ⟨B,1,none⟩ x1).setCell ⟨B,2,none⟩ x2).setCell ⟨B,3,none⟩ x3).setCell ⟨B,4,none⟩ x4).alloc (.cells cs s)).heap[w.heap.size]?=some (.cells cs s (0,0))∧
   ∀R F,B=R∨B=F->Two R F w ((((((w.setCell ⟨B,0,none⟩ x0).setCell ⟨B,1,none⟩ x1).setCell ⟨B,2,none⟩ x2).setCell ⟨B,3,none⟩ x3).setCell ⟨B,4,none⟩ x4).alloc (.cells cs s)):=by
 obtain⟨a1,a2⟩:=eo_ (x0:=x0) (x1:=x1) (x2:=x2) (x3:=x3) (x4:=x4) h;have hz:(((((w.setCell ⟨B,0,none⟩ x0).setCell ⟨B,1,none⟩ x1).setCell ⟨B,2,none⟩ x2).setCell ⟨B,3,none⟩ x3).setCell ⟨B,4,none⟩ x4).heap.size=w.heap.size:=by simp [World.setCell]
 generalize((((w.setCell ⟨B,0,none⟩ x0).setCell ⟨B,1,none⟩ x1).setCell ⟨B,2,none⟩ x2).setCell ⟨B,3,none⟩ x3).setCell ⟨B,4,none⟩ x4=W at*;refine⟨(q_ _ _ _ (Array.getElem?_eq_some_iff.1 a1).1).trans a1,?_,fun R F hB=>((Two.refl R F w).only a2 hB).alloc _⟩;rw [<-hz];exact World.alloc_heap_new _ _
section
variable {WA w2:World}{lo n m fc c:Nat}{l:LinkV}{fA A:Option Addr}{K:List PacketV}{LD:LinkD}{FD:FrameD}{told:Bool}{PD:List PacketD}(hb:Below WA.heap.size WA w2)(hlo:WA.heap.size<=lo)
 (hd:l.d=LD) (hk:K.map PacketV.d=PD) (hl:l.InS (fun b=>lo<=b∧b<w2.heap.size) w2) (ho:OpIn (fun b=>lo<=b∧b<w2.heap.size) w2 fA FD.op) (hp:PksS (fun b=>lo<=b∧b<w2.heap.size) w2 A K)
include hb hlo hd hk hl ho hp
theorem yv_:SessRel WA LD FD told PD (.pointer (some ⟨w2.heap.size,0,none⟩)) (.pointer (some ⟨w2.heap.size+1,0,none⟩)) (.bool told) (.slice A K.length c) (.int .i64 0) ((w2.alloc (.cells #[.int .i64 l.e,.int .i64 l.n,.slice l.sA l.s.length l.sc,.slice l.qA l.q.length l.qc,.int .i64 l.h] 58)).alloc (.cells #[.int .i64 FD.kind,.int .i64 FD.heard,.int .i64 FD.epoch,.slice fA FD.op.length fc,.string FD.text] 46)):=
 gw_ (((Two.refl _ _ _).alloc _).alloc _) ((q_ _ _ _ (by simp)).trans (World.alloc_heap_new _ _)) (ep_ _ _ _ _) ⟨hb.size,.inr (Nat.le_refl _)⟩ ⟨by have:=hb.size;omega,.inr (by omega)⟩ hb hlo hd hk hl ho hp
theorem yw_:SessRel WA LD FD told PD (.pointer (some ⟨w2.heap.size+1,0,none⟩)) (.pointer (some ⟨w2.heap.size,0,none⟩)) (.bool told) (.slice A K.length c) (.int .i64 0) ((w2.alloc (.cells #[.int .i64 FD.kind,.int .i64 FD.heard,.int .i64 FD.epoch,.slice fA FD.op.length fc,.string FD.text] 46)).alloc (.cells #[.int .i64 l.e,.int .i64 l.n,.slice l.sA l.s.length l.sc,.slice l.qA l.q.length l.qc,.int .i64 l.h] 58)):=
 gw_ (((Two.refl _ _ _).alloc _).alloc _) (ep_ _ _ _ _) ((q_ _ _ _ (by simp)).trans (World.alloc_heap_new _ _)) ⟨by have:=hb.size;omega,.inr (by omega)⟩ ⟨hb.size,.inr (Nat.le_refl _)⟩ hb hlo hd hk hl ho hp
theorem yx_(H:w2.heap[n]?=some (.cells #[.int .i64 0,.int .i64 0,.slice none 0 0,.slice none 0 0,.int .i64 0] 58 (0,0)))(hn:WA.heap.size<=n∧n<lo):SessRel WA LD FD told PD (.pointer (some ⟨n,0,none⟩)) (.pointer (some ⟨w2.heap.size,0,none⟩)) (.bool told) (.slice A K.length c) (.int .i64 0) ((((((w2.setCell ⟨n,0,none⟩ (.int .i64 l.e)).setCell ⟨n,1,none⟩ (.int .i64 l.n)).setCell ⟨n,2,none⟩ (.slice l.sA l.s.length l.sc)).setCell ⟨n,3,none⟩ (.slice l.qA l.q.length l.qc)).setCell ⟨n,4,none⟩ (.int .i64 l.h)).alloc (.cells #[.int .i64 FD.kind,.int .i64 FD.heard,.int .i64 FD.epoch,.slice fA FD.op.length fc,.string FD.text] 46)):=by
 obtain⟨a1,a2,a3⟩:=so_ (x0:= .int .i64 l.e) (x1:= .int .i64 l.n) (x2:= .slice l.sA l.s.length l.sc) (x3:= .slice l.qA l.q.length l.qc) (x4:= .int .i64 l.h) (cs:= #[.int .i64 FD.kind,.int .i64 FD.heard,.int .i64 FD.epoch,.slice fA FD.op.length fc,.string FD.text]) (s:=46) H;exact gw_ (a3 _ _ (.inl rfl)) a1 a2 ⟨hn.1,.inl hn.2⟩ ⟨hb.size,.inr (Nat.le_refl _)⟩ hb hlo hd hk hl ho hp
theorem yy_(H:w2.heap[n]?=some (.cells #[.int .i64 0,.int .i64 0,.int .i64 0,.slice none 0 0,.string ⟨#[]⟩] 46 (0,0)))(hn:WA.heap.size<=n∧n<lo):SessRel WA LD FD told PD (.pointer (some ⟨w2.heap.size,0,none⟩)) (.pointer (some ⟨n,0,none⟩)) (.bool told) (.slice A K.length c) (.int .i64 0) ((((((w2.setCell ⟨n,0,none⟩ (.int .i64 FD.kind)).setCell ⟨n,1,none⟩ (.int .i64 FD.heard)).setCell ⟨n,2,none⟩ (.int .i64 FD.epoch)).setCell ⟨n,3,none⟩ (.slice fA FD.op.length fc)).setCell ⟨n,4,none⟩ (.string FD.text)).alloc (.cells #[.int .i64 l.e,.int .i64 l.n,.slice l.sA l.s.length l.sc,.slice l.qA l.q.length l.qc,.int .i64 l.h] 58)):=by
 obtain⟨a1,a2,a3⟩:=so_ (x0:= .int .i64 FD.kind) (x1:= .int .i64 FD.heard) (x2:= .int .i64 FD.epoch) (x3:= .slice fA FD.op.length fc) (x4:= .string FD.text) (cs:= #[.int .i64 l.e,.int .i64 l.n,.slice l.sA l.s.length l.sc,.slice l.qA l.q.length l.qc,.int .i64 l.h]) (s:=58) H;exact gw_ (a3 _ _ (.inr rfl)) a2 a1 ⟨hb.size,.inr (Nat.le_refl _)⟩ ⟨hn.1,.inl hn.2⟩ hb hlo hd hk hl ho hp
theorem la_(H:w2.heap[n]?=some (.cells #[.int .i64 0,.int .i64 0,.slice none 0 0,.slice none 0 0,.int .i64 0] 58 (0,0)))(H':w2.heap[m]?=some (.cells #[.int .i64 0,.int .i64 0,.int .i64 0,.slice none 0 0,.string ⟨#[]⟩] 46 (0,0)))(hn:(WA.heap.size<=n∧n<lo)∧(WA.heap.size<=m∧m<lo)∧n≠m):SessRel WA LD FD told PD (.pointer (some ⟨n,0,none⟩)) (.pointer (some ⟨m,0,none⟩)) (.bool told) (.slice A K.length c) (.int .i64 0) ((((((((((w2.setCell ⟨n,0,none⟩ (.int .i64 l.e)).setCell ⟨n,1,none⟩ (.int .i64 l.n)).setCell ⟨n,2,none⟩ (.slice l.sA l.s.length l.sc)).setCell ⟨n,3,none⟩ (.slice l.qA l.q.length l.qc)).setCell ⟨n,4,none⟩ (.int .i64 l.h)).setCell ⟨m,0,none⟩ (.int .i64 FD.kind)).setCell ⟨m,1,none⟩ (.int .i64 FD.heard)).setCell ⟨m,2,none⟩ (.int .i64 FD.epoch)).setCell ⟨m,3,none⟩ (.slice fA FD.op.length fc)).setCell ⟨m,4,none⟩ (.string FD.text)):=by
 obtain⟨a1,a2,a3⟩:=bv_ (x0:= .int .i64 l.e) (x1:= .int .i64 l.n) (x2:= .slice l.sA l.s.length l.sc) (x3:= .slice l.qA l.q.length l.qc) (x4:= .int .i64 l.h) (y0:= .int .i64 FD.kind) (y1:= .int .i64 FD.heard) (y2:= .int .i64 FD.epoch) (y3:= .slice fA FD.op.length fc) (y4:= .string FD.text) H H' hn.2.2 rfl;exact gw_ a3 a1 a2 ⟨hn.1.1,.inl hn.1.2⟩ ⟨hn.2.1.1,.inl hn.2.1.2⟩ hb hlo hd hk hl ho hp
end
theorem sm_{D:EdD}{i:Nat}{p:PacketD}(h:p.frame.kind=2):sessDD D i p=linkDD D i (fillL (nextL (D.n.S.getD i default).k p)) (heardPk (D.n.S.getD i default).k p):=by
 have ht: ∀D',toldDD D' i p.frame=D':=fun D'=>by
  unfold toldDD;rw [if_neg (by rw [h];intro k;exact absurd k.1 (by decide)),if_neg (by rw [h];intro k;exact absurd k.1 (by decide))]
 unfold sessDD;dsimp only;split
 ·exact ht _
 ·rfl
theorem nb_{p:PacketD}(he:packetFault p=0):0<=p.epoch∧p.epoch<=1048576:=by
 exact m256_
theorem openMay{e:Int}(h:1<=e∧e<=1048576):linkMay ⟨e,1,none,0,[],none,0,[],0⟩:=kl_ h
structure Joined (s:EdV) (i:Nat) (p:PacketD) (s2:EdV):Prop where
 len:s2.n.S.length=s.n.S.length
 link: ∀h:i<s2.n.S.length,(s2.n.S[i]'h).k.Small
 t:s2.n.t=s.n.t
 l:s2.L.length<=s.L.length+9
 d:sendDD s2.d i ⟨3,0,p.epoch,[],s.n.t⟩=joinedDD s.d i p
theorem ow_{s:EdV}{i:Nat}{p:PacketV}{s2:EdV}(hi:i<s.n.S.length)(hk:p.f.k=2)(he:1<=p.ep∧p.ep<=1048576)(hf:p.f.Small)(hd:s2.d=sessDD (s.side i ⟨s.n.S[i].p,true,0,0,none,0,[],⟨p.ep,1,none,0,[],none,0,[],0⟩⟩).d i p.d):Joined s i p.d s2:=by
 have hg:s.d.n.S.getD i default=s.n.S[i].d:=by
  exact m237_
 have hi':i<s.d.n.S.length:=by simpa using hi
 have hg2:(s.side i ⟨s.n.S[i].p,true,0,0,none,0,[],⟨p.ep,1,none,0,[],none,0,[],0⟩⟩).d.n.S.getD i default=⟨s.n.S[i].p,true,0,0,[],⟨p.ep,1,[],[],0⟩⟩:=by
  rw [ix_];dsimp only;rw [List.getD_eq_getElem?_getD,List.getElem?_set_self hi'];rfl
 have hsm:=jp_ (l:=⟨p.ep,1,none,0,[],none,0,[],0⟩) (p:=p) (openMay he) ⟨by simp,by simp,by simp,by simp⟩ hf;have h9:=hd.trans (sm_ (show p.d.frame.kind=2 from hk));rw [hg2]at h9;have h8:=h9;unfold linkDD at h8;have hS:s2.n.S.map SideV.d=_:=congrArg (fun d:EdD=>d.n.S) h8;have hL:s2.L.map PostV.d=_:=congrArg EdD.L h8;refine⟨?_,fun h=>?_,congrArg (fun d:EdD=>d.n.t) h8,?_,?_⟩
 ·have:=congrArg List.length hS;simpa [NodeV.side]using this
 ·refine hsm.link _ ?_;have h7:=congrArg (fun L=>L[i]?) hS;simp only [List.getElem?_map,List.getElem?_eq_getElem h,Option.map_some]at h7;rw [List.getElem?_set_self (by simpa [NodeV.side]using hi)]at h7;exact congrArg SideD.k (Option.some.inj h7)
 ·have h1:=congrArg List.length hL;have h2:=gn_ (⟨p.ep,1,[],[],0⟩:LinkD) p.d;simp only [List.length_map,List.length_append]at h1;have h3:(s.side i ⟨s.n.S[i].p,true,0,0,none,0,[],⟨p.ep,1,none,0,[],none,0,[],0⟩⟩).d.L.length=s.L.length:=by simp
  omega
 ·unfold joinedDD;rw [hd,ix_,hg];rfl
end Go.Proofs.YtacacoklddogmaaGreatDoor
