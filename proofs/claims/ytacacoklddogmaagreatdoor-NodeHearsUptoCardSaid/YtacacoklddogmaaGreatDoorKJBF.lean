/- Lemmas. -/
import Derived.Test.YtacacoklddogmaaGreatDoorKJAB
import Derived.Test.YtacacoklddogmaaGreatDoorKJAZ
import Derived.BigRegion
namespace Go.Proofs.YtacacoklddogmaaGreatDoor
set_option maxHeartbeats 4000000
open Go.ChangeShapes Go.WideShapes Go.ChangeAt Go.RowKit
set_option maxRecDepth 100000
theorem m216_{P:Prop}(h:P:=by
 rintro r w9 ⟨rfl,s9,k1,k2,k3⟩;have HK1:=h_ k1;have HK2:=h_ (show s9.d=awayDD s.d up by rw [k2,HVD.o];rfl);have HK3:=h_ ((HBW.o.trans HTU.o.2.1).trans k3);clear k1 k2 k3;go_wp2_with fail
 exact bodyPost_end (results_none rfl _ _ _) rfl ⟨rfl,s9,HK1.o,HK2.o,HK3.o⟩):P:=h
def RetTurnS (w:World) (D:EdD) (er:Int) (e:Ending) (w':World):Prop:=
 ∃s:EdV,e= .returned (.tuple #[.agg (turnCells s.n (.slice s.A D.L.length s.c) (.slice s.RA D.R.length s.rc)),.int .i64 er])∧s.d=D∧s.n.InS (fun b=>w.heap.size<=b∧b<w'.heap.size) w'∧PostsOwn w' w.heap.size s.A s.c s.L∧RecsOwn w' w.heap.size s.RA s.rc s.RL∧Below w.heap.size w w'
theorem RetTurnR.s{w w':World}{D:EdD}{er:Int}{e:Ending}(h:RetTurnR w D er e w'):RetTurnS w D er e w':=by
 obtain⟨s,rfl,rfl,h3,h4,h5,h6⟩:=h;exact⟨s,by simp,rfl,h3,h4,h5,h6⟩
section
variable(w:World) (T:OA_) (N Nc:Nat) (zs:List Int) (n:NodeV) (hT:Tabs w) (hi:n.In w) (hm:n.Small) (hz:Sl (· <w.heap.size) w 1 T N (zs.map (Value.int .i64))) (hN:N<=9223372036854775807) (pA:OA_) (pc:Nat) (ps:LP_) (hop:OpIn (· <w.heap.size) w pA ps) (hpl:ps.length<=1048576) (hpt: ∀p∈ps,p.text.size<=1048576)
include hT hi hm hz hN hop hpl hpt
end
theorem NodeFree.inS{w:World}{base:Nat}{n:NodeV}(h:NodeFree w base n):n.InS (fun b=>base<=b∧b<w.heap.size) w:=
 ⟨Sl.of_own _ h.srow,fun x hx=>(h.side x hx).mv fun _ k=>⟨k.1,rfl⟩,⟨Sl.of_own _ h.urow,fun o ho=>(h.undo o ho).mv fun _ k=>⟨k.1,rfl⟩⟩,Sl.of_own _ h.mrow⟩
structure TurnAt (W:World) (B:Nat) (D:EdD) (s:EdV):Prop where
 blk:W.heap[B]?=some (.cells (turnCells s.n (.slice s.A D.L.length s.c) (.slice s.RA D.R.length s.rc)) 35 (0,0))
 d:s.d=D
 n:s.n.In W
 p:PostsIn W s.A s.L
 r:RecsIn W s.RA s.RL
theorem TurnAt.la{W W':World}{B:Nat}{D:EdD}{s:EdV}(h:TurnAt W B D s)(hb:Below W.heap.size W W'):TurnAt W' B D s:=
 ⟨(hb.block _ (Array.getElem?_eq_some_iff.1 h.blk).1).trans h.blk,h.d,h.n.la hb,h.p.la hb,h.r.la hb⟩
theorem pp_{W:World}{base:Nat}{D:EdD}{s:EdV}(hd:s.d=D)(hin:s.n.InS (fun b=>base<=b∧b<W.heap.size) W)(hp:PostsOwn W base s.A s.c s.L)(hr:RecsOwn W base s.RA s.rc s.RL):
 TurnAt (W.alloc (.cells (turnCells s.n (.slice s.A D.L.length s.c) (.slice s.RA D.R.length s.rc)) 35)) W.heap.size D s:=
 ⟨World.alloc_heap_new _ _,hd,(hin.in_ (fun _ hb=>hb.2)).la bA_,hp.in_.la bA_,hr.in_.la bA_⟩
theorem bhm_(w:World)(base X:Nat)(s:EdV)(up:Int)(hs:0<s.n.S.length)(hSL:s.n.S.length<=1048576)(hT: ∀W,Below base w W->Tabs W)(h:EdAt 71 w base X s)(he:1<=s.n.ep∧s.n.ep<1048576)(hl:s.L.length<=1099511000000):
 Calls Tryz.prog 33 #[.pointer (some ⟨X,0,none⟩),.int .i64 up] w (Makes 71 base X w (awayDD s.d up)):=by
 have HT:=h_ hT;have HB:=h_ h;have HE:=h_ he;have HL:=h_ hl;have HSP:=h_ hs;obtain⟨x0,x1,x2,x3,x4,x5,x6,x7,x8,x9,xz⟩:=j_ HB.o.busy.blk;have f3:=tenF HB.o.busy.blk 3;have f4:=tenF HB.o.busy.blk 4;have f6:=tenF HB.o.busy.blk 6;have f7:=tenF HB.o.busy.blk 7;clear hT h he hl hs;go_enter Tryz.func33,Tryz.ntmps33
 go_wp2_with fail
 refine(cm_ _ X).mono ?_;rintro r w1 ⟨rfl,rfl⟩;go_upto_region 2 with fail
 obtain⟨W1,hW1⟩:=q2_ ((((w.setCell ⟨X,3,none⟩ (.bool false)).setCell ⟨X,4,none⟩ (.string ⟨#[]⟩)).setCell ⟨X,6,none⟩ (.slice none 0 0)).setCell ⟨X,7,none⟩ (.slice none 0 0));rw [<-hW1];have HK1:=h_ (show Turns 71 base X w s W1 ⟨⟨s.n.me,s.n.ep,s.n.up,false,⟨#[]⟩,s.n.sA,s.n.sc,s.n.S,none,0,[],none,0,[]⟩,s.A,s.c,s.L,s.RA,s.rc,s.RL⟩from
  HB.o.put bi_ (by rw [hW1];exact((q5_.trans q5_).trans q5_).trans q5_) (n':=⟨s.n.me,s.n.ep,s.n.up,false,⟨#[]⟩,s.n.sA,s.n.sc,s.n.S,none,0,[],none,0,[]⟩) ⟨rfl,rfl,rfl⟩ (.inr ⟨rfl,rfl,rfl⟩) (.inr ⟨rfl,rfl,rfl⟩)
   (by rw [hW1];exact f_ 7 _ (f_ 6 _ (f_ 4 _ (f_ 3 _ HB.o.busy.blk)))))
 clear hW1 x0 x1 x2 x3 x4 x5 x6 x7 x8 x9 xz f3 f4 f6 f7;obtain⟨_,_,_,_,_,x5,_,_,_,_,xz⟩:=j_ HK1.o.1.busy.blk;go_wp2_with fail
 go_loopw [25] (fun i wr=> ∃(k:Nat) (s':EdV),k<=s.n.S.length∧i= .int .i64 k∧Hid (EdAt 71 wr base X s')∧Hid (s'.d=awayK s.d k)∧Hid (Below base w wr)) (fun i _=>s.n.S.length - (intOf i).toNat)
 case atStart=>exact⟨0,_,Nat.zero_le _,rfl,h_ HK1.o.1,h_ (by unfold awayK;refine EdD.ext' ?_ rfl rfl;simp [NodeV.d]),h_ HK1.o.2.1⟩
 case round=>
  obtain⟨k,s',hk,rfl,HR,HD,HBW⟩:=hrel
  (try clear x5 xz)
  have hln:=bbt_ HD.o;by_cases hlt:k<s.n.S.length
  ·have hks:k<s'.n.S.length:=(by omega);obtain⟨g,hg⟩: ∃g,s'.n.sA=some ⟨g,0,none⟩:=by
    obtain⟨g,cap,hv,_,_⟩:=HR.o.busy.srow.form (by omega);exact⟨g,by injection hv⟩
   obtain⟨_,_,_,_,_,x5,_,_,_,_,xz⟩:=j_ HR.o.busy.blk;rw [hg,hln]at x5;have HG:=h_ hg;have hr:=HR.o.busy.srow;rw [HG.o]at hr;have hcs: ∀j u,(SideV.cells s'.n.S[k])[j]?=some u->wr.cell? ⟨g,k*10+j,none⟩=some u:=fun j u hu=>by
    have hj:j<10:=by
     exact m184_
    rw [hr.cellAt (k*10+j) (by omega),bx_ SideV.cells 10 SideV.cells_len s'.n.S k j hks hj];exact hu
   have e0:wr.cell? ⟨g,k*10,none⟩=some (.int .i64 s'.n.S[k].p):=hcs 0 _ rfl;have e1:wr.cell? ⟨g,k*10+1,none⟩=some (.bool s'.n.S[k].j):=hcs 1 _ rfl;have e2:=hcs 2 _ rfl;have e3:=hcs 3 _ rfl;have e4:=hcs 4 _ rfl;have e5:=hcs 5 _ rfl;have e6:=hcs 6 _ rfl;have e7:=hcs 7 _ rfl;have e8:=hcs 8 _ rfl;have e9:=hcs 9 _ rfl;have fr:=hr.frozenAt;have f0:=fr (k*10);have f1:=fr (k*10+1);have f2:=fr (k*10+2);have f3:=fr (k*10+3);have f4:=fr (k*10+4);have f5:=fr (k*10+5);have f6:=fr (k*10+6);have f7:=fr (k*10+7);have f8:=fr (k*10+8);have f9:=fr (k*10+9);have hki:(k:Int)<(s.n.S.length:Int):=(by omega);have HLT:=h_ hlt;have HSD:=h_ (zz_ HD.o hlt hks);have HTU:=h_ (show Turns 71 base X wr s' ((((((((((wr.setCell ⟨g,k*10,none⟩ (.int .i64 s'.n.S[k].p)).setCell ⟨g,k*10+1,none⟩ (.bool false)).setCell ⟨g,k*10+2,none⟩ (.int .i64 0)).setCell ⟨g,k*10+3,none⟩ (.int .i64 0)).setCell ⟨g,k*10+4,none⟩ (.slice none 0 0)).setCell ⟨g,k*10+5,none⟩ (.int .i64 0)).setCell ⟨g,k*10+6,none⟩ (.int .i64 1)).setCell ⟨g,k*10+7,none⟩ (.slice none 0 0)).setCell ⟨g,k*10+8,none⟩ (.slice none 0 0)).setCell ⟨g,k*10+9,none⟩ (.int .i64 0)) (s'.side k ⟨s'.n.S[k].p,false,0,0,none,0,[],⟨0,1,none,0,[],none,0,[],0⟩⟩)from EdAt.setSide bi_ HR.o hks HG.o ⟨s'.n.S[k].p,false,0,0,none,0,[],⟨0,1,none,0,[],none,0,[],0⟩⟩ (iq_ _ _ _ _ _) rfl);have HT5:=h_ (HTU.o.la (Below.drew (Below.refl _ _)));clear hr hcs fr hg hln;go_wp2_with fail
   go_region
   go_wp2_with fail
   go_roundw
   case rel=>exact⟨k+1,_,by have:=HLT.o;omega,by go_num,h_ HT5.o.1,HSD,h_ (HBW.o.trans HT5.o.2.1)⟩
   case measure=>have:=HLT.o;simp [intOf];omega
  ·obtain rfl:k=s.n.S.length:=(by omega);have HD9:=h_ (zy_ HD.o);clear hln;obtain⟨_,x1,_,_,_,_,_,_,_,_,xz⟩:=j_ HR.o.busy.blk;have f1:=tenF HR.o.busy.blk 1;have f2:=tenF HR.o.busy.blk 2;have hep:s'.n.ep=s.n.ep:=congrArg (fun d:EdD=>d.n.ep) HD9.o;have HLN:=h_ (show 0<s'.n.S.length∧s'.L.length=s.L.length from⟨by have h1:=congrArg List.length (show s'.n.S.map SideV.d=(s.n.S.map SideV.d).map awayS from congrArg (fun d:EdD=>d.n.S) HD9.o);simp at h1;have:=HSP.o;omega,mapLen (show s'.L.map PostV.d=s.L.map PostV.d from congrArg EdD.L HD9.o)⟩);have hw:wrap64 (s.n.ep+1)=s.n.ep+1:=(by have:=HE.o;unfold wrap64;omega);rw [hep]at x1;by_cases hlt2:s.n.ep+1<1048576
   ·have hb:decide (s.n.ep+1<1048576)=true:=(by simpa using hlt2);have HIF:=h_ (show(if s.d.n.ep<1048575 then s.d.n.ep+1 else s.d.n.ep)=s.n.ep+1 from if_pos (show s.n.ep<1048575 by omega));clear hlt2;go_wp2_with fail
    have HTU:=h_ (show Turns 71 base X wr s' ((wr.setCell ⟨X,1,none⟩ (.int .i64 (s.n.ep+1))).setCell ⟨X,2,none⟩ (.int .i64 up)) ⟨⟨s'.n.me,s.n.ep+1,up,s'.n.rd,s'.n.t,s'.n.sA,s'.n.sc,s'.n.S,s'.n.uA,s'.n.uc,s'.n.U,s'.n.mA,s'.n.mc,s'.n.M⟩,s'.A,s'.c,s'.L,s'.RA,s'.rc,s'.RL⟩from EdAt.put bi_ HR.o (q5_.trans q5_) (n':=(⟨⟨s'.n.me,s.n.ep+1,up,s'.n.rd,s'.n.t,s'.n.sA,s'.n.sc,s'.n.S,s'.n.uA,s'.n.uc,s'.n.U,s'.n.mA,s'.n.mc,s'.n.M⟩,s'.A,s'.c,s'.L,s'.RA,s'.rc,s'.RL⟩:EdV).n) ⟨rfl,rfl,rfl⟩ (.inl ⟨rfl,rfl,rfl⟩) (.inl ⟨rfl,rfl,rfl⟩) (f_ 2 _ (f_ 1 _ HR.o.busy.blk)));have HVD:=h_ (show(⟨⟨s'.n.me,s.n.ep+1,up,s'.n.rd,s'.n.t,s'.n.sA,s'.n.sc,s'.n.S,s'.n.uA,s'.n.uc,s'.n.U,s'.n.mA,s'.n.mc,s'.n.M⟩,s'.A,s'.c,s'.L,s'.RA,s'.rc,s'.RL⟩:EdV).d=⟨awayN s.d.n up,s.d.L,s.d.R⟩ by
     have h9:=HD9.o;have g1:s'.n.S.map SideV.d=s.d.n.S.map awayS:=congrArg (fun d:EdD=>d.n.S) h9;have g2:s'.n.U.map OpV.ps= []:=congrArg (fun d:EdD=>d.n.U) h9;have g3:s'.n.M= []:=congrArg (fun d:EdD=>d.n.M) h9;have g4:s'.n.me=s.n.me:=congrArg (fun d:EdD=>d.n.me) h9;have g5:s'.n.rd=false:=congrArg (fun d:EdD=>d.n.rd) h9;have g6:s'.n.t=⟨#[]⟩:=congrArg (fun d:EdD=>d.n.t) h9;refine EdD.ext' ?_ (show s'.L.map PostV.d=_ from congrArg EdD.L h9) (show s'.RL.map RecV.key=_ from congrArg EdD.R h9);show(⟨s'.n.me,s.n.ep+1,up,s'.n.rd,s'.n.t,s'.n.S.map SideV.d,s'.n.U.map OpV.ps,s'.n.M⟩:NodeD)=_;rw [g1,g2,g3,g4,g5,g6];unfold awayN;rw [HIF.o];rfl)
    clear x1 f1 f2 xz hep hb;refine(bch_ _ base X ⟨⟨s'.n.me,s.n.ep+1,up,s'.n.rd,s'.n.t,s'.n.sA,s'.n.sc,s'.n.S,s'.n.uA,s'.n.uc,s'.n.U,s'.n.mA,s'.n.mc,s'.n.M⟩,s'.A,s'.c,s'.L,s'.RA,s'.rc,s'.RL⟩ HLN.o.1 (fun W hb=>HT.o W ((HBW.o.trans HTU.o.2.1).trans hb)) HTU.o.1 ⟨by have:=HE.o;show 1<=s.n.ep+1;omega,by have:=HE.o;show s.n.ep+1<=1048576;omega⟩ (by show s'.L.length<=_;rw [HLN.o.2];exact HL.o)).mono ?_;exact m216_
   ·have hb:decide (s.n.ep+1<1048576)=false:=(by simpa using hlt2);have HIF:=h_ (show(if s.d.n.ep<1048575 then s.d.n.ep+1 else s.d.n.ep)=s'.n.ep from(if_neg (show¬s.n.ep<1048575 by omega)).trans hep.symm);have HEP:=h_ hep;clear hlt2;go_wp2_with fail
    have HTU:=h_ (show Turns 71 base X wr s' (wr.setCell ⟨X,2,none⟩ (.int .i64 up)) ⟨⟨s'.n.me,s'.n.ep,up,s'.n.rd,s'.n.t,s'.n.sA,s'.n.sc,s'.n.S,s'.n.uA,s'.n.uc,s'.n.U,s'.n.mA,s'.n.mc,s'.n.M⟩,s'.A,s'.c,s'.L,s'.RA,s'.rc,s'.RL⟩from EdAt.put bi_ HR.o q5_ (n':=(⟨⟨s'.n.me,s'.n.ep,up,s'.n.rd,s'.n.t,s'.n.sA,s'.n.sc,s'.n.S,s'.n.uA,s'.n.uc,s'.n.U,s'.n.mA,s'.n.mc,s'.n.M⟩,s'.A,s'.c,s'.L,s'.RA,s'.rc,s'.RL⟩:EdV).n) ⟨rfl,rfl,rfl⟩ (.inl ⟨rfl,rfl,rfl⟩) (.inl ⟨rfl,rfl,rfl⟩) (f_ 2 _ HR.o.busy.blk));have HVD:=h_ (show(⟨⟨s'.n.me,s'.n.ep,up,s'.n.rd,s'.n.t,s'.n.sA,s'.n.sc,s'.n.S,s'.n.uA,s'.n.uc,s'.n.U,s'.n.mA,s'.n.mc,s'.n.M⟩,s'.A,s'.c,s'.L,s'.RA,s'.rc,s'.RL⟩:EdV).d=⟨awayN s.d.n up,s.d.L,s.d.R⟩ by
     have h9:=HD9.o;have g1:s'.n.S.map SideV.d=s.d.n.S.map awayS:=congrArg (fun d:EdD=>d.n.S) h9;have g2:s'.n.U.map OpV.ps= []:=congrArg (fun d:EdD=>d.n.U) h9;have g3:s'.n.M= []:=congrArg (fun d:EdD=>d.n.M) h9;have g4:s'.n.me=s.n.me:=congrArg (fun d:EdD=>d.n.me) h9;have g5:s'.n.rd=false:=congrArg (fun d:EdD=>d.n.rd) h9;have g6:s'.n.t=⟨#[]⟩:=congrArg (fun d:EdD=>d.n.t) h9;refine EdD.ext' ?_ (show s'.L.map PostV.d=_ from congrArg EdD.L h9) (show s'.RL.map RecV.key=_ from congrArg EdD.R h9);show(⟨s'.n.me,s'.n.ep,up,s'.n.rd,s'.n.t,s'.n.S.map SideV.d,s'.n.U.map OpV.ps,s'.n.M⟩:NodeD)=_;rw [g1,g2,g3,g4,g5,g6];unfold awayN;rw [HIF.o];rfl)
    clear x1 f1 f2 xz hep hb;refine(bch_ _ base X ⟨⟨s'.n.me,s'.n.ep,up,s'.n.rd,s'.n.t,s'.n.sA,s'.n.sc,s'.n.S,s'.n.uA,s'.n.uc,s'.n.U,s'.n.mA,s'.n.mc,s'.n.M⟩,s'.A,s'.c,s'.L,s'.RA,s'.rc,s'.RL⟩ HLN.o.1 (fun W hb=>HT.o W ((HBW.o.trans HTU.o.2.1).trans hb)) HTU.o.1 ⟨by have:=HE.o;show 1<=s'.n.ep;rw [HEP.o];omega,by have:=HE.o;show s'.n.ep<=1048576;rw [HEP.o];omega⟩ (by show s'.L.length<=_;rw [HLN.o.2];exact HL.o)).mono ?_;exact m216_
end Go.Proofs.YtacacoklddogmaaGreatDoor
