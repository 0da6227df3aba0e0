/- Lemmas. -/
import Derived.Test.YtacacoklddogmaaGreatDoorKJBH
import Derived.Test.YtacacoklddogmaaGreatDoorKJBG
import Derived.Test.YtacacoklddogmaaGreatDoorKJBF
import Derived.Deep.DeepCutAuto
namespace Go.Proofs.YtacacoklddogmaaGreatDoor
set_option maxHeartbeats 4000000
open Go.ChangeShapes Go.WideShapes Go.ChangeAt Go.RowKit
set_option maxRecDepth 100000
theorem m22_{P:Prop}(h:P:=by
 first
 |guard_hyp vAI
  have H1:=h_ (fun W hT (hi:n.In W) hz=>bet_ W T N Nc zs n hT hi hm hz hN er h0 hne)
 |skip
 have HT:=h_ hT;have HZ:=h_ hz;have HI:=h_ hi;first
 |guard_hyp vAI
  clear hT hz hi hm h0
 |have HM:=h_ hm;have HF:=h_ hf;have HFM:=h_ hfm;have H1:=h_ (fun W hT (hi:n.In W) hz=>qr_ W T N Nc zs n hT hi hm hz hN h0);have HCK:=h_ (fun W hT hs=>ca_ W p.ep p.nu p.b p.ak p.f.k p.f.h p.f.e p.f.o.A p.f.o.c p.f.o.ps p.f.s hT hs hfm.op.len hfm.op.text hfm.text);first
  |guard_hyp vAH
   rw [show packetFault ⟨p.ep,p.nu,p.b,p.ak,⟨p.f.k,p.f.h,p.f.e,p.f.o.ps,p.f.s⟩⟩=0 from he]at HCK;have HIX:=h_ (fun W (h:n.In W) Q hq=>pg_ W n.sA n.sc n.S (-1) q Q hq h.sides hm.sl (.inl ⟨rfl,hno⟩));clear hT hz hi hm hf hfm h0 he hno
  |rw [show packetFault ⟨p.ep,p.nu,p.b,p.ak,⟨p.f.k,p.f.h,p.f.e,p.f.o.ps,p.f.s⟩⟩=er from he]at HCK;clear hT hz hi hm hf hfm h0 he
 have k96_:K_ (∀(P:Prop) (h:P:=by
 first
 |guard_hyp vAI
  rintro r w1 ⟨rfl,hb1⟩;skip
 |rintro r w1 ⟨X,n',W2,rfl,hd,hX,hx,hfree,hXW,hb2,hb1⟩
 have HB:=h_ (HA.o.la hb1);first
 |guard_hyp vAI
  clear hb1;have hne':(er !=0)=true:=by simp [bne,hne]
  obtain⟨r0,r1,r2,r3,r4,r5,r6,r7,r8,r9,rz⟩:=j_ HB.o.r;obtain⟨F0,F1,F2,F3,F4,F5,F6,F7,F8,F9⟩:=cd_ HB.o.r;skip
 |obtain⟨s0,hs0⟩:=q2_ (⟨n',none,0,[],none,0,[]⟩:EdV);have HE:=h_ (show EdAt 71 w1 WA.heap.size X s0 by rw [hs0];exact EditAt.new hfree hXW hX hb2 hx);have HSD:=h_ (show s0.d=⟨n.d,[],[]⟩ by rw [hs0];exact EdD.ext' hd rfl rfl);have HSS:=h_ (show s0.n.Small by rw [hs0];exact NodeV.Small.of_d hd HM.o);have HSL:=h_ (show s0.L.length=0∧s0.RL.length=0 by rw [hs0];exact⟨rfl,rfl⟩);have HTE:=h_ (show∀W,Below WA.heap.size w1 W->Tabs W from fun W hb=>HT.o.la (HB.o.b.trans (hb.mono HA.o.b.size)));have HRX:=h_ (show R<WA.heap.size from HA.o.o.2.2.2);clear hd hx hX hfree hXW hb2 hb1 hs0;obtain⟨q0,q1,q2,q3,q4,q5,q6,q7,q8,_,_,_,_,_,_,_,_,_,qz⟩:=n_ HB.o.pk
 go_wp2_with fail
 first
 |guard_hyp vAI
  refine u_ (fun H=>H.heap[R]?=some (.cells #[.int .i64 0,.int .i64 0,.int .i64 0,.bool false,.string ⟨#[]⟩,.slice none 0 0,.slice none 0 0,.slice none 0 0,.slice none 0 0,.slice none 0 0] 35 (0,0))∧Below w.heap.size w H) ⟨dh_ HB.o.r _ _ _ _ _ _ _ _ _ _,?_⟩ ?_
 |refine(HCK.o w1 (HT.o.la HB.o.b) (Sl.la HF.o HB.o.b)).mono ?_;rintro r w2 ⟨rfl,hb2⟩;have HB2:=h_ (HB.o.la hb2);have HTC:=h_ (Turns.of_below HE.o hb2);clear hb2 q0 q1 q2 q3 q4 q5 q6 q7 q8 qz;first
  |guard_hyp vAH
   obtain⟨n0,n1,n2,n3,n4,n5,n6,n7,nz⟩:=r_ HB2.o.nd;skip
  |have hne':(er !=0)=true:=(by simp [bne,hne]);obtain⟨r0,r1,r2,r3,r4,r5,r6,r7,r8,r9,rz⟩:=j_ HB2.o.r;obtain⟨F0,F1,F2,F3,F4,F5,F6,F7,F8,F9⟩:=cd_ HB2.o.r
  go_wp2_with fail
  first
  |guard_hyp vAH
   clear n0 n1 n2 n3 n4 n5 n6 n7 nz;refine(HIX.o w2 (HI.o.la HB2.o.b) Q (by simp [World.cell?,HB2.o.fr])).mono ?_;rintro r w3 ⟨rfl,hb3⟩;have HB3:=h_ (HB2.o.la hb3);clear hb3;obtain⟨r0,r1,r2,r3,r4,r5,r6,r7,r8,r9,rz⟩:=j_ HB3.o.r;obtain⟨F0,F1,F2,F3,F4,F5,F6,F7,F8,F9⟩:=cd_ HB3.o.r;go_wp2_with fail
   refine u_ (fun H=>H.heap[R]?=some (.cells #[.int .i64 0,.int .i64 0,.int .i64 0,.bool false,.string ⟨#[]⟩,.slice none 0 0,.slice none 0 0,.slice none 0 0,.slice none 0 0,.slice none 0 0] 35 (0,0))∧Below w.heap.size w H) ⟨dh_ HB3.o.r _ _ _ _ _ _ _ _ _ _,?_⟩ ?_
  |refine u_ (fun H=>H.heap[R]?=some (.cells #[.int .i64 0,.int .i64 0,.int .i64 0,.bool false,.string ⟨#[]⟩,.slice none 0 0,.slice none 0 0,.slice none 0 0,.slice none 0 0,.slice none 0 0] 35 (0,0))∧Below w.heap.size w H) ⟨dh_ HB2.o.r _ _ _ _ _ _ _ _ _ _,?_⟩ ?_
 ·have hwR:w.heap.size<=R:=by have:=HA.o.o;omega
  repeat(refine bSet ?_ (by exact hwR) _)
  first
  |guard_hyp vAI
   exact HB.o.b
  |guard_hyp vAH
   exact HB3.o.b
  |exact HB2.o.b
 have k260_:K_ (∀(P:Prop) (h:P:=by
 first
 |guard_hyp vAH
  exact bodyPost_ret (v:= .tuple #[.agg #[.int .i64 0,.int .i64 0,.int .i64 0,.bool false,.string ⟨#[]⟩,.slice none 0 0,.slice none 0 0,.slice none 0 0,.slice none 0 0,.slice none 0 0],.int .i64 13]) (by simp [results,Tryz.results14,go_sem,r0,r1,r2,r3,r4,r5,r6,r7,r8,r9]) rfl (dp_ j3)
 |exact bodyPost_ret (v:= .tuple #[.agg #[.int .i64 0,.int .i64 0,.int .i64 0,.bool false,.string ⟨#[]⟩,.slice none 0 0,.slice none 0 0,.slice none 0 0,.slice none 0 0,.slice none 0 0],.int .i64 er]) (by simp [results,Tryz.results14,go_sem,r0,r1,r2,r3,r4,r5,r6,r7,r8,r9]) rfl (dp_ j3)
 ),P):=⟨@q6_⟩
 exact m260_
 ),P):=⟨@q6_⟩
 exact m96_):P:=h
theorem m59_{P:Prop}(h:P:=by
 obtain⟨x0,x1,x2,x3,x4,x5,x6,x7,x8,x9,xz⟩:=j_ HK1.o.busy.blk;obtain⟨r0,r1,r2,r3,r4,r5,r6,r7,r8,r9,rz⟩:=j_ HB5.o.r;obtain⟨F0,F1,F2,F3,F4,F5,F6,F7,F8,F9⟩:=cd_ HB5.o.r;have hXb:WA.heap.size<=X:=HK1.o.busy.lo;have hRX': ¬R=X:=by have:=HRX.o;omega
 have hXR: ¬X=R:=fun e=>hRX' e.symm;go_wp2_with fail
 have hq:=turnFin (w:=w) (wr:=w5) (R:=R) (EditAt.held bi_ HK1.o) HB5.o.r HRX.o (by have:=HA.o.o;omega) HB5.o.b;have k135_:K_ (∀(P:Prop) (h:P:=by
 refine bodyPost_ret (v:= .tuple #[.agg #[.int .i64 s9.n.me,.int .i64 s9.n.ep,.int .i64 s9.n.up,.bool s9.n.rd,.string s9.n.t,.slice s9.n.sA s9.n.S.length s9.n.sc,.slice s9.n.uA s9.n.U.length s9.n.uc,.slice s9.n.mA s9.n.M.length s9.n.mc,.slice s9.A s9.L.length s9.c,.slice s9.RA s9.RL.length s9.rc],.int .i64 0]) (by simp [results,Tryz.results14,go_sem,r0,r1,r2,r3,r4,r5,r6,r7,r8,r9]) rfl ?_;exact⟨s9,rfl,HK2.o,j2,j3,j4,j5⟩
 ),P):=⟨@q6_⟩
 exact m135_):P:=h
theorem m79_{P:Prop}(h:P:=by
 obtain⟨r0,r1,r2,r3,r4,r5,r6,r7,r8,r9,rz⟩:=j_ HB3.o.r;obtain⟨F0,F1,F2,F3,F4,F5,F6,F7,F8,F9⟩:=cd_ HB3.o.r;go_wp2_with fail
 refine u_ (fun H=>H.heap[R]?=some (.cells #[.int .i64 0,.int .i64 0,.int .i64 0,.bool false,.string ⟨#[]⟩,.slice none 0 0,.slice none 0 0,.slice none 0 0,.slice none 0 0,.slice none 0 0] 35 (0,0))∧Below w.heap.size w H) ⟨dh_ HB3.o.r _ _ _ _ _ _ _ _ _ _,?_⟩ ?_
 ·have hwR:w.heap.size<=R:=by have:=HA.o.o;omega
  repeat(refine bSet ?_ (by exact hwR) _)
  exact HB3.o.b
 have k260_:K_ (∀(P:Prop) (h:P:=by
 exact bodyPost_ret (v:= .tuple #[.agg #[.int .i64 0,.int .i64 0,.int .i64 0,.bool false,.string ⟨#[]⟩,.slice none 0 0,.slice none 0 0,.slice none 0 0,.slice none 0 0,.slice none 0 0],.int .i64 12]) (by simp [results,Tryz.results14,go_sem,r0,r1,r2,r3,r4,r5,r6,r7,r8,r9]) rfl (dp_ j3)
 ),P):=⟨@q6_⟩
 exact m260_):P:=h
theorem m96_{P:Prop}(h:P:=by
 have HA:=h_ (HnAt.new w #[.int .i64 n.me,.int .i64 n.ep,.int .i64 n.up,.bool n.rd,.string n.t,.slice n.sA n.S.length n.sc,.slice n.uA n.U.length n.uc,.slice n.mA n.M.length n.mc] #[.int .i64 p.ep,.int .i64 p.nu,.bool p.b,.int .i64 p.ak,.int .i64 p.f.k,.int .i64 p.f.h,.int .i64 p.f.e,.slice p.f.o.A p.f.o.ps.length p.f.o.c,.string p.f.s] q);obtain⟨WA,hWA⟩:=q2_ ((((w.alloc (.cells #[.int .i64 n.me,.int .i64 n.ep,.int .i64 n.up,.bool n.rd,.string n.t,.slice n.sA n.S.length n.sc,.slice n.uA n.U.length n.uc,.slice n.mA n.M.length n.mc] 28)).alloc (.cells #[.int .i64 q] 3)).alloc (.cells #[.int .i64 p.ep,.int .i64 p.nu,.bool p.b,.int .i64 p.ak,.int .i64 p.f.k,.int .i64 p.f.h,.int .i64 p.f.e,.slice p.f.o.A p.f.o.ps.length p.f.o.c,.string p.f.s] 48)).alloc (.cells #[.int .i64 0,.int .i64 0,.int .i64 0,.bool false,.string ⟨#[]⟩,.slice none 0 0,.slice none 0 0,.slice none 0 0,.slice none 0 0,.slice none 0 0] 35));obtain⟨Q,hQ⟩:=q2_ (w.heap.size+1);obtain⟨P,hP⟩:=q2_ (w.heap.size+2);obtain⟨R,hR⟩:=q2_ (w.heap.size+3);rw [<-hWA,<-hQ,<-hP,<-hR]at HA;have HW:=h_ hWA.symm;have HE1:=h_ (show w.heap.size+1=Q by omega);have HE2:=h_ (show w.heap.size+1+1=P by omega);have HE3:=h_ (show w.heap.size+1+1+1=R by omega);clear hWA hQ hP hR;obtain⟨n0,n1,n2,n3,n4,n5,n6,n7,nz⟩:=r_ HA.o.nd;go_enter Tryz.func14,Tryz.ntmps14
 go_wp2_with fail
 rw [HW.o,HE3.o,HE2.o,HE1.o];clear n0 n1 n2 n3 n4 n5 n6 n7 nz;refine(H1.o _ (HT.o.la HA.o.b) (HI.o.la HA.o.b) (Sl.la HZ.o HA.o.b)).mono ?_;exact k96_.o _):P:=h
section
variable(w:World) (T:OA_) (N Nc:Nat) (zs:List Int) (n:NodeV) (hT:Tabs w) (hi:n.In w) (hm:n.Small) (hz:Sl (· <w.heap.size) w 1 T N (zs.map (Value.int .i64))) (hN:N<=9223372036854775807) (q:Int) (p:PacketV)
include w T N Nc zs n hT hi hm hz hN q p
theorem xc_(_hf:OpIn (· <w.heap.size) w p.f.o.A p.f.o.ps)(_hfm:p.f.Small)(er:Int)(h0:nodeFault zs n=er)(hne:(er==0)=false):Calls Tryz.prog 14 #[.slice T N Nc,n.val,.int .i64 q,packetV p.ep p.nu p.b p.ak p.f.k p.f.h p.f.e p.f.o.A p.f.o.ps.length p.f.o.c p.f.s] w (RetTurnR w zeroD er):=by
 have vAI:=h_ trivial;exact m22_
section
variable(hf:OpIn (· <w.heap.size) w p.f.o.A p.f.o.ps) (hfm:p.f.Small) (h0:nodeFault zs n=0)
include hf hfm h0
theorem ui_(er:Int)(he:packetFault p.d=er)(hne:(er==0)=false):Calls Tryz.prog 14 #[.slice T N Nc,n.val,.int .i64 q,packetV p.ep p.nu p.b p.ak p.f.k p.f.h p.f.e p.f.o.A p.f.o.ps.length p.f.o.c p.f.s] w (RetTurnR w zeroD er):=by
 exact m22_
theorem zo_(he:packetFault p.d=0)(hno: ∀x∈n.S,(x.p==q)=false):Calls Tryz.prog 14 #[.slice T N Nc,n.val,.int .i64 q,packetV p.ep p.nu p.b p.ak p.f.k p.f.h p.f.e p.f.o.A p.f.o.ps.length p.f.o.c p.f.s] w (RetTurnR w zeroD 13):=by
 have vAH:=h_ trivial;exact m22_
theorem ben_(he:packetFault p.d=0)(i:Nat)(hin:i<n.S.length)(hpe:n.S[i].p=q)(hfirst: ∀j (hj:j<n.S.length),j<i->n.S[j].p≠q):Calls Tryz.prog 14 #[.slice T N Nc,n.val,.int .i64 q,packetV p.ep p.nu p.b p.ak p.f.k p.f.h p.f.e p.f.o.A p.f.o.ps.length p.f.o.c p.f.s] w (RetTurnR w (hnAns n.d i p.d).1 (hnAns n.d i p.d).2):=by
 obtain⟨an,hans⟩:=q2_ (hnAns n.d i p.d);rw [<-hans];obtain⟨D,er⟩:=an;dsimp only;have HANS:=h_ hans;have HT:=h_ hT;have HZ:=h_ hz;have HI:=h_ hi;have HM:=h_ hm;have HF:=h_ hf;have HFM:=h_ hfm;have H1:=h_ (fun W hT (hi:n.In W) hz=>qr_ W T N Nc zs n hT hi hm hz hN h0);have HCK:=h_ (fun W hT hs=>ca_ W p.ep p.nu p.b p.ak p.f.k p.f.h p.f.e p.f.o.A p.f.o.c p.f.o.ps p.f.s hT hs hfm.op.len hfm.op.text hfm.text);rw [show packetFault ⟨p.ep,p.nu,p.b,p.ak,⟨p.f.k,p.f.h,p.f.e,p.f.o.ps,p.f.s⟩⟩=0 from he]at HCK;have HPF:=h_ he;have HIX:=h_ (fun W (h:n.In W) Q hq=>pg_ W n.sA n.sc n.S (i:Int) q Q hq h.sides hm.sl (.inr ⟨i,hin,rfl,by simpa using hpe,fun j hj hji=>by simpa using hfirst j hj hji⟩));have HIN:=h_ hin
 have HLM:=h_ (dd_ h0 _ (List.getElem_mem hin));have HMAY:=h_ (dg_ h0);have HGK:=h_ (show n.d.S.getD i default=n.S[i].d by
  show(n.S.map SideV.d).getD i default=_;rw [ci_,List.getD_eq_getElem?_getD,List.getElem?_eq_getElem hin];rfl)
 clear hT hz hi hm hf hfm h0 he hpe hfirst hans;have k96_:K_ (∀(P:Prop) (h:P:=by
 rintro r w1 ⟨X,n',W2,rfl,hd,hX,hx,hfree,hXW,hb2,hb1⟩;have HB:=h_ (HA.o.la hb1);obtain⟨s0,hs0⟩:=q2_ (⟨n',none,0,[],none,0,[]⟩:EdV);have HE:=h_ (show EdAt 71 w1 WA.heap.size X s0 by rw [hs0];exact EditAt.new hfree hXW hX hb2 hx);have HSD:=h_ (show s0.d=⟨n.d,[],[]⟩ by rw [hs0];exact EdD.ext' hd rfl rfl);have HSS:=h_ (show s0.n.Small by rw [hs0];exact NodeV.Small.of_d hd HM.o);have HSL:=h_ (show s0.L.length=0∧s0.RL.length=0 by rw [hs0];exact⟨rfl,rfl⟩);have HTE:=h_ (show∀W,Below WA.heap.size w1 W->Tabs W from fun W hb=>HT.o.la (HB.o.b.trans (hb.mono HA.o.b.size)));have HRX:=h_ (show R<WA.heap.size from HA.o.o.2.2.2);clear hd hx hX hfree hXW hb2 hb1 hs0;obtain⟨q0,q1,q2,q3,q4,q5,q6,q7,q8,_,_,_,_,_,_,_,_,_,qz⟩:=n_ HB.o.pk;go_wp2_with fail
 refine(HCK.o w1 (HT.o.la HB.o.b) (Sl.la HF.o HB.o.b)).mono ?_;rintro r w2 ⟨rfl,hb2⟩;have HB2:=h_ (HB.o.la hb2);have HTC:=h_ (Turns.of_below HE.o hb2);clear hb2 q0 q1 q2 q3 q4 q5 q6 q7 q8 qz;obtain⟨n0,n1,n2,n3,n4,n5,n6,n7,nz⟩:=r_ HB2.o.nd;go_wp2_with fail
 clear n0 n1 n2 n3 n4 n5 n6 n7 nz;refine(HIX.o w2 (HI.o.la HB2.o.b) Q (by simp [World.cell?,HB2.o.fr])).mono ?_;rintro r w3 ⟨rfl,hb3⟩;have HB3:=h_ (HB2.o.la hb3);have HT3:=h_ (HTC.o.la hb3);clear hb3;obtain⟨n0,n1,n2,n3,n4,n5,n6,n7,nz⟩:=r_ HB3.o.nd;obtain⟨q0,q1,q2,q3,q4,q5,q6,q7,q8,_,_,_,_,_,_,_,_,_,qz⟩:=n_ HB3.o.pk;obtain⟨b,ofs,hsA,hbs,hc⟩:=bh_ SideV.cells 10 SideV.cells_len (HI.o.la HB3.o.b).sides.row hin
 have c5:w3.cell? ⟨b,ofs+i*10+5,none⟩=some (.int .i64 n.S[i].k.e):=hc 5 _ rfl;rw [hsA]at n5;have hi0:decide ((i:Int)<0)=false:=by simp
 have hil:(i:Int)<(n.S.length:Int):=by omega
 clear hc hsA hbs;go_upto_region 11 with fail
 go_cut [15] (fun t G=>w3=G∧t= .bool (decide (0<n.me∧i=0)))
 case first=>
  by_cases hm:0<n.me
  ·have HM31:decide (0<n.me)=true:=(by simpa using hm);have HM3:=h_ hm;clear hm;by_cases hz:i=0
   ·have HZ31:((i:Int)==0)=true:=(by simpa using hz);have HZ3:=h_ hz;clear hz;go_wp2_with fail
    go_meet
    exact⟨rfl,by simp [HM3.o,HZ3.o]⟩
   ·have HZ31:((i:Int)==0)=false:=(by simpa using hz);have HZ3:=h_ hz;clear hz;go_wp2_with fail
    go_meet
    exact⟨rfl,by simp [HZ3.o]⟩
  ·exact m271_
 obtain⟨rfl,rfl⟩:=hcut;go_upto_region 12 with fail
 go_cut [16] (fun t G=>w3=G∧ ∃b,t= .bool b∧(b=true↔hnJoin n.d p.d))
 case first=>
  by_cases hb:p.b=false
  ·rw [hb]at q2;have HB9:=h_ hb;clear hb;by_cases j1:p.nu=1
   ·have HJ11:(p.nu==1)=true:=(by simpa using j1);have HJ1:=h_ j1;clear j1;by_cases j2:p.f.k=2
    ·have HJ21:(p.f.k==2)=true:=(by simpa using j2);have HJ2:=h_ j2;clear j2;by_cases j3:p.f.e=p.ep
     ·have HJ31:(p.f.e==p.ep)=true:=(by simpa using j3);have HJ3:=h_ j3;clear j3;by_cases j4:p.f.h=n.ep
      ·have HJ41:(p.f.h==n.ep)=true:=(by simpa using j4);have HJ4:=h_ j4;clear j4;go_wp2_with fail
       go_meet
       exact⟨rfl,true,rfl,⟨fun _=>⟨HB9.o,HJ1.o,HJ2.o,HJ3.o,HJ4.o⟩,fun _=>rfl⟩⟩
      ·have HJ41:(p.f.h==n.ep)=false:=(by simpa using j4);have HJ4:=h_ j4;clear j4;go_wp2_with fail
       go_meet
       exact⟨rfl,false,rfl,⟨fun k=>absurd k (by decide),fun k=>absurd k.2.2.2.2 HJ4.o⟩⟩
     ·have HJ31:(p.f.e==p.ep)=false:=(by simpa using j3);have HJ3:=h_ j3;clear j3;go_wp2_with fail
      go_meet
      exact⟨rfl,false,rfl,⟨fun k=>absurd k (by decide),fun k=>absurd k.2.2.2.1 HJ3.o⟩⟩
    ·have HJ21:(p.f.k==2)=false:=(by simpa using j2);have HJ2:=h_ j2;clear j2;go_wp2_with fail
     go_meet
     exact⟨rfl,false,rfl,⟨fun k=>absurd k (by decide),fun k=>absurd k.2.2.1 HJ2.o⟩⟩
   ·have HJ11:(p.nu==1)=false:=(by simpa using j1);have HJ1:=h_ j1;clear j1;go_wp2_with fail
    go_meet
    exact⟨rfl,false,rfl,⟨fun k=>absurd k (by decide),fun k=>absurd k.2.1 HJ1.o⟩⟩
  ·have hb1:p.b=true:=(by simpa using hb);rw [hb1]at q2;have HB9:=h_ hb;clear hb hb1;go_wp2_with fail
   go_meet
   exact⟨rfl,false,rfl,⟨fun k=>absurd k (by decide),fun k=>absurd k.1 HB9.o⟩⟩
 obtain⟨rfl,bj,rfl,hbj⟩:=hcut;have HBJ:=h_ hbj;clear hbj;have HOO:=h_ (show OpIn (Off w3 X s0) w3 p.f.o.A p.f.o.ps from HF.o.mv fun b hb=>⟨HT3.o.1.off (Nat.lt_of_lt_of_le hb HA.o.b.size),HB3.o.b.block b hb⟩);have HTW:=h_ (show∀W,Below WA.heap.size w3 W->Tabs W from fun W hb=>HTE.o W (HT3.o.2.1.trans hb));have hsl:s0.n.S.length=n.S.length:=by have h9:=congrArg (fun d:EdD=>d.n.S.length) HSD.o;simpa using h9
 have HI0:=h_ (show i<s0.n.S.length by rw [hsl];exact HIN.o);have HSX:=h_ (show(s0.n.S[i]'HI0.o).d=n.S[i].d from sd_at (show s0.n.S.map SideV.d=n.S.map SideV.d from congrArg (fun d:EdD=>d.n.S) HSD.o) HIN.o HI0.o);clear hsl;by_cases hA:p.ep=n.S[i].k.e∧0<n.S[i].k.e
 ·have hp1:(p.ep==n.S[i].k.e)=true:=by simpa using hA.1
  have hp2:decide (0<n.S[i].k.e)=true:=by simpa using hA.2
  have HK0:=h_ (show(s0.n.S[i]'HI0.o).k.e≠0∧p.ep=(s0.n.S[i]'HI0.o).k.e by
   have h9:(s0.n.S[i]'HI0.o).k.e=n.S[i].k.e:=congrArg (fun x:SideD=>x.k.e) HSX.o;rw [h9];exact⟨by have:=hA.2;omega,hA.1⟩)
  obtain⟨rfl,rfl⟩:D=sessDD ⟨n.d,[],[]⟩ i p.d∧er=0:=by have h9:=HANS.o.trans (yj_ (n:=n.d) (i:=i) (p:=p.d) (by unfold hnSess;rw [HGK.o];exact hA));simpa using h9
  clear hA;go_wp2_with fail
  refine(bdh_ w3 WA.heap.size X s0 i HI0.o p HTW.o HT3.o.1 HOO.o HFM.o HPF.o (gt_ (congrArg SideD.k HSX.o) HLM.o) HK0.o.1 HK0.o.2 HSS.o (by rw [HSL.o.1];omega) (by rw [HSL.o.2];omega)).mono ?_;rintro r w5 ⟨rfl,s9,k1,k2,k3,k4⟩;have HK1:=h_ k1;have HK2:=h_ (show s9.d=sessDD ⟨n.d,[],[]⟩ i p.d by rw [k2,HSD.o]);have HB5:=h_ (HB3.o.made HRX.o k3 k3.size);clear k1 k2 k3 k4 n0 n1 n2 n3 n4 n5 n6 n7 nz q0 q1 q2 q3 q4 q5 q6 q7 q8 qz c5;exact m59_
 ·have HNA:=h_ (show¬hnSess n.d i p.d by unfold hnSess;rw [HGK.o];exact hA);go_upto_region 14 with fail
  go_cut [91] (fun t G=>w3=G∧t= .bool false)
  case first=>
   by_cases h1:p.ep=n.S[i].k.e
   ·have h11:(p.ep==n.S[i].k.e)=true:=(by simpa using h1);have h2:decide (0<n.S[i].k.e)=false:=decide_eq_false fun k=>hA ⟨h1,k⟩;clear h1 hA;go_wp2_with fail
    go_meet
    exact⟨rfl,rfl⟩
   ·have h11:(p.ep==n.S[i].k.e)=false:=(by simpa using h1);clear h1 hA;go_wp2_with fail
    go_meet
    exact⟨rfl,rfl⟩
  obtain⟨rfl,rfl⟩:=hcut;clear hA;by_cases hP:0<n.me∧i=0
  ·have HPP:=h_ (show hnPar n.d i from hP);rw [decide_eq_true hP];clear hP;by_cases he0:p.ep=0
   ·have he1:(p.ep==0)=true:=(by simpa using he0);obtain⟨rfl,rfl⟩:D=awayDD ⟨n.d,[],[]⟩ p.ak∧er=0:=by have h9:=HANS.o.trans (yd_ (n:=n.d) (i:=i) (p:=p.d) HNA.o HPP.o he0);simpa using h9
    clear he0;go_wp2_with fail
    refine(bhm_ w3 WA.heap.size X s0 p.ak (Nat.lt_of_le_of_lt (Nat.zero_le _) HI0.o) HSS.o.sl HTW.o HT3.o.1 (by rw [show s0.n.ep=n.ep from congrArg (fun d:EdD=>d.n.ep) HSD.o];exact HMAY.o.1.2.1) (by rw [HSL.o.1];omega)).mono ?_;rintro r w5 ⟨rfl,s9,k1,k2,k3⟩;have HK1:=h_ k1;have HK2:=h_ (show s9.d=awayDD ⟨n.d,[],[]⟩ p.ak by rw [k2,HSD.o]);have HB5:=h_ (HB3.o.made HRX.o k3 k3.size);clear k1 k2 k3 n0 n1 n2 n3 n4 n5 n6 n7 nz q0 q1 q2 q3 q4 q5 q6 q7 q8 qz c5;exact m59_
   ·have he1:(p.ep==0)=false:=(by simpa using he0);obtain⟨rfl,rfl⟩:D=zeroD∧er=12:=by have h9:=HANS.o.trans (yi_ (n:=n.d) (i:=i) (p:=p.d) HNA.o HPP.o he0);simpa using h9
    clear he0;exact m79_
  ·have HPP:=h_ (show¬hnPar n.d i from hP);rw [decide_eq_false hP];clear hP;by_cases hle:p.ep<=n.S[i].k.e
   ·have hl1:decide (p.ep<=n.S[i].k.e)=true:=(by simpa using hle);obtain⟨rfl,rfl⟩:D=zeroD∧er=12:=by have h9:=HANS.o.trans (yg_ (n:=n.d) (i:=i) (p:=p.d) HNA.o HPP.o (by rw [HGK.o];exact hle));simpa using h9
    clear hle;exact m79_
   ·have hl1:decide (p.ep<=n.S[i].k.e)=false:=(by simpa using hle);have HLE:=h_ (show¬p.d.epoch<=(n.d.S.getD i default).k.e by rw [HGK.o];exact hle);have HP0:=h_ (show 0<p.ep by have h9:=HLM.o.1.1.1;omega);clear hle;cases bj
    ·have HJN:=h_ (show¬hnJoin n.d p.d from fun k=>absurd (HBJ.o.2 k) (by decide));obtain⟨rfl,rfl⟩:D=bareDD n.d i∧er=0:=by have h9:=HANS.o.trans (ye_ (n:=n.d) (i:=i) (p:=p.d) HNA.o HPP.o HLE.o HJN.o);simpa using h9
     go_wp2_with fail
     obtain⟨W4,hW4⟩:=q2_ (w3.alloc (.cells #[.int .i64 0,.int .i64 0,.bool true,.int .i64 n.ep,.int .i64 0,.int .i64 0,.int .i64 0,.slice none 0 0,.string ⟨#[]⟩] 48));have hb4:Below w3.heap.size w3 W4:=(by rw [hW4];exact bA_);have hz4:W4.heap.size=w3.heap.size+1:=(by rw [hW4];simp);have HT4:=h_ (HT3.o.la hb4);have HB4:=h_ (HB3.o.la hb4);have hK4:=ux_ w3 n.ep (fun b=>X+1<=b∧FreeX W4 WA.heap.size X (Value.slice s0.A s0.L.length s0.c).ownBlock s0.n.sOwn [s0.n.mOwn,s0.n.uOwn,(Value.slice s0.RA s0.RL.length s0.rc).ownBlock] b) ⟨HT3.o.1.busy.lt,HT3.o.1.freshX (Nat.le_refl _) (by omega)⟩;rw [<-hW4]at hK4;rw [<-hW4];have HK4:=h_ hK4;clear hW4 hb4 hz4 hK4;refine(bdf_ W4 WA.heap.size X s0 i HI0.o HT4.o.1 _ 1 [bareV n.ep] HK4.o (by rw [HSL.o.1];simp)).mono ?_;rintro r w5 ⟨rfl,A',c',hp⟩;obtain⟨s9,hs9⟩:=q2_ (s0.post A' c' (s0.n.S[i]'HI0.o).p [bareV n.ep]);rw [<-hs9]at hp;have HK1:=h_ hp.1;have HK2:=h_ (show s9.d=bareDD n.d i by rw [hs9];exact rg_ (n:=n.d) HSD.o (by rw [HGK.o];exact congrArg SideD.p HSX.o));have HB5:=h_ (HB4.o.made HRX.o hp.2.1 hp.2.1.size);clear hp hs9 n0 n1 n2 n3 n4 n5 n6 n7 nz q0 q1 q2 q3 q4 q5 q6 q7 q8 qz c5;exact m59_
    ·have HJN:=h_ (HBJ.o.1 rfl);by_cases hrd:n.rd=true
     ·have hsr:n.rd=true:=hrd;rw [hrd]at n3;obtain⟨rfl,rfl⟩:D=joinedDD ⟨n.d,[],[]⟩ i p.d∧er=0:=by have h9:=HANS.o.trans (yf_ (n:=n.d) (i:=i) (p:=p.d) HNA.o HPP.o HLE.o HJN.o hrd);simpa using h9
      clear hrd hsr;go_wp2_with fail
      refine(bfb_ w3 WA.heap.size X s0 i HI0.o p HTW.o HT3.o.1 HOO.o HFM.o HPF.o HP0.o HJN.o.2.2.1 HSS.o (by rw [HSL.o.1];omega) (by rw [HSL.o.2];omega)).mono ?_;rintro r w5 ⟨rfl,s9,k1,k2,k3⟩;have HK1:=h_ k1;have HK2:=h_ (show s9.d=joinedDD ⟨n.d,[],[]⟩ i p.d by rw [k2,HSD.o]);have HB5:=h_ (HB3.o.made HRX.o k3 k3.size);clear k1 k2 k3 n0 n1 n2 n3 n4 n5 n6 n7 nz q0 q1 q2 q3 q4 q5 q6 q7 q8 qz c5;exact m59_
     ·have hr0:n.rd=false:=(by simpa using hrd);rw [hr0]at n3;obtain⟨rfl,rfl⟩:D=zeroD∧er=12:=by have h9:=HANS.o.trans (yh_ (n:=n.d) (i:=i) (p:=p.d) HNA.o HPP.o HLE.o HJN.o hrd);simpa using h9
      clear hrd hr0;exact m79_
 ),P):=⟨@q6_⟩
 exact m96_
end
end
end Go.Proofs.YtacacoklddogmaaGreatDoor
