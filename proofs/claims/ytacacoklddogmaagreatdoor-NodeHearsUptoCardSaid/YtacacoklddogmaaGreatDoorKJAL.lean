/- Lemmas. -/
import Derived.Test.YtacacoklddogmaaGreatDoorKJAA
import Derived.Test.YtacacoklddogmaaGreatDoorKLinkD
namespace Go.Proofs.YtacacoklddogmaaGreatDoor
set_option maxHeartbeats 4000000
open Go.ChangeShapes Go.WideShapes Go.ChangeAt Go.RowKit
set_option maxRecDepth 100000
theorem m27_{P:Prop}(h:P:=by
 have vBS:=h_ trivial;exact m50_):P:=h
theorem m41_{P:Prop}(h:P:=by
 have vBR:=h_ trivial;exact m49_):P:=h
theorem m49_{P:Prop}(h:P:=by
 first
 |guard_hyp vBR
  all_goals(first
  |guard_hyp vBI
  |guard_hyp vBH
  |have hw:wrap64 (x.s+x.h)=x.s+x.h:=bfy_ h1 h2;have HB:=h_ (And.intro h1 h2);clear h1 h2)
 |skip
 have k87_:K_ (∀(P:Prop) (h:P:=by
 first
 |guard_hyp vBR
  first
  |guard_hyp vBI
   go_enter Tryz.func87,Tryz.ntmps87
   have k66_:K_ (∀(P:Prop) (h:P:=by
   go_wp2_with fail
   go_ret
   exact⟨⟨_,rfl,by simp⟩,H2.o.b⟩
   ),P):=⟨@q6_⟩
   exact m66_
  |subst hj;first
   |guard_hyp vBH
    cases rd;all_goals(
     go_enter Tryz.func87,Tryz.ntmps87
     have k66_:K_ (∀(P:Prop) (h:P:=by
     go_wp2_with fail
     all_goals(
      go_ret
      refine⟨⟨_,rfl,?_⟩,H2.o.b⟩;simp_all;try omega)
     ),P):=⟨@q6_⟩
     exact m66_)
   |go_enter Tryz.func87,Tryz.ntmps87
    have k66_:K_ (∀(P:Prop) (h:P:=by
    go_wp2_with fail
    all_goals(
     go_ret
     refine⟨⟨_,rfl,?_⟩,H2.o.b⟩;have:=HB.o;simp;omega)
    ),P):=⟨@q6_⟩
    exact m66_
 |guard_hyp vBG
  go_enter Tryz.func61,Tryz.ntmps61
  have k66_:K_ (∀(P:Prop) (h:P:=by
  go_wp2_with fail
  go_ret
  exact⟨⟨_,rfl,by simp⟩,H2.o.b⟩
  ),P):=⟨@q6_⟩
  exact m66_
 |subst hj;first
  |guard_hyp vBF
   cases rd;all_goals(
    go_enter Tryz.func61,Tryz.ntmps61
    have k66_:K_ (∀(P:Prop) (h:P:=by
    go_wp2_with fail
    all_goals(
     go_ret
     refine⟨⟨_,rfl,?_⟩,H2.o.b⟩;simp_all;try omega)
    ),P):=⟨@q6_⟩
    exact m66_)
  |go_enter Tryz.func61,Tryz.ntmps61
   have k66_:K_ (∀(P:Prop) (h:P:=by
   go_wp2_with fail
   all_goals(
    go_ret
    refine⟨⟨_,rfl,?_⟩,H2.o.b⟩;simp_all)
   ),P):=⟨@q6_⟩
   exact m66_
 ),P):=⟨@q6_⟩
 exact m87_):P:=h
theorem m50_{P:Prop}(h:P:=by
 have hw:wrap64 ((x.L.length:Int) - 1)=((x.L.length - 1:Nat):Int):=ii_ hp hml;have HLS:=h_ (fun(W:World) (hs:OpsIn W x.A x.L)=>ej_ hs HQ.o);generalize hr:(Lib.runeCount n.t:Int)=rc at*;generalize lens q.ps=ln at*;obtain⟨l1,l2⟩:=ln;clear hr;have k87_:K_ (∀(P:Prop) (h:P:=by
 subst hj;first
 |guard_hyp vBS
  go_enter Tryz.func87,Tryz.ntmps87
 |go_enter Tryz.func61,Tryz.ntmps61
 have k66_:K_ (∀(P:Prop) (h:P:=by
 have HO:=h_ (HX.o.ops.la H2.o.b);obtain⟨b,o,hAe,hbs,c0,hop⟩:=HLS.o _ HO.o;subst hAe;have HOP:=h_ hop;clear hop;go_wp2_with fail
 refine(HLN.o _ HOP.o).mono ?_;rintro e w3 ⟨rfl,hb3⟩;have H3:=h_ (H2.o.la hb3);clear x1 x2 x3 x4 x5 x6 x7 x8 x9 xz n3 n4 nz;obtain⟨_,x1,x2,x3,x4,x5,x6,x7,x8,x9,xz⟩:=bj_ H3.o.sd;obtain⟨_,_,_,n3,n4,_,_,_,nz⟩:=p_ H3.o.nd
 (try dsimp only at x1 x2 x3 x4 x5 x6 x7 x8 x9 n3 n4)
 clear hb3;go_wp2_with fail
 refine(HRC.o _).mono ?_;rintro e w4 ⟨rfl,hb4⟩;have H4:=h_ (H3.o.la hb4);clear x1 x2 x3 x4 x5 x6 x7 x8 x9 xz n3 n4 nz;obtain⟨_,x1,x2,x3,x4,x5,x6,x7,x8,x9,xz⟩:=bj_ H4.o.sd;obtain⟨_,_,_,n3,n4,_,_,_,nz⟩:=p_ H4.o.nd
 (try dsimp only at x1 x2 x3 x4 x5 x6 x7 x8 x9 n3 n4)
 clear hb4;go_wp2_with fail
 first
 |guard_hyp vBS
  first
  |guard_hyp vAN
   all_goals(
    go_ret
    refine⟨⟨_,rfl,?_⟩,H4.o.b⟩;simp_all;try omega)
  |go_ret
   exact⟨⟨_,rfl,by simp⟩,H4.o.b⟩
 |guard_hyp vAM
  all_goals(
   go_ret
   refine⟨⟨_,rfl,?_⟩,H4.o.b⟩;simp_all;try omega)
 |go_ret
  exact⟨⟨_,rfl,by simp⟩,H4.o.b⟩
 ),P):=⟨@q6_⟩
 exact m66_
 ),P):=⟨@q6_⟩
 exact m87_):P:=h
theorem m66_{P:Prop}(h:P:=by
 have k183_:K_ (∀(P:Prop) (h:P:=by
 refine(HL.o _ (HT.o.la H1.o.b) (HX.o.link.la H1.o.b)).mono ?_;rintro e w2 ⟨rfl,hb2⟩;have H2:=h_ (H1.o.la hb2);clear x1 x2 x3 x4 x5 x6 x7 x8 x9 xz;obtain⟨_,x1,x2,x3,x4,x5,x6,x7,x8,x9,xz⟩:=bj_ H2.o.sd;obtain⟨_,_,_,n3,n4,_,_,_,nz⟩:=p_ H2.o.nd
 (try dsimp only at x1 x2 x3 x4 x5 x6 x7 x8 x9 n3 n4)
 clear hb2;exact k66_.o _
 ),P):=⟨@q6_⟩
 exact m183_):P:=h
theorem m73_{P:Prop}(h:P:=by
 obtain⟨b,o,rfl,hbs,hc⟩:=bh_ SideV.cells 10 SideV.cells_len (Sl.la HI.o.sides.row HO.o.b) hlt;have c0:wr.cell? ⟨b,o+k*10,none⟩=some (.int .i64 S[k].p):=hc 0 _ rfl;have c1:wr.cell? ⟨b,o+k*10+1,none⟩=some (.bool S[k].j):=hc 1 _ rfl;have c2:wr.cell? ⟨b,o+k*10+2,none⟩=some (.int .i64 S[k].s):=hc 2 _ rfl;have c3:wr.cell? ⟨b,o+k*10+3,none⟩=some (.int .i64 S[k].h):=hc 3 _ rfl;have c4:wr.cell? ⟨b,o+k*10+4,none⟩=some (.slice S[k].A S[k].L.length S[k].c):=hc 4 _ rfl;have c5:wr.cell? ⟨b,o+k*10+5,none⟩=some (.int .i64 S[k].k.e):=hc 5 _ rfl;have c6:wr.cell? ⟨b,o+k*10+6,none⟩=some (.int .i64 S[k].k.n):=hc 6 _ rfl;have c7:wr.cell? ⟨b,o+k*10+7,none⟩=some (.slice S[k].k.sA S[k].k.s.length S[k].k.sc):=hc 7 _ rfl;have c8:wr.cell? ⟨b,o+k*10+8,none⟩=some (.slice S[k].k.qA S[k].k.q.length S[k].k.qc):=hc 8 _ rfl;have c9:wr.cell? ⟨b,o+k*10+9,none⟩=some (.int .i64 S[k].k.h):=hc 9 _ rfl;exact k73_.o _):P:=h
theorem m87_{P:Prop}(h:P:=by
 have HA:=h_ (TwoAt.new w n x);obtain⟨WA,hWA⟩:=q2_ ((w.alloc (.cells #[.int .i64 n.me,.int .i64 n.ep,.int .i64 n.up,.bool n.rd,.string n.t,.slice n.sA n.S.length n.sc,.slice n.uA n.U.length n.uc,.slice n.mA n.M.length n.mc] 28)).alloc (.cells #[.int .i64 x.p,.bool x.j,.int .i64 x.s,.int .i64 x.h,.slice x.A x.L.length x.c,.int .i64 x.k.e,.int .i64 x.k.n,.slice x.k.sA x.k.s.length x.k.sc,.slice x.k.qA x.k.q.length x.k.qc,.int .i64 x.k.h] 60));rw [←hWA]at HA;have HW:=h_ hWA.symm;clear hWA;obtain⟨me,ep,up,rd,t,sA,sc,S,uA,uc,U,mA,mc,M⟩:=n;obtain⟨p,j,s,h,A,c,L,k⟩:=x;dsimp only at*;exact k87_.o _):P:=h
theorem m95_{P:Prop}(h:P:=by
 go_wp2_with fail
 refine(HX.o _ (HT.o.la HA.o.b)).mono ?_;rintro e w2 ⟨rfl,hb2⟩;have H2:=h_ (HA.o.la hb2);clear n0 n1 n2 n3 n4 n5 n6 n7 nz;obtain⟨n0,n1,n2,n3,n4,n5,n6,n7,nz⟩:=p_ H2.o.nd;clear hb2;go_wp2_with fail
 refine(HL.o _ H2.o.b).mono ?_;rintro e w3 ⟨Aa,ca,rfl,hpl,hb3⟩;have H3:=h_ (H2.o.la hb3);have HPL:=h_ hpl;clear n0 n1 n2 n3 n4 n5 n6 n7 nz;obtain⟨n0,n1,n2,n3,n4,n5,n6,n7,nz⟩:=p_ H3.o.nd;clear hb3 hpl;exact k95_.o _):P:=h
theorem m104_{P:Prop}(h:P:=by
 clear hp hsm HSK;generalize S[k]=x at*;generalize pl.getD k 0=pk at*;obtain⟨p,j,s,h,A,c,L,kk⟩:=x;dsimp only [SideV.p]at hne;subst hpk;dsimp only at c0 c1 c2 c3 c4 c5 c6 c7 c8 c9 HS2;go_wp2_with(refine z_ ?_)
 refine⟨?_⟩;exact k104_.o _):P:=h
theorem m112_{P:Prop}(h:P:=by
 have HA:=h_ (OneAt.new w n);obtain⟨WA,hWA⟩:=q2_ (w.alloc (.cells #[.int .i64 n.me,.int .i64 n.ep,.int .i64 n.up,.bool n.rd,.string n.t,.slice n.sA n.S.length n.sc,.slice n.uA n.U.length n.uc,.slice n.mA n.M.length n.mc] 28));rw [←hWA]at HA;have HW:=h_ hWA.symm;clear hWA;exact k112_.o _):P:=h
theorem m124_{P:Prop}(h:P:=by
 clear hp HSK;generalize S[k]=x at*;generalize pl.getD k 0=pk at*;obtain⟨p,j,s,h,A,c,L,kk⟩:=x;dsimp only [SideV.p]at hne;dsimp only at c0 c1 c2 c3 c4 c5 c6 c7 c8 c9;exact m162_):P:=h
theorem m153_{P:Prop}(h:P:=by
 go_enter Tryz.func43,Tryz.ntmps43
 go_wp2_with fail
 rw [HW.o];refine(HC.o _ HA.o.b).mono ?_;rintro e w1 ⟨rfl,rfl⟩;obtain⟨n0,n1,n2,n3,n4,n5,n6,n7,nz⟩:=p_ HA.o.nd;exact k153_.o _):P:=h
theorem m162_{P:Prop}(h:P:=by
 go_wp2_with(refine z_ ?_)
 refine⟨?_⟩;go_region
 all_goals(
  exact m224_)):P:=h
theorem m170_{P:Prop}(h:P:=by
 go_wp2_with fail
 go_roundw
 case rel=>exact⟨k+1,by omega,by go_num,HGN,h_ (HO.o.la bz_),h_ (Sl.la HA2.o bz_)⟩
 case measure=>simp [intOf];omega):P:=h
theorem m183_{P:Prop}(h:P:=by
 go_wp2_with fail
 rw [HW.o];refine(HE.o _ (HT.o.la HA.o.b) (HX.o.ops.la HA.o.b)).mono ?_;rintro e w1 ⟨rfl,hb1⟩;have H1:=h_ (HA.o.la hb1);obtain⟨_,x1,x2,x3,x4,x5,x6,x7,x8,x9,xz⟩:=bj_ H1.o.sd
 (try dsimp only at x1 x2 x3 x4 x5 x6 x7 x8 x9)
 clear hb1;go_wp2_with fail
 exact k183_.o _):P:=h
theorem m221_{P:Prop}(h:P:=by
 obtain⟨b,o,rfl,hbs,hc⟩:=bh_ SideV.cells 10 SideV.cells_len (Sl.la HI.o.sides.row HO.o.b) (k:=0) hpp;have c1:wr.cell? ⟨b,o+1,none⟩=some (.bool S[0].j):=by simpa using hc 1 _ rfl
 clear hc;have HHD:=h_ (show S.head?=some S[0]from List.head?_eq_getElem? ▸ List.getElem?_eq_getElem hpp);generalize S[0]=x at*;obtain⟨p,j,s,h,A,c,L,kk⟩:=x;dsimp only at c1;have hpp2:(0:Int)<(S.length:Int):=by omega
 exact k221_.o _):P:=h
theorem m222_{P:Prop}(h:P:=by
 have HM1:=h_ hM;clear hpl hM;obtain⟨me,ep,up,rd,t,sA,sc,S,uA,uc,U,mA,mc,M⟩:=n;dsimp only at*;subst hrd;have HA:=h_ (OneAt.new w ⟨me,ep,up,true,t,sA,sc,S,uA,uc,U,mA,mc,M⟩);obtain⟨WA,hWA⟩:=q2_ (w.alloc (.cells #[.int .i64 me,.int .i64 ep,.int .i64 up,.bool true,.string t,.slice sA S.length sc,.slice uA U.length uc,.slice mA M.length mc] 28));exact k222_.o _):P:=h
theorem m224_{P:Prop}(h:P:=by
 go_wp2_with fail
 go_ret
 exact⟨by rw [HR9.o];rfl,bThen HO.o.b bz_⟩):P:=h
theorem m269_{P:Prop}(h:P:=by
 clear hpl hM;obtain⟨me,ep,up,rd,t,sA,sc,S,uA,uc,U,mA,mc,M⟩:=n;dsimp only at*;subst hrd;have HA:=h_ (OneAt.new w ⟨me,ep,up,false,t,sA,sc,S,uA,uc,U,mA,mc,M⟩);obtain⟨WA,hWA⟩:=q2_ (w.alloc (.cells #[.int .i64 me,.int .i64 ep,.int .i64 up,.bool false,.string t,.slice sA S.length sc,.slice uA U.length uc,.slice mA M.length mc] 28));exact k269_.o _):P:=h
theorem m279_{P:Prop}(h:P:=by
 have HPLL:=h_ hpl;have q1:((pl.length:Int) !=(n.S.length:Int))=false:=by simp [hpl]
 have q2:decide (1<(n.M.length:Int))=false:=by simp;omega
 exact k279_.o _):P:=h
theorem m281_{P:Prop}(h:P:=by
 obtain⟨k,hk,rfl,HG,HO,HA2⟩:=hrel;obtain⟨n0,n1,n2,n3,n4,n5,n6,n7,nz⟩:=p_ HO.o.nd
 (try dsimp only at n0 n1 n2 n3 n4 n5 n6 n7)
 exact k281_.o _):P:=h
theorem bfy_{a b:Int}(h1:0≤a∧a≤1048576)(h2:0≤b∧b≤1048576):wrap64 (a+b)=a+b:=by
 unfold wrap64;omega
theorem ii_{n:Nat}(hp:0<n)(hm:n≤1048576):wrap64 ((n:Int) - 1)=((n - 1:Nat):Int):=by
 unfold wrap64;omega
section
variable(w:World) (n:NodeV) (x:SideV) (HT:Hid (Tabs w)) (HX:Hid (x.In w))
include w n x HT HX
theorem bhs_(HE:Hid (∀W,Tabs W→OpsIn W x.A x.L→Calls Tryz.prog 122 #[edgeV x.s x.h x.A x.L.length x.c] W (R_ W (.int .i64 9)))):
 Calls Tryz.prog 87 #[n.val,x.val] w fun r w'=>(∃b:Bool,r= .returned (.bool b)∧(b=true↔False))∧Below w.heap.size w w':=by
 have k87_:K_ (∀(P:Prop) (h:P:=by
 go_enter Tryz.func87,Tryz.ntmps87
 have k183_:K_ (∀(P:Prop) (h:P:=by
 go_ret
 exact⟨⟨_,rfl,by simp⟩,H1.o.b⟩
 ),P):=⟨@q6_⟩
 exact m183_
 ),P):=⟨@q6_⟩
 exact m87_
theorem bht_(HE:Hid (∀W,Tabs W→OpsIn W x.A x.L→Calls Tryz.prog 122 #[edgeV x.s x.h x.A x.L.length x.c] W (R_ W (.int .i64 0))))(HL:Hid (∀W,Tabs W→x.k.In W→Calls Tryz.prog 110 #[x.k.val] W (R_ W (.int .i64 9)))):
 Calls Tryz.prog 87 #[n.val,x.val] w fun r w'=>(∃b:Bool,r= .returned (.bool b)∧(b=true↔False))∧Below w.heap.size w w':=by
 have vBI:=h_ trivial;exact m41_
theorem bhu_(hj:x.j=false)(h1:0≤x.s∧x.s≤1048576)(h2:0≤x.h∧x.h≤1048576)(HE:Hid (∀W,Tabs W→OpsIn W x.A x.L→Calls Tryz.prog 122 #[edgeV x.s x.h x.A x.L.length x.c] W (R_ W (.int .i64 0))))(HL:Hid (∀W,Tabs W→x.k.In W→Calls Tryz.prog 110 #[x.k.val] W (R_ W (.int .i64 0)))):
 Calls Tryz.prog 87 #[n.val,x.val] w fun r w'=>(∃b:Bool,r= .returned (.bool b)∧(b=true↔x.s=0∧x.h=0))∧Below w.heap.size w w':=by
 exact m41_
theorem bhv_(hj:x.j=true)(he:0≤x.k.e)(_hL:decide (0<x.L.length)=false)(HE:Hid (∀W,Tabs W→OpsIn W x.A x.L→Calls Tryz.prog 122 #[edgeV x.s x.h x.A x.L.length x.c] W (R_ W (.int .i64 0))))(HL:Hid (∀W,Tabs W→x.k.In W→Calls Tryz.prog 110 #[x.k.val] W (R_ W (.int .i64 0)))):
 Calls Tryz.prog 87 #[n.val,x.val] w fun r w'=>(∃b:Bool,r= .returned (.bool b)∧(b=true↔n.rd=true∧x.k.e≠0))∧Below w.heap.size w w':=by
 have vBH:=h_ trivial;exact m41_
theorem bhw_(hj:x.j=true)(q:OpV)(HQ:Hid (x.L.getLast?=some q))(hp:0<x.L.length)(hml:x.L.length≤1048576)(ht:((lens q.ps).2 !=(Lib.runeCount n.t:Int))=true)(HE:Hid (∀W,Tabs W→OpsIn W x.A x.L→Calls Tryz.prog 122 #[edgeV x.s x.h x.A x.L.length x.c] W (R_ W (.int .i64 0))))(HL:Hid (∀W,Tabs W→x.k.In W→Calls Tryz.prog 110 #[x.k.val] W (R_ W (.int .i64 0))))(HLN:Hid (∀W,OpIn (· <W.heap.size) W q.A q.ps→Calls Tryz.prog 46 #[.slice q.A q.ps.length q.c] W (R_ W (.tuple #[.int .i64 (lens q.ps).1,.int .i64 (lens q.ps).2]))))(HRC:Hid (∀W,Calls Tryz.prog 88 #[.string n.t] W (R_ W (.int .i64 (Lib.runeCount n.t))))):
 Calls Tryz.prog 87 #[n.val,x.val] w fun r w'=>(∃b:Bool,r= .returned (.bool b)∧(b=true↔False))∧Below w.heap.size w w':=by
 exact m27_
theorem bhx_(hj:x.j=true)(he:0≤x.k.e)(q:OpV)(HQ:Hid (x.L.getLast?=some q))(hp:0<x.L.length)(hml:x.L.length≤1048576)(ht:((lens q.ps).2 !=(Lib.runeCount n.t:Int))=false)(HE:Hid (∀W,Tabs W→OpsIn W x.A x.L→Calls Tryz.prog 122 #[edgeV x.s x.h x.A x.L.length x.c] W (R_ W (.int .i64 0))))(HL:Hid (∀W,Tabs W→x.k.In W→Calls Tryz.prog 110 #[x.k.val] W (R_ W (.int .i64 0))))(HLN:Hid (∀W,OpIn (· <W.heap.size) W q.A q.ps→Calls Tryz.prog 46 #[.slice q.A q.ps.length q.c] W (R_ W (.tuple #[.int .i64 (lens q.ps).1,.int .i64 (lens q.ps).2]))))(HRC:Hid (∀W,Calls Tryz.prog 88 #[.string n.t] W (R_ W (.int .i64 (Lib.runeCount n.t))))):
 Calls Tryz.prog 87 #[n.val,x.val] w fun r w'=>(∃b:Bool,r= .returned (.bool b)∧(b=true↔n.rd=true∧x.k.e≠0))∧Below w.heap.size w w':=by
 have vAN:=h_ trivial;exact m27_
end
theorem bhy_(w:World)(n:NodeV)(x:SideV)(hT:Tabs w)(hx:x.In w)(hm:x.Small)(ht:n.t.size≤1048576):
 Calls Tryz.prog 87 #[n.val,x.val] w fun r w'=>(∃b:Bool,r= .returned (.bool b)∧(b=true↔sideMay n.rd (runesI n.t) x))∧Below w.heap.size w w':=by
 have HE:=fun W hT hs=>ij_ W x.s x.h x.A x.c x.L hT hs hm.ops;have HL:=fun W hT hs=>bw_ W x.k hT hs hm.link;unfold sideMay;by_cases h1:edgeMay x.s x.h x.L
 ·rw [show edgeErr x.s x.h x.L=0 from if_pos h1]at HE;have h1':=h1;by_cases h2:linkMay x.k
  ·rw [if_pos h2]at HL;obtain⟨⟨⟨a1,a2⟩,a3,a4⟩,_⟩:=h1';have he:0≤x.k.e:=h2.1.1.1;by_cases hj:x.j=false
   ·rw [if_pos hj];refine(bhu_ w n x hT hx hj ⟨a1,a2⟩ ⟨a3,a4⟩ HE HL).mono fun _ _ ⟨⟨b,e,k⟩,hb⟩=>⟨⟨b,e,k.trans ⟨fun q=>⟨⟨h1,h2⟩,q⟩,fun q=>q.2⟩⟩,hb⟩
   ·rw [if_neg hj];have hj':x.j=true:=(by simpa using hj);cases hl:x.L.getLast? with
    | none=>
     have hL:x.L= []:=(by simpa using hl);refine(bhv_ w n x hT hx hj' he (by rw [hL];rfl) HE HL).mono fun _ _ ⟨⟨b,e,k⟩,hb⟩=>⟨⟨b,e,k.trans ⟨fun q=>⟨⟨h1,h2⟩,by rw [hL];exact kg_,q⟩,fun q=>q.2.2⟩⟩,hb⟩
    | some q=>
     have hq:q∈x.L:=List.mem_of_getLast? hl;have HLN:=fun W hs=>cs_ W q.A q.c q.ps hs (hm.ops q hq).len (hm.ops q hq).text;have hf:=jt_ (r:=runesI n.t) hl;by_cases hr:(lens q.ps).2=runesI n.t
     · refine(bhx_ w n x hT hx hj' he q hl (cn_ hl) hm.len (by unfold runesI at hr;simpa using hr) HE HL HLN (fun W=>dx_ n.t W ht)).mono fun _ _ ⟨⟨b,e,k⟩,hb⟩=>⟨⟨b,e,k.trans ⟨fun q=>⟨⟨h1,h2⟩,hf.2 hr,q⟩,fun q=>q.2.2⟩⟩,hb⟩
     · refine(bhw_ w n x hT hx hj' q hl (cn_ hl) hm.len (by unfold runesI at hr;simpa using hr) HE HL HLN (fun W=>dx_ n.t W ht)).mono fun _ _ ⟨⟨b,e,k⟩,hb⟩=>⟨⟨b,e,k.trans ⟨fun q=>q.elim,fun q=>hr (hf.1 q.2.1)⟩⟩,hb⟩
  ·rw [if_neg h2]at HL;exact(bht_ w n x hT hx HE HL).mono fun _ _ ⟨⟨b,e,k⟩,hb⟩=>⟨⟨b,e,k.trans ⟨fun q=>q.elim,fun q=>h2 q.1.2⟩⟩,hb⟩
 ·rw [show edgeErr x.s x.h x.L=9 from if_neg h1]at HE;exact(bhs_ w n x hT hx HE).mono fun _ _ ⟨⟨b,e,k⟩,hb⟩=>⟨⟨b,e,k.trans ⟨fun q=>q.elim,fun q=>h1 q.1.1⟩⟩,hb⟩
structure OneAt (w:World) (n:NodeV) (W:World):Prop where
 nd:NodeAt W w.heap.size n
 b:Below w.heap.size w W
theorem OneAt.new(w:World)(n:NodeV):OneAt w n (w.alloc (.cells #[.int .i64 n.me,.int .i64 n.ep,.int .i64 n.up,.bool n.rd,.string n.t,.slice n.sA n.S.length n.sc,.slice n.uA n.U.length n.uc,.slice n.mA n.M.length n.mc] 28)):=⟨World.alloc_heap_new _ _,bA_⟩
theorem OneAt.la{w W W':World}{n:NodeV}(k:OneAt w n W)(hb:Below W.heap.size W W'):OneAt w n W':=
 ⟨(hb.block _ (Array.getElem?_eq_some_iff.1 k.nd).1).trans k.nd,bThen k.b hb⟩
section
variable(w:World) (T:OA_) (N Nc:Nat) (zs:List Int) (n:NodeV)
include w T N Nc zs n
theorem qf_(_HT:Hid (Tabs w))(_HI:Hid (n.In w))(_HZ:Hid (Sl (· <w.heap.size) w 1 T N (zs.map (Value.int .i64))))(_hN:N≤9223372036854775807)(er:Int)(_he:(er !=0)=true)(HC:Hid (∀W,Below w.heap.size w W→Calls Tryz.prog 83 #[.slice T N Nc] W fun e w'=>e= .returned (.int .i64 er)∧W=w')):
 Calls Tryz.prog 43 #[.slice T N Nc,n.val] w (R_ w (.int .i64 er)):=by
 have k112_:K_ (∀(P:Prop) (h:P:=by
 have k153_:K_ (∀(P:Prop) (h:P:=by
 go_wp2_with fail
 go_ret
 exact⟨rfl,HA.o.b⟩
 ),P):=⟨@q6_⟩
 exact m153_
 ),P):=⟨@q6_⟩
 exact m112_
theorem qe_(HT:Hid (Tabs w))(_HI:Hid (n.In w))(_HZ:Hid (Sl (· <w.heap.size) w 1 T N (zs.map (Value.int .i64))))(_hN:N≤9223372036854775807)(er:Int)(H:Hid (¬((0≤n.me∧n.me<N)∧(1≤n.ep∧n.ep<1048576)∧(0≤n.up∧n.up≤1048576)∧ ¬(n.me=0∧0<n.up)∧er=0)))(HC:Hid (∀W,Below w.heap.size w W→Calls Tryz.prog 83 #[.slice T N Nc] W fun e w'=>e= .returned (.int .i64 0)∧W=w'))(HX:Hid (∀W,Tabs W→Calls Tryz.prog 84 #[.string n.t] W (R_ W (.int .i64 er)))):
 Calls Tryz.prog 43 #[.slice T N Nc,n.val] w (R_ w (.int .i64 9)):=by
 have k112_:K_ (∀(P:Prop) (h:P:=by
 have k153_:K_ (∀(P:Prop) (h:P:=by
 go_wp2_with fail
 all_goals(first
  | (go_ret;exact⟨rfl,HA.o.b⟩)
  | (refine (HX.o _ (HT.o.la HA.o.b)).mono ?_
     rintro e w2 ⟨rfl,hb2⟩;have H2:=h_ (HA.o.la hb2);clear n0 n1 n2 n3 n4 n5 n6 n7 nz;obtain⟨n0,n1,n2,n3,n4,n5,n6,n7,nz⟩:=p_ H2.o.nd;clear hb2;go_wp2_with fail
     all_goals(first
      | (go_ret;exact⟨rfl,H2.o.b⟩)
      | (exfalso;have:=H.o;first | omega | (simp_all;done) | (simp_all;omega)))))
 ),P):=⟨@q6_⟩
 exact m153_
 ),P):=⟨@q6_⟩
 exact m112_
end
end Go.Proofs.YtacacoklddogmaaGreatDoor
