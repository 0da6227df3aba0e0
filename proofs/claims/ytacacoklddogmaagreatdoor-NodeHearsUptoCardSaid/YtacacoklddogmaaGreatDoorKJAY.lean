/- Lemmas. -/
import Derived.Test.YtacacoklddogmaaGreatDoorKJAW
namespace Go.Proofs.YtacacoklddogmaaGreatDoor
set_option maxHeartbeats 4000000
open Go.ChangeShapes Go.WideShapes Go.ChangeAt Go.RowKit
set_option maxRecDepth 100000
theorem m30_{P:Prop}(h:P:=by
 have vBT:=h_ trivial;exact m51_):P:=h
theorem m45_{P:Prop}(h:P:=by
 have vCD:=h_ trivial;exact m130_):P:=h
theorem m100_{P:Prop}(h:P:=by
 have HX1:=h_ (hat0.o.la (bAlloc (Below.refl _ _) (.cells #[.int .i64 1,.int .i32 0] 161)));have HS1:=h_ (Sl.new (S:=fun _=>True) wr [.int .i64 1,.int .i32 0] 161 2 1 rfl trivial);go_wp2_with(at_builtin;refine l_ _ rfl _ _ 158 rfl w8.heap.size 161 i0 (.agg #[.int .i64 0,.int .i32 0]) 2 16 Tryz.underlying158 hi hz0 hz1 hz2 rfl (by decide) _ _ _ rfl HX1.o.rc _ _ _ _ _ rfl HS1.o ?c1 ?c2 ?c3 ?c4 ?_)
 case c1=>exact dq_ (1,0)
 case c2=>unfold maxLen;omega
 case c3=>omega
 case c4=>simp;omega
 intro A1 c1 w1_ hown1 hgrow1 hat1;have HP1:=h_ (HX1.o.pushC (x:=(1,0)) rfl hown1 hgrow1 (by simpa using hat1));have hzw1:=HP1.o.b.size;clear hown1 hgrow1 hat1 HX1 HS1;obtain⟨q0,q1⟩:=HCY1.o w1_ HP1.o.b;have HX2:=h_ (HP1.o.la (bAlloc (Below.refl _ _) (.cells #[.int .i64 2,.int .i32 ry] 161)));have HS2:=h_ (Sl.new (S:=fun _=>True) w1_ [.int .i64 2,.int .i32 ry] 161 2 1 rfl trivial);go_wp2_with(at_builtin;refine l_ _ rfl _ _ 158 rfl w8.heap.size 161 i0 (.agg #[.int .i64 0,.int .i32 0]) 2 16 Tryz.underlying158 hi hz0 hz1 hz2 rfl (by decide) _ _ _ rfl HX2.o.rd _ _ _ _ _ rfl HS2.o ?c1 ?c2 ?c3 ?c4 ?_)
 case c1=>exact dq_ (2,ry)
 case c2=>unfold maxLen;omega
 case c3=>omega
 case c4=>simp;omega
 intro A2 c2 w2 hown2 hgrow2 hat2;have HP2:=h_ (HX2.o.pushD (x:=(2,ry)) rfl hown2 hgrow2 (by simpa using hat2));have hzw2:=HP2.o.b.size;clear hown2 hgrow2 hat2 HX2 HS2;go_wp2_with fail
 exact k100_.o _):P:=h
theorem m121_{P:Prop}(h:P:=by
 go_wp2_with fail
 refine(HGC.o _ (cv_ hat0.o.rc)).mono ?_;rintro e u1 ⟨A1,c1,rfl,ho1,hb1⟩;have HA1:=h_ (hat0.o.la hb1);have HO1:=h_ ho1;clear hb1 ho1;go_wp2_with fail
 refine(HGD.o _ (cv_ HA1.o.rd)).mono ?_;rintro e u2 ⟨A2,c2,rfl,ho2,hb2⟩;have HB:=h_ (bThen HB8.o (HA1.o.la hb2).b);have HU2:=h_ (ck_ HO1.o hb2);have HV2:=h_ ho2;have hsz1:=HA1.o.b.size;clear hb2 ho2;go_wp2_with fail
 refine(HOU.o _ A1 c1 (HT.o.la HB.o) (cv_ HU2.o)).mono ?_;rintro e u3 ⟨rfl,hb3⟩;have HB3:=h_ (bThen HB.o hb3);have HU3:=h_ (ck_ HU2.o hb3);have HV3:=h_ (ck_ HV2.o hb3);clear hb3;go_wp2_with fail
 exact k121_.o _):P:=h
theorem m130_{P:Prop}(h:P:=by
 have HX:=h_ (bk_ w A c x hT hx hxl hxt);have HY:=h_ (fun W hT hs=>bk_ W B d y hT hs hyl hyt);have HLX:=h_ (fun W hs=>bq_ W A c x hs hxl hxt);have HLY:=h_ (fun W hs=>bq_ W B d y hs hyl hyt);have HT:=h_ hT;first
 |guard_hyp vCD
  rw [h1]at HX;first
  |guard_hyp vBM
   rw [h2]at HY;have e1:((lens x).1 !=(lens y).1)=true:=by simpa using h3
  |have e1:(opFault y !=0)=true:=(by simpa using h2);have e2:(opFault y==0)=false:=(by simpa using h2);generalize opFault y=z at*
 |have e1:(opFault x !=0)=true:=by simpa using h1
  have e2:(opFault x==0)=false:=by simpa using h1
  generalize opFault x=z at*
 generalize lens x=L at*;generalize lens y=M at*;obtain⟨L1,L2⟩:=L;obtain⟨M1,M2⟩:=M;dsimp only at*;first
 |guard_hyp vCD
  first
  |guard_hyp vBM
   clear h1 h2 h3 hT hxl hyl hxt hyt
  |clear h1 h2 hT hxl hyl hxt hyt
 |clear h1 hT hxl hyl hxt hyt HY
 go_enter Tryz.func119,Tryz.ntmps119
 go_wp2_with fail
 refine HX.o.mono ?_;rintro e w1 ⟨rfl,hb1⟩;have HB1:=h_ hb1;clear hb1;go_wp2_with fail
 first
 |guard_hyp vCD
  refine(HY.o _ (HT.o.la HB1.o) (Sl.la hy HB1.o)).mono ?_;rintro e w2 ⟨rfl,hb2⟩;have HB2:=h_ (bThen HB1.o hb2);clear hb2;go_wp2_with fail
  refine(HLX.o _ (Sl.la hx HB2.o)).mono ?_
 |refine(HLX.o _ (Sl.la hx HB1.o)).mono ?_
 rintro e w3 ⟨rfl,hb3⟩;first
 |guard_hyp vCD
  have HB3:=h_ (bThen HB2.o hb3)
 |have HB3:=h_ (bThen HB1.o hb3)
 clear hb3;go_wp2_with fail
 refine(HLY.o _ (Sl.la hy HB3.o)).mono ?_;rintro e w4 ⟨rfl,hb4⟩;have HB4:=h_ (bThen HB3.o hb4);clear hb4;go_wp2_with fail
 go_ret3
 exact⟨none,0,none,0,rfl,World.ownsRow_nil _ _ _ _,World.ownsRow_nil _ _ _ _,HB4.o⟩):P:=h
theorem m172_{P:Prop}(h:P:=by
 have hdy:=List.drop_eq_getElem_cons hly;have HCY:=h_ (fun(W:World) (h:Below w8.heap.size w8 W)=>no_ HY8.o hly h);generalize Y[k]=v at*;obtain⟨ky,ry⟩:=v;dsimp only at*;obtain⟨yb,yo,rfl,hybl,m0,m1⟩:=HCY.o wr hat0.o.b;have HCY1:=h_ (fun(W:World) (h:Below w8.heap.size w8 W)=>show W.cell? ⟨yb,yo+k*2,none⟩=some (.int .i64 ky)∧W.cell? ⟨yb,yo+k*2+1,none⟩=some (.int .i32 ry) by
  obtain⟨b',o',he,_,q0,q1⟩:=HCY.o W h;injection he with he
  injection he with h1 h2
  subst h1 h2;exact⟨q0,q1⟩)
 clear HCY;exact k172_.o _):P:=h
section
variable(w:World) (s h:Int) (A:OA_) (c:Nat) (L:List OpV) (HT:Hid (Tabs w)) (HS:Hid (OpsIn w A L)) (HM:Hid (∀o∈L,o.Small)) (B:OA_) (cc:Nat) (ps:LP_)
include w s h A c L HT HS HM B cc ps
theorem wv_(_HP:Hid (OpIn (· <w.heap.size) w B ps))(hd:Int)(up:Bool)(HC:Hid (∀W,Tabs W→OpsIn W A L→(∀o∈L,o.Small)→Calls Tryz.prog 122 #[edgeV s h A L.length c] W (R_ W (.int .i64 9)))):
 Calls Tryz.prog 132 #[edgeV s h A L.length c,.slice B ps.length cc,.int .i64 hd,.bool up] w (fun e w'=>e= .returned (.tuple #[edgeV 0 0 none 0 0,.slice none 0 0,.int .i64 9])∧Below w.heap.size w w'):=by
 have vBA:=h_ trivial;exact m36_
section
variable(HP:Hid (OpIn (· <w.heap.size) w B ps)) (hd:Int) (up:Bool)
include HP hd up
theorem wu_(er:Int)(_hne:(er !=0)=true)(HC:Hid (∀W,Tabs W→OpsIn W A L→(∀o∈L,o.Small)→Calls Tryz.prog 122 #[edgeV s h A L.length c] W (R_ W (.int .i64 0))))(HF:Hid (∀W,Tabs W→OpIn (· <W.heap.size) W B ps→Calls Tryz.prog 96 #[.slice B ps.length cc] W (R_ W (.int .i64 er)))):
 Calls Tryz.prog 132 #[edgeV s h A L.length c,.slice B ps.length cc,.int .i64 hd,.bool up] w (fun e w'=>e= .returned (.tuple #[edgeV 0 0 none 0 0,.slice none 0 0,.int .i64 er])∧Below w.heap.size w w'):=by
 have vAU:=h_ trivial;exact m30_
section
variable(hw:wrap64 (s - (L.length:Int))=s - L.length)
include hw
theorem bbe_(_f1:decide (hd<s - (L.length:Int))=true)(HC:Hid (∀W,Tabs W→OpsIn W A L→(∀o∈L,o.Small)→Calls Tryz.prog 122 #[edgeV s h A L.length c] W (R_ W (.int .i64 0))))(HF:Hid (∀W,Tabs W→OpIn (· <W.heap.size) W B ps→Calls Tryz.prog 96 #[.slice B ps.length cc] W (R_ W (.int .i64 0)))):
 Calls Tryz.prog 132 #[edgeV s h A L.length c,.slice B ps.length cc,.int .i64 hd,.bool up] w (fun e w'=>e= .returned (.tuple #[edgeV 0 0 none 0 0,.slice none 0 0,.int .i64 2])∧Below w.heap.size w w'):=by
 exact m30_
theorem zc_(_f1:decide (hd<s - (L.length:Int))=false)(_f2:decide (s<hd)=true)(HC:Hid (∀W,Tabs W→OpsIn W A L→(∀o∈L,o.Small)→Calls Tryz.prog 122 #[edgeV s h A L.length c] W (R_ W (.int .i64 0))))(HF:Hid (∀W,Tabs W→OpIn (· <W.heap.size) W B ps→Calls Tryz.prog 96 #[.slice B ps.length cc] W (R_ W (.int .i64 0)))):
 Calls Tryz.prog 132 #[edgeV s h A L.length c,.slice B ps.length cc,.int .i64 hd,.bool up] w (fun e w'=>e= .returned (.tuple #[edgeV 0 0 none 0 0,.slice none 0 0,.int .i64 2])∧Below w.heap.size w w'):=by
 have vAS:=h_ trivial;exact m30_
theorem zb_(_f1:decide (hd<s - (L.length:Int))=false)(_f2:decide (s<hd)=false)(_f3:(h==1048576)=true)(HC:Hid (∀W,Tabs W→OpsIn W A L→(∀o∈L,o.Small)→Calls Tryz.prog 122 #[edgeV s h A L.length c] W (R_ W (.int .i64 0))))(HF:Hid (∀W,Tabs W→OpIn (· <W.heap.size) W B ps→Calls Tryz.prog 96 #[.slice B ps.length cc] W (R_ W (.int .i64 0)))):
 Calls Tryz.prog 132 #[edgeV s h A L.length c,.slice B ps.length cc,.int .i64 hd,.bool up] w (fun e w'=>e= .returned (.tuple #[edgeV 0 0 none 0 0,.slice none 0 0,.int .i64 8])∧Below w.heap.size w w'):=by
 have vAT:=h_ trivial;exact m30_
end
end
end
theorem ik_(w:World)(A B:OA_)(c d:Nat)(x y:LP_)(hT:Tabs w)(hx:OpIn (· <w.heap.size) w A x)(hy:OpIn (· <w.heap.size) w B y)(hxl:x.length≤1048576)(hyl:y.length≤1048576)(hxt: ∀p∈x,p.text.size≤1048576)(hyt: ∀p∈y,p.text.size≤1048576):
 Calls Tryz.prog 139 #[.slice A x.length c,.slice B y.length d] w (RetTwo w (trL x y) (trR x y) (trE x y)):=by
 by_cases he:bothErr x y=0
 ·exact us_ w A B c d x y hT hx hy hxl hyl hxt hyt he
 ·have h1:trE x y=bothErr x y:=if_pos he;have h2:trL x y= []:=if_neg (by rw [h1];exact he);have h3:trR x y= []:=if_neg (by rw [h1];exact he);rw [h1,h2,h3];exact ut_ w A B c d x y hT hx hy hxl hyl hxt hyt he
structure StAt (w0 w:World) (Ac:OA_) (cc:Nat) (Ad:OA_) (cd:Nat) (c d:List (Int × Int)):Prop where
 rc:w.ownsRow w0.heap.size 161 2 (.slice Ac c.length cc) c.length (stepCells c)
 rd:w.ownsRow w0.heap.size 161 2 (.slice Ad d.length cd) d.length (stepCells d)
 a:Apart2 (Value.slice Ac c.length cc).ownBlock (Value.slice Ad d.length cd).ownBlock
 b:Below w0.heap.size w0 w
theorem StAt.la{w0 w w':World}{Ac Ad:Option Addr}{cc cd:Nat}{c d:List (Int × Int)}(h:StAt w0 w Ac cc Ad cd c d)(hb:Below w.heap.size w w'):StAt w0 w' Ac cc Ad cd c d:=
 ⟨h.rc.kept (row:=none) ⟨hb.os,hb.tape,hb.output,hb.size,fun k hk _=>hb.block k hk⟩ (by cases(Value.slice Ac c.length cc).ownBlock <;> simp),h.rd.kept (row:=none) ⟨hb.os,hb.tape,hb.output,hb.size,fun k hk _=>hb.block k hk⟩ (by cases(Value.slice Ad d.length cd).ownBlock <;> simp),h.a,bThen h.b hb⟩
section
variable {w0 W2 w1:World}{Ac Ad A':Option Addr}{cc cd c' n':Nat}{c d:List (Int × Int)}{x:Int × Int}(h:StAt w0 W2 Ac cc Ad cd c d)
include w0 W2 w1 Ac Ad A' cc cd c' n' c d x h
theorem StAt.pushC(hn:n'=c.length+1)(hown:w1.ownsRow w0.heap.size 161 2 (.slice A' n' c') n' (stepCells c++ [.int .i64 x.1,.int .i32 x.2]))(hgrow:W2.grownBy w1 (Value.slice Ac c.length cc).ownBlock)(hat:(Value.slice A' n' c').ownBlock=(Value.slice Ac c.length cc).ownBlock∨(Value.slice A' n' c').ownBlock=some W2.heap.size):StAt w0 w1 A' c' Ad cd (c++ [x]) d:=by
 subst hn;have e:(c++ [x]).length=c.length+1:=by simp
 refine⟨?_,h.rd.kept hgrow h.a.symm.left,?_,h.b.grown hgrow h.b.size (fun g hg=>(h.rc.lt g hg).1)⟩
 ·rw [e,hv_];simpa [stepCells]using hown
 ·rw [e];exact h.a.fresh hat (fun y hy=>(h.rd.lt y hy).2)
theorem StAt.pushD(hn:n'=d.length+1)(hown:w1.ownsRow w0.heap.size 161 2 (.slice A' n' c') n' (stepCells d++ [.int .i64 x.1,.int .i32 x.2]))(hgrow:W2.grownBy w1 (Value.slice Ad d.length cd).ownBlock)(hat:(Value.slice A' n' c').ownBlock=(Value.slice Ad d.length cd).ownBlock∨(Value.slice A' n' c').ownBlock=some W2.heap.size):StAt w0 w1 Ac cc A' c' c (d++ [x]):=by
 subst hn;have e:(d++ [x]).length=d.length+1:=by simp
 refine⟨h.rc.kept hgrow h.a.left,?_,?_,h.b.grown hgrow h.b.size (fun g hg=>(h.rd.lt g hg).1)⟩
 ·rw [e,hv_];simpa [stepCells]using hown
 ·rw [e];exact(h.a.symm.fresh hat (fun y hy=>(h.rc.lt y hy).2)).symm
end
theorem no_{w w':World}{A:Option Addr}{l:List (Int × Int)}{k:Nat}(h:StepsIn (· <w.heap.size) w A l)(hk:k<l.length)(hb:Below w.heap.size w w'):
 ∃b o,A=some ⟨b,o,none⟩∧b<w.heap.size∧w'.cell? ⟨b,o+k*2,none⟩=some (.int .i64 l[k].1)∧w'.cell? ⟨b,o+k*2+1,none⟩=some (.int .i32 l[k].2):=by
 obtain⟨b,o,e,hl,h0,h1⟩:=StepsIn.at_ h hk;exact⟨b,o,e,hl,(hb.cell (p:=⟨b,o+k*2,none⟩) hl).trans h0,(hb.cell (p:=⟨b,o+k*2+1,none⟩) hl).trans h1⟩
def RetTwoO (w:World) (x y:LP_) (er:Int) (e:Ending) (w':World):Prop:=
 ∃A c B d,e= .returned (.tuple #[.slice A x.length c,.slice B y.length d,.int .i64 er])∧w'.ownsRow w.heap.size 73 3 (.slice A x.length c) x.length (opCells x)∧w'.ownsRow w.heap.size 73 3 (.slice B y.length d) y.length (opCells y)∧Below w.heap.size w w'
section
variable(w:World) (A B:OA_) (c d:Nat) (x y:LP_) (hT:Tabs w) (hx:OpIn (· <w.heap.size) w A x) (hy:OpIn (· <w.heap.size) w B y) (hxl:x.length≤1048576) (hyl:y.length≤1048576) (hxt: ∀p∈x,p.text.size≤1048576) (hyt: ∀p∈y,p.text.size≤1048576)
include w A B c d x y hT hx hy hxl hyl hxt hyt
theorem sx_(h1:opFault x≠0):Calls Tryz.prog 119 #[.slice A x.length c,.slice B y.length d] w (RetTwoO w [] [] (opFault x)):=by
 exact m130_
theorem sy_(h1:opFault x=0)(h2:opFault y≠0):Calls Tryz.prog 119 #[.slice A x.length c,.slice B y.length d] w (RetTwoO w [] [] (opFault y)):=by
 exact m45_
theorem sw_(h1:opFault x=0)(h2:opFault y=0)(h3:(lens x).1≠(lens y).1):Calls Tryz.prog 119 #[.slice A x.length c,.slice B y.length d] w (RetTwoO w [] [] 10):=by
 have vBM:=h_ trivial;exact m45_
end
theorem ck_{w w':World}{base:Nat}{e:TypeId}{size:Nat}{v:Value}{n:Nat}{xs:List Value}(h:w.ownsRow base e size v n xs)(hb:Below w.heap.size w w'):w'.ownsRow base e size v n xs:=
 vw_ h fun g hg=>hb.block g (h.lt g hg).2
theorem vu_{w:World}{base base':Nat}{e:TypeId}{size:Nat}{v:Value}{n:Nat}{xs:List Value}(h:w.ownsRow base e size v n xs)(hb:base'≤base):w.ownsRow base' e size v n xs:=
 ⟨h.1,h.2.imp id fun⟨g,cap,cur,q1,q2,q3⟩=>⟨g,cap,cur,q1,Nat.le_trans hb q2,q3⟩⟩
section
variable(w:World) (A B:OA_) (c d:Nat) (x y:LP_) (hT:Tabs w) (hx:OpIn (· <w.heap.size) w A x) (hy:OpIn (· <w.heap.size) w B y) (hxl:x.length≤1048576) (hyl:y.length≤1048576) (hxt: ∀p∈x,p.text.size≤1048576) (hyt: ∀p∈y,p.text.size≤1048576)
include w A B c d x y hT hx hy hxl hyl hxt hyt
theorem qp_(he:bothErr x y=0):Calls Tryz.prog 119 #[.slice A x.length c,.slice B y.length d] w (RetTwoO w (trL x y) (trR x y) (trE x y)):=by
 obtain⟨i0,hi,hz0,hz1,hz2⟩:=info_parts infoStep;obtain⟨hfx,hfy,hln⟩:=ka_ he;have HX:=h_ (bk_ w A c x hT hx hxl hxt);have HY:=h_ (fun W hT hs=>bk_ W B d y hT hs hyl hyt);have HLX:=h_ (fun W hs=>bq_ W A c x hs hxl hxt);have HLY:=h_ (fun W hs=>bq_ W B d y hs hyl hyt);have HT:=h_ hT;rw [hfx]at HX;rw [hfy]at HY;obtain⟨_,hokx,_,_⟩:=cr_ hfx;obtain⟨_,hoky,_,_⟩:=cr_ hfy;obtain⟨ex1,_,nx1,nx2⟩:=gc_ hfx;obtain⟨ey1,_,ny1,ny2⟩:=gc_ hfy;have hslx:=do_ hokx;have hsly:=do_ hoky;have htl:=kt_ (stepsOf x) (stepsOf y);have HSX:=h_ (fun W hs=>ra_ W A c x hs hxl hxt (by omega));have HSY:=h_ (fun W hs=>ra_ W B d y hs hyl hyt (by omega));have HCL:=h_ (show(trC x y).length≤16000 by unfold trC;omega);have HDL:=h_ (show(trD x y).length≤16000 by unfold trD;omega);have HF0:=h_ (show fromS ((stepsOf x).drop 0)=fromS ((stepsOf y).drop 0) by rw [List.drop_zero,List.drop_zero,eh_,eh_];omega);have HC0:=h_ (show []++(trS ((stepsOf x).drop 0) ((stepsOf y).drop 0)).1=trC x y by rw [List.drop_zero,List.drop_zero];rfl);have HD0:=h_ (show []++(trS ((stepsOf x).drop 0) ((stepsOf y).drop 0)).2=trD x y by rw [List.drop_zero,List.drop_zero];rfl);have hE:trE x y=fitsErr (grouped (trC x y)) (grouped (trD x y)):=if_neg (by simpa using he);have HL:=h_ (show trL x y=if trE x y=0 then grouped (trC x y)else []from rfl);have HR0:=h_ (show trR x y=if trE x y=0 then grouped (trD x y)else []from rfl);have HE:=h_ hE;have e3:((lens x).1 !=(lens y).1)=false:=by simpa using hln
 generalize lens x=L at*;generalize lens y=M at*;obtain⟨L1,L2⟩:=L;obtain⟨M1,M2⟩:=M;dsimp only at*;generalize trL x y=LL at*;generalize trR x y=LR at*;generalize trE x y=EE at*;generalize trC x y=CC at*;generalize trD x y=DD at*;generalize stepsOf x=X at*;generalize stepsOf y=Y at*;have hXl:X.length≤8000:=by omega
 have hYl:Y.length≤8000:=by omega
 have HXO:=h_ hx;have HYO:=h_ hy;clear he hT hxl hyl hxt hyt hfx hfy hln hokx hoky ex1 ey1 nx1 nx2 ny1 ny2 hslx hsly htl hE;go_enter Tryz.func119,Tryz.ntmps119
 go_wp2_with fail
 refine HX.o.mono ?_;rintro e w1 ⟨rfl,hb1⟩;have HB1:=h_ hb1;clear hb1;go_wp2_with fail
 refine(HY.o _ (HT.o.la HB1.o) (Sl.la HYO.o HB1.o)).mono ?_;rintro e w2 ⟨rfl,hb2⟩;have HB2:=h_ (bThen HB1.o hb2);clear hb2;go_wp2_with fail
 refine(HLX.o _ (Sl.la HXO.o HB2.o)).mono ?_;rintro e w3 ⟨rfl,hb3⟩;have HB3:=h_ (bThen HB2.o hb3);clear hb3;go_wp2_with fail
 refine(HLY.o _ (Sl.la HYO.o HB3.o)).mono ?_;rintro e w4 ⟨rfl,hb4⟩;have HB4:=h_ (bThen HB3.o hb4);clear hb4;clear hx hy;go_wp2_with fail
 refine(HSX.o _ (Sl.la HXO.o HB4.o)).mono ?_;rintro e w6 ⟨AX,cX,rfl,hoX,hb6⟩;have HB6:=h_ (bThen HB4.o hb6);clear hb6;have HX6:=h_ (cv_ hoX);clear hoX;go_wp2_with fail
 refine(HSY.o _ (Sl.la HYO.o HB6.o)).mono ?_;rintro e w8 ⟨AY,cY,rfl,hoY,hb8⟩;have HB8:=h_ (bThen HB6.o hb8);have HX8:=h_ (Sl.la HX6.o hb8);have HY8:=h_ (cv_ hoY);clear hb8 hoY HX6 HX HY HLX HLY HSX HSY;go_wp2_with fail
 go_loopw [14,15,16,17] (fun c_ d_ i_ k_ wr=> ∃(i k:Nat) (c' d':List (Int × Int)) (Ac:OA_) (cc:Nat) (Ad:OA_) (cd:Nat),i≤X.length∧k≤Y.length∧i_= .int .i64 i∧k_= .int .i64 k∧c_= .slice Ac c'.length cc∧d_= .slice Ad d'.length cd∧Hid (StAt w8 wr Ac cc Ad cd c' d')∧Hid (c'++(trS (X.drop i) (Y.drop k)).1=CC)∧Hid (d'++(trS (X.drop i) (Y.drop k)).2=DD)∧Hid (fromS (X.drop i)=fromS (Y.drop k)))
  (fun _ _ i k _=>X.length - (intOf i).toNat+(Y.length - (intOf k).toNat))
 case atStart=>exact⟨0,0,[],[],none,0,none,0,Nat.zero_le _,Nat.zero_le _,rfl,rfl,rfl,rfl,⟨World.ownsRow_nil _ _ _ _,World.ownsRow_nil _ _ _ _,.inl rfl,Below.refl _ _⟩,HC0,HD0,HF0⟩
 case round=>
  obtain⟨i,k,c',d',Ac,cc,Ad,cd,hi1,hk1,rfl,rfl,rfl,rfl,hat0,hC,hD,hF⟩:=hrel;have hsz:=hat0.o.b.size;have hbc:c'.length≤16000:=by have h2:=congrArg List.length hC.o;have h3:=HCL.o;rw [List.length_append]at h2;omega
  have hbd:d'.length≤16000:=by have h2:=congrArg List.length hD.o;have h3:=HDL.o;rw [List.length_append]at h2;omega
  by_cases hlx:i<X.length
  ·have hdx:=List.drop_eq_getElem_cons hlx;have HCX:=h_ (fun(W:World) (h:Below w8.heap.size w8 W)=>no_ HX8.o hlx h);generalize X[i]=u at*;obtain⟨kx,rx⟩:=u;dsimp only at*;obtain⟨b,o,rfl,hbl,g0,g1⟩:=HCX.o wr hat0.o.b;have HCX1:=h_ (fun(W:World) (h:Below w8.heap.size w8 W)=>show W.cell? ⟨b,o+i*2,none⟩=some (.int .i64 kx)∧W.cell? ⟨b,o+i*2+1,none⟩=some (.int .i32 rx) by
    obtain⟨b',o',he,_,q0,q1⟩:=HCX.o W h;injection he with he
    injection he with h1 h2
    subst h1 h2;exact⟨q0,q1⟩)
   clear HCX;by_cases hkx:kx=2
   ·subst hkx;have HC':=h_ (show(c'++ [(2,rx)])++(trS (X.drop (i+1)) (Y.drop k)).1=CC by rw [←hC.o,hdx,np_];simp);have HD':=h_ (show(d'++ [(1,0)])++(trS (X.drop (i+1)) (Y.drop k)).2=DD by rw [←hD.o,hdx,np_];simp);have HF':=h_ (show fromS (X.drop (i+1))=fromS (Y.drop k) by rw [←hF.o,hdx,gm_];omega);clear hC hD hF hdx;have HX1:=h_ (hat0.o.la (bAlloc (Below.refl _ _) (.cells #[.int .i64 2,.int .i32 rx] 161)));have HS1:=h_ (Sl.new (S:=fun _=>True) wr [.int .i64 2,.int .i32 rx] 161 2 1 rfl trivial);go_wp2_with(at_builtin;refine l_ _ rfl _ _ 158 rfl w8.heap.size 161 i0 (.agg #[.int .i64 0,.int .i32 0]) 2 16 Tryz.underlying158 hi hz0 hz1 hz2 rfl (by decide) _ _ _ rfl HX1.o.rc _ _ _ _ _ rfl HS1.o ?c1 ?c2 ?c3 ?c4 ?_)
    case c1=>exact dq_ (2,rx)
    case c2=>unfold maxLen;omega
    case c3=>omega
    case c4=>simp;omega
    intro A1 c1 w1_ hown1 hgrow1 hat1;have HP1:=h_ (HX1.o.pushC (x:=(2,rx)) rfl hown1 hgrow1 (by simpa using hat1));have hzw1:=HP1.o.b.size;clear hown1 hgrow1 hat1 HX1 HS1;have HX2:=h_ (HP1.o.la (bAlloc (Below.refl _ _) (.cells #[.int .i64 1,.int .i32 0] 161)));have HS2:=h_ (Sl.new (S:=fun _=>True) w1_ [.int .i64 1,.int .i32 0] 161 2 1 rfl trivial);go_wp2_with(at_builtin;refine l_ _ rfl _ _ 158 rfl w8.heap.size 161 i0 (.agg #[.int .i64 0,.int .i32 0]) 2 16 Tryz.underlying158 hi hz0 hz1 hz2 rfl (by decide) _ _ _ rfl HX2.o.rd _ _ _ _ _ rfl HS2.o ?c1 ?c2 ?c3 ?c4 ?_)
    case c1=>exact dq_ (1,0)
    case c2=>unfold maxLen;omega
    case c3=>omega
    case c4=>simp;omega
    intro A2 c2 w2 hown2 hgrow2 hat2;have HP2:=h_ (HX2.o.pushD (x:=(1,0)) rfl hown2 hgrow2 (by simpa using hat2));have hzw2:=HP2.o.b.size;clear hown2 hgrow2 hat2 HX2 HS2;go_wp2_with fail
    go_roundw
    case rel=>exact⟨i+1,k,c'++ [(2,rx)],d'++ [(1,0)],A1,c1,A2,c2,by omega,by omega,by go_num,by go_num,(by first | rfl | simp),(by first | rfl | simp),HP2,HC',HD',HF'⟩
    case measure=>simp [intOf] <;> omega
   have e2:(kx==2)=false:=(by simpa using hkx);by_cases hly:k<Y.length
   ·have k172_:K_ (∀(P:Prop) (h:P:=by
    by_cases hky:ky=2
    ·subst hky;have HC':=h_ (show(c'++ [(1,0)])++(trS (X.drop i) (Y.drop (k+1))).1=CC by rw [←hC.o,hdy,hw_ (by rw [hdx];intro z r hz;injection hz with a _;rw [←a];exact hkx)];simp);have HD':=h_ (show(d'++ [(2,ry)])++(trS (X.drop i) (Y.drop (k+1))).2=DD by rw [←hD.o,hdy,hw_ (by rw [hdx];intro z r hz;injection hz with a _;rw [←a];exact hkx)];simp);have HF':=h_ (show fromS (X.drop i)=fromS (Y.drop (k+1)) by rw [hF.o,hdy,gm_];omega);clear hC hD hF hdy hdx hkx;have k100_:K_ (∀(P:Prop) (h:P:=by
     go_roundw
     case rel=>exact⟨i,k+1,c'++ [(1,0)],d'++ [(2,ry)],A1,c1,A2,c2,by omega,by omega,by go_num,by go_num,(by first | rfl | simp),(by first | rfl | simp),HP2,HC',HD',HF'⟩
     case measure=>simp [intOf] <;> omega
     ),P):=⟨@q6_⟩
     exact m100_
    have e4:(ky==2)=false:=(by simpa using hky);have HF':=h_ (show fromS (X.drop (i+1))=fromS (Y.drop (k+1)) by
     have:=hF.o;rw [hdx,hdy,ex_ hkx,ex_ hky]at this;omega)
    have hC2:=hC.o;have hD2:=hD.o;rw [hdx,hdy,wq_ hkx hky]at hC2 hD2;dsimp only at hC2 hD2;clear hC hD hF hdx hdy;by_cases hy1:ky=1
    ·subst hy1;by_cases hx1:kx=1
     ·subst hx1;have HC':=h_ (show(c'++ [(1,rx)])++(trS (X.drop (i+1)) (Y.drop (k+1))).1=CC by simpa using hC2);have HD':=h_ (show(d'++ [(1,ry)])++(trS (X.drop (i+1)) (Y.drop (k+1))).2=DD by simpa using hD2);clear hC2 hD2 hkx hky;have HX1:=h_ (hat0.o.la (bAlloc (Below.refl _ _) (.cells #[.int .i64 1,.int .i32 rx] 161)));have HS1:=h_ (Sl.new (S:=fun _=>True) wr [.int .i64 1,.int .i32 rx] 161 2 1 rfl trivial);go_wp2_with(at_builtin;refine l_ _ rfl _ _ 158 rfl w8.heap.size 161 i0 (.agg #[.int .i64 0,.int .i32 0]) 2 16 Tryz.underlying158 hi hz0 hz1 hz2 rfl (by decide) _ _ _ rfl HX1.o.rc _ _ _ _ _ rfl HS1.o ?c1 ?c2 ?c3 ?c4 ?_)
      case c1=>exact dq_ (1,rx)
      case c2=>unfold maxLen;omega
      case c3=>omega
      case c4=>simp;omega
      intro A1 c1 w1_ hown1 hgrow1 hat1;have HP1:=h_ (HX1.o.pushC (x:=(1,rx)) rfl hown1 hgrow1 (by simpa using hat1));have hzw1:=HP1.o.b.size;clear hown1 hgrow1 hat1 HX1 HS1;obtain⟨q0,q1⟩:=HCX1.o w1_ HP1.o.b;obtain⟨r0,r1⟩:=HCY1.o w1_ HP1.o.b;have HX2:=h_ (HP1.o.la (bAlloc (Below.refl _ _) (.cells #[.int .i64 1,.int .i32 ry] 161)));have HS2:=h_ (Sl.new (S:=fun _=>True) w1_ [.int .i64 1,.int .i32 ry] 161 2 1 rfl trivial);go_wp2_with(at_builtin;refine l_ _ rfl _ _ 158 rfl w8.heap.size 161 i0 (.agg #[.int .i64 0,.int .i32 0]) 2 16 Tryz.underlying158 hi hz0 hz1 hz2 rfl (by decide) _ _ _ rfl HX2.o.rd _ _ _ _ _ rfl HS2.o ?c1 ?c2 ?c3 ?c4 ?_)
      case c1=>exact dq_ (1,ry)
      case c2=>unfold maxLen;omega
      case c3=>omega
      case c4=>simp;omega
      intro A2 c2 w2 hown2 hgrow2 hat2;have HP2:=h_ (HX2.o.pushD (x:=(1,ry)) rfl hown2 hgrow2 (by simpa using hat2));have hzw2:=HP2.o.b.size;clear hown2 hgrow2 hat2 HX2 HS2;go_wp2_with fail
      go_roundw
      case rel=>exact⟨i+1,k+1,c'++ [(1,rx)],d'++ [(1,ry)],A1,c1,A2,c2,by omega,by omega,by go_num,by go_num,(by first | rfl | simp),(by first | rfl | simp),HP2,HC',HD',HF'⟩
      case measure=>simp [intOf] <;> omega
     ·have e6:(kx==1)=false:=(by simpa using hx1);have HC':=h_ (show(c'++ [(kx,rx)])++(trS (X.drop (i+1)) (Y.drop (k+1))).1=CC by simpa using hC2);have HD':=h_ (show(d')++(trS (X.drop (i+1)) (Y.drop (k+1))).2=DD by simpa [hx1]using hD2);clear hC2 hD2 hkx hky hx1;have HX1:=h_ (hat0.o.la (bAlloc (Below.refl _ _) (.cells #[.int .i64 kx,.int .i32 rx] 161)));have HS1:=h_ (Sl.new (S:=fun _=>True) wr [.int .i64 kx,.int .i32 rx] 161 2 1 rfl trivial);go_wp2_with(at_builtin;refine l_ _ rfl _ _ 158 rfl w8.heap.size 161 i0 (.agg #[.int .i64 0,.int .i32 0]) 2 16 Tryz.underlying158 hi hz0 hz1 hz2 rfl (by decide) _ _ _ rfl HX1.o.rc _ _ _ _ _ rfl HS1.o ?c1 ?c2 ?c3 ?c4 ?_)
      case c1=>exact dq_ (kx,rx)
      case c2=>unfold maxLen;omega
      case c3=>omega
      case c4=>simp;omega
      intro A1 c1 w1_ hown1 hgrow1 hat1;have HP1:=h_ (HX1.o.pushC (x:=(kx,rx)) rfl hown1 hgrow1 (by simpa using hat1));have hzw1:=HP1.o.b.size;clear hown1 hgrow1 hat1 HX1 HS1;obtain⟨q0,q1⟩:=HCX1.o w1_ HP1.o.b;obtain⟨r0,r1⟩:=HCY1.o w1_ HP1.o.b;go_wp2_with fail
      go_roundw
      case rel=>exact⟨i+1,k+1,c'++ [(kx,rx)],d',A1,c1,Ad,cd,by omega,by omega,by go_num,by go_num,(by first | rfl | simp),(by first | rfl | simp),HP1,HC',HD',HF'⟩
      case measure=>simp [intOf] <;> omega
    ·have e5:(ky==1)=false:=(by simpa using hy1);by_cases hx1:kx=1
     ·subst hx1;have HC':=h_ (show(c')++(trS (X.drop (i+1)) (Y.drop (k+1))).1=CC by simpa [hy1]using hC2);have HD':=h_ (show(d'++ [(ky,ry)])++(trS (X.drop (i+1)) (Y.drop (k+1))).2=DD by simpa using hD2);clear hC2 hD2 hkx hky hy1;have HX2:=h_ (hat0.o.la (bAlloc (Below.refl _ _) (.cells #[.int .i64 ky,.int .i32 ry] 161)));have HS2:=h_ (Sl.new (S:=fun _=>True) wr [.int .i64 ky,.int .i32 ry] 161 2 1 rfl trivial);go_wp2_with(at_builtin;refine l_ _ rfl _ _ 158 rfl w8.heap.size 161 i0 (.agg #[.int .i64 0,.int .i32 0]) 2 16 Tryz.underlying158 hi hz0 hz1 hz2 rfl (by decide) _ _ _ rfl HX2.o.rd _ _ _ _ _ rfl HS2.o ?c1 ?c2 ?c3 ?c4 ?_)
      case c1=>exact dq_ (ky,ry)
      case c2=>unfold maxLen;omega
      case c3=>omega
      case c4=>simp;omega
      intro A2 c2 w2 hown2 hgrow2 hat2;have HP2:=h_ (HX2.o.pushD (x:=(ky,ry)) rfl hown2 hgrow2 (by simpa using hat2));have hzw2:=HP2.o.b.size;clear hown2 hgrow2 hat2 HX2 HS2;go_wp2_with fail
      go_roundw
      case rel=>exact⟨i+1,k+1,c',d'++ [(ky,ry)],Ac,cc,A2,c2,by omega,by omega,by go_num,by go_num,(by first | rfl | simp),(by first | rfl | simp),HP2,HC',HD',HF'⟩
      case measure=>simp [intOf] <;> omega
     ·have e6:(kx==1)=false:=(by simpa using hx1);have HC':=h_ (show(c')++(trS (X.drop (i+1)) (Y.drop (k+1))).1=CC by simpa [hy1]using hC2);have HD':=h_ (show(d')++(trS (X.drop (i+1)) (Y.drop (k+1))).2=DD by simpa [hx1]using hD2);clear hC2 hD2 hkx hky hy1 hx1;go_wp2_with fail
      go_roundw
      case rel=>exact⟨i+1,k+1,c',d',Ac,cc,Ad,cd,by omega,by omega,by go_num,by go_num,(by first | rfl | simp),(by first | rfl | simp),hat0,HC',HD',HF'⟩
      case measure=>simp [intOf] <;> omega
    ),P):=⟨@q6_⟩
    exact m172_
   ·exfalso;have h1:=hF.o;have hdy:Y.drop k= []:=List.drop_eq_nil_of_le (by omega);have h3:fromS ([]:List (Int × Int))=0:=rfl;rw [hdx,hdy,ex_ hkx]at h1;omega
  ·obtain rfl:i=X.length:=(by omega);have hdx:X.drop X.length= []:=List.drop_length;by_cases hly:k<Y.length
   ·have k172_:K_ (∀(P:Prop) (h:P:=by
    have hky:ky=2:=by
     by_cases h2:ky=2
     ·exact h2
     ·exfalso;have h1:=hF.o;have h3:fromS ([]:List (Int × Int))=0:=rfl;rw [hdx,hdy,ex_ h2]at h1;omega
    subst hky;have HC':=h_ (show(c'++ [(1,0)])++(trS (X.drop X.length) (Y.drop (k+1))).1=CC by rw [←hC.o,hdy,hw_ (by rw [hdx];exact jk_ 2)];simp);have HD':=h_ (show(d'++ [(2,ry)])++(trS (X.drop X.length) (Y.drop (k+1))).2=DD by rw [←hD.o,hdy,hw_ (by rw [hdx];exact jk_ 2)];simp);have HF':=h_ (show fromS (X.drop X.length)=fromS (Y.drop (k+1)) by rw [hF.o,hdy,gm_];omega);clear hC hD hF hdy hdx;have k100_:K_ (∀(P:Prop) (h:P:=by
    go_roundw
    case rel=>exact⟨X.length,k+1,c'++ [(1,0)],d'++ [(2,ry)],A1,c1,A2,c2,by omega,by omega,by go_num,by go_num,(by first | rfl | simp),(by first | rfl | simp),HP2,HC',HD',HF'⟩
    case measure=>simp [intOf] <;> omega
    ),P):=⟨@q6_⟩
    exact m100_
    ),P):=⟨@q6_⟩
    exact m172_
   ·obtain rfl:k=Y.length:=(by omega);have hcc:c'=CC:=(by have:=hC.o;rw [hdx,List.drop_length]at this;simpa [trS]using this);have hdd:d'=DD:=(by have:=hD.o;rw [hdx,List.drop_length]at this;simpa [trS]using this);subst hcc hdd;have HGC:=h_ (fun(W:World) (h:StepsIn (· <W.heap.size) W Ac c')=>rl_ W Ac cc c' h (by omega));have HGD:=h_ (fun(W:World) (h:StepsIn (· <W.heap.size) W Ad d')=>rl_ W Ad cd d' h (by omega));have hgl:=is_ c';have hhl:=is_ d';have HOU:=h_ (fun(W:World) A c hT hs=>bk_ W A c (grouped c') hT hs (by omega) (fun p hp=>by have:=fr_ c' p hp;omega));have HOV:=h_ (fun(W:World) A c hT hs=>bk_ W A c (grouped d') hT hs (by omega) (fun p hp=>by have:=fr_ d' p hp;omega));have hE:=HE.o;unfold fitsErr at hE;have h1:=HL.o;have h2:=HR0.o;clear hgl hhl hC hD hF HC0 HD0 HF0 HCL HDL HL HR0 HE hdx hlx hly;generalize grouped c'=U at*;generalize grouped d'=V at*;by_cases hu:opFault U=0
    ·rw [if_neg (by simpa using hu)]at hE;rw [hu]at HOU;by_cases hv:opFault V=0
     ·rw [hv]at hE HOV;rw [if_pos hE]at h1 h2;have HLL:=h_ h1;have HLR2:=h_ h2;have HEE:=h_ hE;clear h1 h2 hE hu hv;have k121_:K_ (∀(P:Prop) (h:P:=by
      refine(HOV.o _ A2 c2 (HT.o.la HB3.o) (cv_ HV3.o)).mono ?_;rintro e u4 ⟨rfl,hb4⟩;have HB4:=h_ (bThen HB3.o hb4);have HU4:=h_ (ck_ HU3.o hb4);have HV4:=h_ (ck_ HV3.o hb4);clear hb4;go_wp2_with fail
      go_ret3
      rw [HLL.o,HLR2.o,HEE.o];exact⟨A1,c1,A2,c2,rfl,vu_ HU4.o (by have:=HB8.o.size;omega),vu_ HV4.o (by have:=HB8.o.size;omega),HB4.o⟩
      ),P):=⟨@q6_⟩
      exact m121_
     ·rw [if_neg (by rw [hE];exact hv)]at h1 h2;have HLL:=h_ h1;have HLR2:=h_ h2;have HEE:=h_ hE;have e7:(opFault V !=0)=true:=(by simpa using hv);generalize opFault V=z at*;clear h1 h2 hE hu hv;have k121_:K_ (∀(P:Prop) (h:P:=by
      refine(HOV.o _ A2 c2 (HT.o.la HB3.o) (cv_ HV3.o)).mono ?_;rintro e u4 ⟨rfl,hb4⟩;have HB4:=h_ (bThen HB3.o hb4);have HU4:=h_ (ck_ HU3.o hb4);have HV4:=h_ (ck_ HV3.o hb4);clear hb4;go_wp2_with fail
      go_ret3
      rw [HLL.o,HLR2.o,HEE.o];exact⟨none,0,none,0,rfl,World.ownsRow_nil _ _ _ _,World.ownsRow_nil _ _ _ _,HB4.o⟩
      ),P):=⟨@q6_⟩
      exact m121_
    ·rw [if_pos hu]at hE;rw [if_neg (by rw [hE];exact hu)]at h1 h2;have HLL:=h_ h1;have HLR2:=h_ h2;have HEE:=h_ hE;have e7:(opFault U !=0)=true:=(by simpa using hu);have e8:(opFault U==0)=false:=(by simpa using hu);generalize opFault U=z at*;clear h1 h2 hE hu;have k121_:K_ (∀(P:Prop) (h:P:=by
     go_ret3
     rw [HLL.o,HLR2.o,HEE.o];exact⟨none,0,none,0,rfl,World.ownsRow_nil _ _ _ _,World.ownsRow_nil _ _ _ _,HB3.o⟩
     ),P):=⟨@q6_⟩
     exact m121_
theorem gz_:Calls Tryz.prog 119 #[.slice A x.length c,.slice B y.length d] w (RetTwoO w (trL x y) (trR x y) (trE x y)):=by
 by_cases he:bothErr x y=0
 ·exact qp_ w A B c d x y hT hx hy hxl hyl hxt hyt he
 ·have h1:trE x y=bothErr x y:=if_pos he;have h2:trL x y= []:=if_neg (by rw [h1];exact he);have h3:trR x y= []:=if_neg (by rw [h1];exact he);rw [h1,h2,h3];unfold bothErr at he⊢;by_cases q1:opFault x≠0
  ·rw [if_pos q1];exact sx_ w A B c d x y hT hx hy hxl hyl hxt hyt q1
  rw [if_neg q1]at he⊢;by_cases q2:opFault y≠0
  ·rw [if_pos q2];exact sy_ w A B c d x y hT hx hy hxl hyl hxt hyt (Classical.not_not.1 q1) q2
  rw [if_neg q2]at he⊢;by_cases q3:(lens x).1≠(lens y).1
  ·rw [if_pos q3];exact sw_ w A B c d x y hT hx hy hxl hyl hxt hyt (Classical.not_not.1 q1) (Classical.not_not.1 q2) q3
  ·rw [if_neg q3]at he;exact absurd rfl he
end
end Go.Proofs.YtacacoklddogmaaGreatDoor
