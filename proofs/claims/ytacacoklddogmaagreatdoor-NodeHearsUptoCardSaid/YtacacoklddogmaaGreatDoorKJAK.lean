/- Lemmas. -/
import Derived.Test.YtacacoklddogmaaGreatDoorKJAL
namespace Go.Proofs.YtacacoklddogmaaGreatDoor
set_option maxHeartbeats 4000000
open Go.ChangeShapes Go.WideShapes Go.ChangeAt Go.RowKit
set_option maxRecDepth 100000
theorem m9_{P:Prop}(h:P:=by
 have k279_:K_ (∀(P:Prop) (h:P:=by
 have k222_:K_ (∀(P:Prop) (h:P:=by
 dsimp only at HA;rw [←hWA]at HA;have HW:=h_ hWA.symm;clear hWA;have k153_:K_ (∀(P:Prop) (h:P:=by
 have k95_:K_ (∀(P:Prop) (h:P:=by
 have k220_:K_ (∀(P:Prop) (h:P:=by
 go_wp2_with fail
 all_goals(
  (try clear _ht _q3 _q4 _q5)
  clear n0 n1 n2 n3 n4 n5 n6 n7 nz hw q1 q2 t1 t2 t3 t4 t5 t6;go_loopw [112] (fun i wr=> ∃k:Nat,k≤S.length∧i= .int .i64 k∧Hid (∀i (h:i<S.length),i<k→S[i].p=pl.getD i 0∧sideMay true (runesI t) S[i])∧Hid (OneAt w ⟨me,ep,up,true,t,sA,sc,S,uA,uc,U,mA,mc,M⟩ wr)∧Hid (Sl (· <wr.heap.size) wr 1 Aa pl.length (pl.map (Value.int .i64)))) (fun i _=>S.length - (intOf i).toNat)
  case atStart=>exact⟨0,Nat.zero_le _,rfl,fun i hi h=>absurd h (by omega),H4,HAL⟩
  case round=>
   have k281_:K_ (∀(P:Prop) (h:P:=by
   by_cases hlt:k<S.length
   ·have k73_:K_ (∀(P:Prop) (h:P:=by
    have k214_:K_ (∀(P:Prop) (h:P:=by
    by_cases hp:S[k].p=pl.getD k 0
    ·have hpk:=hp;have hne:(S[k].p !=pl.getD k 0)=false:=(by simp [hp]);by_cases hsm:sideMay true (runesI t) S[k]
     ·have HS2:=h_ (show∀W,Below wr.heap.size wr W→Calls Tryz.prog 87 #[NodeV.val ⟨me,ep,up,true,t,some ⟨b,o,none⟩,sc,S,uA,uc,U,mA,mc,M⟩,S[k].val] W (R_ W (.bool true))from fun W hb=>(HSK.o W hb).mono fun r w' ⟨⟨b,e,q⟩,h⟩=>⟨by rw [e];cases b <;> simp_all,h⟩);have HGN:=h_ (show∀i (h:i<S.length),i<k+1→S[i].p=pl.getD i 0∧sideMay true (runesI t) S[i]from fun i h hi=>by
       rcases Nat.lt_or_ge i k with q | q
       · exact HG.o i h q
       · obtain rfl:i=k:=by omega
         exact⟨hp,hsm⟩)
      have k104_:K_ (∀(P:Prop) (h:P:=by
      go_region_held3 (fun w'=>w'.cell? ⟨w.heap.size,0,none⟩=some (.int .i64 me)∧w'.cell? ⟨w.heap.size,1,none⟩=some (.int .i64 ep)∧w'.cell? ⟨w.heap.size,2,none⟩=some (.int .i64 up)∧w'.cell? ⟨w.heap.size,3,none⟩=some (.bool true)∧w'.cell? ⟨w.heap.size,4,none⟩=some (.string t)∧w'.cell? ⟨w.heap.size,5,none⟩=some (.slice (some ⟨b,o,none⟩) S.length sc)∧w'.cell? ⟨w.heap.size,6,none⟩=some (.slice uA U.length uc)∧w'.cell? ⟨w.heap.size,7,none⟩=some (.slice mA M.length mc)∧w'.cell? ⟨wr.heap.size,0,none⟩=some (.int .i64 p)∧w'.cell? ⟨wr.heap.size,1,none⟩=some (.bool j)∧w'.cell? ⟨wr.heap.size,2,none⟩=some (.int .i64 s)∧w'.cell? ⟨wr.heap.size,3,none⟩=some (.int .i64 h)∧w'.cell? ⟨wr.heap.size,4,none⟩=some (.slice A L.length c)∧w'.cell? ⟨wr.heap.size,5,none⟩=some (.int .i64 kk.e)∧w'.cell? ⟨wr.heap.size,6,none⟩=some (.int .i64 kk.n)∧w'.cell? ⟨wr.heap.size,7,none⟩=some (.slice kk.sA kk.s.length kk.sc)∧w'.cell? ⟨wr.heap.size,8,none⟩=some (.slice kk.qA kk.q.length kk.qc)∧w'.cell? ⟨wr.heap.size,9,none⟩=some (.int .i64 kk.h)∧w'.cell? ⟨ab,ao+k,none⟩=some (.int .i64 p))
       (go_keep)
       ((go_at_call 87;refine(HS2.o _ bz_).mono ?_;rintro r w6 ⟨rfl,hb6⟩;obtain⟨⟨d6,os6⟩,rfl⟩:=e_ hb6))
      all_goals(
       exact m170_)
      ),P):=⟨@q6_⟩
      exact m104_
     ·have HS2:=h_ (show∀W,Below wr.heap.size wr W→Calls Tryz.prog 87 #[NodeV.val ⟨me,ep,up,true,t,some ⟨b,o,none⟩,sc,S,uA,uc,U,mA,mc,M⟩,S[k].val] W (R_ W (.bool false))from fun W hb=>(HSK.o W hb).mono fun r w' ⟨⟨b,e,q⟩,h⟩=>⟨by rw [e];cases b <;> simp_all,h⟩);have HR9:=h_ (H9.o fun q=>hsm (q.1 k hlt).2);have k104_:K_ (∀(P:Prop) (h:P:=by
      go_region_held3 (fun w'=>w'.cell? ⟨w.heap.size,0,none⟩=some (.int .i64 me)∧w'.cell? ⟨w.heap.size,1,none⟩=some (.int .i64 ep)∧w'.cell? ⟨w.heap.size,2,none⟩=some (.int .i64 up)∧w'.cell? ⟨w.heap.size,3,none⟩=some (.bool true)∧w'.cell? ⟨w.heap.size,4,none⟩=some (.string t)∧w'.cell? ⟨w.heap.size,5,none⟩=some (.slice (some ⟨b,o,none⟩) S.length sc)∧w'.cell? ⟨w.heap.size,6,none⟩=some (.slice uA U.length uc)∧w'.cell? ⟨w.heap.size,7,none⟩=some (.slice mA M.length mc)∧w'.cell? ⟨wr.heap.size,0,none⟩=some (.int .i64 p)∧w'.cell? ⟨wr.heap.size,1,none⟩=some (.bool j)∧w'.cell? ⟨wr.heap.size,2,none⟩=some (.int .i64 s)∧w'.cell? ⟨wr.heap.size,3,none⟩=some (.int .i64 h)∧w'.cell? ⟨wr.heap.size,4,none⟩=some (.slice A L.length c)∧w'.cell? ⟨wr.heap.size,5,none⟩=some (.int .i64 kk.e)∧w'.cell? ⟨wr.heap.size,6,none⟩=some (.int .i64 kk.n)∧w'.cell? ⟨wr.heap.size,7,none⟩=some (.slice kk.sA kk.s.length kk.sc)∧w'.cell? ⟨wr.heap.size,8,none⟩=some (.slice kk.qA kk.q.length kk.qc)∧w'.cell? ⟨wr.heap.size,9,none⟩=some (.int .i64 kk.h)∧w'.cell? ⟨ab,ao+k,none⟩=some (.int .i64 p))
       (go_keep)
       ((go_at_call 87;refine(HS2.o _ bz_).mono ?_;rintro r w6 ⟨rfl,hb6⟩;obtain⟨⟨d6,os6⟩,rfl⟩:=e_ hb6))
      all_goals(
       exact m224_)
      ),P):=⟨@q6_⟩
      exact m104_
    ·have hne:(S[k].p !=pl.getD k 0)=true:=(by simpa using hp);have HR9:=h_ (H9.o fun q=>hp (q.1 k hlt).1);exact m124_
    ),P):=⟨@q6_⟩
    exact m214_
    ),P):=⟨@q6_⟩
    exact m73_
   ·obtain rfl:k=S.length:=(by omega);first
    |guard_hyp vR
     have HPAR:=h_ (show 0<me→ ∀x,S.head?=some x→x.j=true from fun h=>absurd h (by simpa using _zp))
    |obtain⟨b,o,rfl,hbs,hc⟩:=bh_ SideV.cells 10 SideV.cells_len (Sl.la HI.o.sides.row HO.o.b) (k:=0) hpp;have c1:wr.cell? ⟨b,o+1,none⟩=some (.bool S[0].j):=(by simpa using hc 1 _ rfl);clear hc;have HHD:=h_ (show S.head?=some S[0]from List.head?_eq_getElem? ▸ List.getElem?_eq_getElem hpp);generalize S[0]=x at*;obtain⟨p,j,s,h,A,c,L,kk⟩:=x;dsimp only at c1;have hpp2:(0:Int)<(S.length:Int):=(by omega);by_cases hj: ¬j=true
     ·have hj2:j=!true:=by cases j <;> simp_all
      subst hj2;have HR9:=h_ (H9.o fun q=>by have:=q.2.1 (by simpa using _zp) _ HHD.o;cases this);clear hj;exact m162_
     replace hj:j=true:=Classical.not_not.1 hj
     subst hj;have HPAR:=h_ (show 0<me→ ∀x,S.head?=some x→x.j=true from fun _ x hx=>by rw [HHD.o]at hx;obtain rfl:=Option.some.inj hx;rfl)
    have HSO:=h_ (show∀i (h:i<S.length),S[i].p=pl.getD i 0∧sideMay true (runesI t) S[i]from fun i h=>HG.o i h h);go_wp2_with(refine z_ ?_)
    refine⟨?_⟩;go_region
    all_goals(
     go_wp2_with fail
     clear n0 n1 n2 n3 n4 n5 n6 n7 nz;first
     |guard_hyp vR
      go_loopw [147] (fun i wr=> ∃k:Nat,k≤M.length∧i= .int .i64 k∧Hid (∀i (h:i<M.length),i<k→markOk (runesI t) M[i])∧Hid (OneAt w ⟨me,ep,up,true,t,sA,sc,S,uA,uc,U,mA,mc,M⟩ wr)) (fun i _=>M.length - (intOf i).toNat)
     |go_loopw [147] (fun i wr=> ∃k:Nat,k≤M.length∧i= .int .i64 k∧Hid (∀i (h:i<M.length),i<k→markOk (runesI t) M[i])∧Hid (OneAt w ⟨me,ep,up,true,t,some ⟨b,o,none⟩,sc,S,uA,uc,U,mA,mc,M⟩ wr)) (fun i _=>M.length - (intOf i).toNat)
     case atStart=>exact⟨0,Nat.zero_le _,rfl,fun i hi h=>absurd h (by omega),h_ (HO.o.la bz_)⟩
     case round=>
      exact m92_)
   ),P):=⟨@q6_⟩
   exact m281_)
 ),P):=⟨@q6_⟩
 exact m220_
 ),P):=⟨@q6_⟩
 exact m95_
 ),P):=⟨@q6_⟩
 exact m153_
 ),P):=⟨@q6_⟩
 exact m222_
 ),P):=⟨@q6_⟩
 exact m279_):P:=h
theorem m39_{P:Prop}(h:P:=by
 have k112_:K_ (∀(P:Prop) (h:P:=by
 have k153_:K_ (∀(P:Prop) (h:P:=by
 have k95_:K_ (∀(P:Prop) (h:P:=by
 go_wp2_with fail
 all_goals(first
  | (go_ret;exact⟨rfl,H3.o.b⟩)
  | (refine (HU.o _ H3.o.b).mono ?_
     rintro e w4 ⟨rfl,hb4⟩;have H4:=h_ (H3.o.la hb4);clear n0 n1 n2 n3 n4 n5 n6 n7 nz;obtain⟨n0,n1,n2,n3,n4,n5,n6,n7,nz⟩:=p_ H4.o.nd;clear hb4;have hw:=HWR.o;go_wp2_with fail
     all_goals(first
      | (go_ret;exact⟨rfl,H4.o.b⟩)
      | (exfalso;exact H.o ⟨by omega,by assumption,by omega,fun hr=>by first | (exfalso;simp_all;done) | exact⟨by simpa using _z0,by assumption,by omega,by omega⟩⟩))))
 ),P):=⟨@q6_⟩
 exact m95_
 ),P):=⟨@q6_⟩
 exact m153_
 ),P):=⟨@q6_⟩
 exact m112_):P:=h
theorem m92_{P:Prop}(h:P:=by
 obtain⟨k,hk,rfl,HGM,HO4⟩:=hrel;have hM2:=HM1.o;obtain⟨n0,n1,n2,n3,n4,n5,n6,n7,nz⟩:=p_ HO4.o.nd
 (try dsimp only at n0 n1 n2 n3 n4 n5 n6 n7)
 by_cases hlt:k<M.length
 ·obtain⟨mb,mo,rfl,hbs,hc⟩:=bh_ markCells 2 bp_ (Sl.la HI.o.marks HO4.o.b) hlt;have c0:_root_.Go.World.cell? _ ⟨mb,mo+k*2,none⟩=some (.int .i64 M[k].1):=hc 0 _ rfl;have c1:_root_.Go.World.cell? _ ⟨mb,mo+k*2+1,none⟩=some (.int .i64 M[k].2):=hc 1 _ rfl;clear hc;by_cases hm:markOk (runesI t) M[k]
  ·have HGN:=h_ (show∀i (h:i<M.length),i<k+1→markOk (runesI t) M[i]from fun i h hi=>by
    rcases Nat.lt_or_ge i k with q | q
    · exact HGM.o i h q
    · obtain rfl:i=k:=by omega
      exact hm)
   generalize M[k]=m at*;obtain⟨ma,mh⟩:=m;obtain⟨⟨m1,m2⟩,m3,m4⟩:=hm;dsimp only at c0 c1 m1 m2 m3 m4;have d1:decide (ma<0)=false:=(by simpa using m1);have d2:decide (runesI t<ma)=false:=(by simpa using m2);have d3:decide (mh<0)=false:=(by simpa using m3);have d4:decide (runesI t<mh)=false:=(by simpa using m4);clear m1 m2 m3 m4;go_wp2_with fail
   refine(HRC.o _).mono ?_;rintro e w6 ⟨rfl,hb6⟩;obtain⟨⟨d6,os6⟩,rfl⟩:=e_ hb6;go_wp2_with fail
   go_roundw
   case rel=>exact⟨k+1,by omega,by go_num,HGN,h_ (HO4.o.la bz_)⟩
   case measure=>have:=HM1.o;simp [intOf];omega
  ·have HR9:=h_ (H9.o fun q=>hm (q.2.2 _ (List.getElem_mem hlt)));have HNM:=h_ hm;clear hm;unfold markOk at HNM;generalize M[k]=m at*;obtain⟨ma,mh⟩:=m;dsimp only at c0 c1 HNM;go_wp2_with fail
   refine(HRC.o _).mono ?_;rintro e w6 ⟨rfl,hb6⟩;obtain⟨⟨d6,os6⟩,rfl⟩:=e_ hb6;go_wp2_with fail
   all_goals(first
    | (go_ret;exact⟨by rw [HR9.o];rfl,bThen HO4.o.b bz_⟩)
    | (exfalso;have:=HNM.o;omega))
 ·obtain rfl:k=M.length:=by omega
  have HR0:=h_ (H0.o ⟨HSO.o,HPAR.o,fun m hm=>by obtain⟨i,hi,rfl⟩:=List.getElem_of_mem hm;exact HGM.o i hi hi⟩);go_wp2_with fail
  go_ret
  exact⟨by rw [HR0.o];rfl,HO4.o.b⟩):P:=h
theorem m214_{P:Prop}(h:P:=by
 obtain⟨ab,ao,rfl,habs,hac⟩:=HA2.o.open_ (by have:=HPLL.o;omega);have a0:=hac k _ (cy_ pl k (by have:=HPLL.o;omega));have hkp:k<pl.length:=by have:=HPLL.o;omega
 have hkp2:(k:Int)<(pl.length:Int):=by omega
 have HSK:=h_ (fun(W:World) (hb:Below wr.heap.size wr W)=>HSD.o W S[k] (HT.o.la (bThen HO.o.b hb)) (List.getElem_mem hlt) ((HI.o.sides.each _ (List.getElem_mem hlt)).la (bThen HO.o.b hb)));clear hc hac;exact k214_.o _):P:=h
theorem m220_{P:Prop}(h:P:=by
 go_wp2_with fail
 refine(HU.o _ H3.o.b).mono ?_;rintro e w4 ⟨rfl,hb4⟩;have H4:=h_ (H3.o.la hb4);have HPM:=h_ hb4;clear n0 n1 n2 n3 n4 n5 n6 n7 nz;obtain⟨n0,n1,n2,n3,n4,n5,n6,n7,nz⟩:=p_ H4.o.nd;clear hb4;have hw:=HWR.o;have HAL:=h_ (show Sl (· <w4.heap.size) w4 1 Aa pl.length (pl.map (Value.int .i64))from Sl.la ((Sl.of_own _ HPL.o).mv fun _ hx=>⟨hx.2,rfl⟩) HPM.o);exact k220_.o _):P:=h
section
variable(w:World) (T:OA_) (N Nc:Nat) (zs:List Int) (n:NodeV) (HT:Hid (Tabs w))
include w T N Nc zs n HT
theorem mx_(_HI:Hid (n.In w))(_HZ:Hid (Sl (· <w.heap.size) w 1 T N (zs.map (Value.int .i64))))(_hN:N≤9223372036854775807)(pl:List Int)(ub:Bool)(t1:decide (n.me<0)=false)(t2:decide ((N:Int)≤n.me)=false)(t3:decide (n.ep<1)=false)(t4:decide (1048576≤n.ep)=false)(t5:decide (n.up<0)=false)(t6:decide (1048576<n.up)=false)(_z0:(n.me==0)=false)(_zp:decide (0<n.me)=true)(HWR:Hid (wrap64 ((n.U.length:Int)+(n.M.length:Int))=((n.U.length+n.M.length:Nat):Int)))(H:Hid (¬(pl.length=n.S.length∧ub=true∧n.M.length≤1∧(n.rd=false→n.me≠0∧n.t.toList= []∧n.U.length=0∧n.M.length=0))))(HC:Hid (∀W,Below w.heap.size w W→Calls Tryz.prog 83 #[.slice T N Nc] W fun e w'=>e= .returned (.int .i64 0)∧W=w'))(HX:Hid (∀W,Tabs W→Calls Tryz.prog 84 #[.string n.t] W (R_ W (.int .i64 0))))(HL:Hid (∀W,Below w.heap.size w W→Calls Tryz.prog 85 #[.slice T N Nc,.int .i64 n.me] W (RetInts W pl)))(HU:Hid (∀W,Below w.heap.size w W→Calls Tryz.prog 86 #[n.val] W (R_ W (.bool ub)))):
 Calls Tryz.prog 43 #[.slice T N Nc,n.val] w (R_ w (.int .i64 9)):=by
 exact m39_
theorem my_(_HI:Hid (n.In w))(_HZ:Hid (Sl (· <w.heap.size) w 1 T N (zs.map (Value.int .i64))))(_hN:N≤9223372036854775807)(pl:List Int)(ub:Bool)(t1:decide (n.me<0)=false)(t2:decide ((N:Int)≤n.me)=false)(t3:decide (n.ep<1)=false)(t4:decide (1048576≤n.ep)=false)(t5:decide (n.up<0)=false)(t6:decide (1048576<n.up)=false)(_z0:(n.me==0)=true)(_zp:decide (0<n.me)=false)(_u0:decide (0<n.up)=false)(HWR:Hid (wrap64 ((n.U.length:Int)+(n.M.length:Int))=((n.U.length+n.M.length:Nat):Int)))(H:Hid (¬(pl.length=n.S.length∧ub=true∧n.M.length≤1∧(n.rd=false→n.me≠0∧n.t.toList= []∧n.U.length=0∧n.M.length=0))))(HC:Hid (∀W,Below w.heap.size w W→Calls Tryz.prog 83 #[.slice T N Nc] W fun e w'=>e= .returned (.int .i64 0)∧W=w'))(HX:Hid (∀W,Tabs W→Calls Tryz.prog 84 #[.string n.t] W (R_ W (.int .i64 0))))(HL:Hid (∀W,Below w.heap.size w W→Calls Tryz.prog 85 #[.slice T N Nc,.int .i64 n.me] W (RetInts W pl)))(HU:Hid (∀W,Below w.heap.size w W→Calls Tryz.prog 86 #[n.val] W (R_ W (.bool ub)))):
 Calls Tryz.prog 43 #[.slice T N Nc,n.val] w (R_ w (.int .i64 9)):=by
 have vBE:=h_ trivial;exact m39_
theorem nx_(HI:Hid (n.In w))(_HZ:Hid (Sl (· <w.heap.size) w 1 T N (zs.map (Value.int .i64))))(_hN:N≤9223372036854775807)(pl:List Int)(t1:decide (n.me<0)=false)(t2:decide ((N:Int)≤n.me)=false)(t3:decide (n.ep<1)=false)(t4:decide (1048576≤n.ep)=false)(t5:decide (n.up<0)=false)(t6:decide (1048576<n.up)=false)(_z0:(n.me==0)=true)(_zp:decide (0<n.me)=false)(_u0:decide (0<n.up)=false)(hrd:n.rd=true)(HWR:Hid (wrap64 ((n.U.length:Int)+(n.M.length:Int))=((n.U.length+n.M.length:Nat):Int)))(hpl:pl.length=n.S.length)(hM:n.M.length≤1)(hS:n.S.length≤8)(res:Int)(H9:Hid (¬((∀i (h:i<n.S.length),n.S[i].p=pl.getD i 0∧sideMay n.rd (runesI n.t) n.S[i])∧(0<n.me→ ∀x,n.S.head?=some x→x.j=n.rd)∧ ∀m∈n.M,markOk (runesI n.t) m)→res=9))(H0:Hid (((∀i (h:i<n.S.length),n.S[i].p=pl.getD i 0∧sideMay n.rd (runesI n.t) n.S[i])∧(0<n.me→ ∀x,n.S.head?=some x→x.j=n.rd)∧ ∀m∈n.M,markOk (runesI n.t) m)→res=0))(HC:Hid (∀W,Below w.heap.size w W→Calls Tryz.prog 83 #[.slice T N Nc] W fun e w'=>e= .returned (.int .i64 0)∧W=w'))(HX:Hid (∀W,Tabs W→Calls Tryz.prog 84 #[.string n.t] W (R_ W (.int .i64 0))))(HL:Hid (∀W,Below w.heap.size w W→Calls Tryz.prog 85 #[.slice T N Nc,.int .i64 n.me] W (RetInts W pl)))(HU:Hid (∀W,Below w.heap.size w W→Calls Tryz.prog 86 #[n.val] W (R_ W (.bool true))))(HSD:Hid (∀W x,Tabs W→x∈n.S→x.In W→Calls Tryz.prog 87 #[n.val,x.val] W fun r w'=>(∃b:Bool,r= .returned (.bool b)∧(b=true↔sideMay n.rd (runesI n.t) x))∧Below W.heap.size W w'))(HRC:Hid (∀W,Calls Tryz.prog 88 #[.string n.t] W (R_ W (.int .i64 (runesI n.t))))):
 Calls Tryz.prog 43 #[.slice T N Nc,n.val] w (R_ w (.int .i64 res)):=by
 have vR:=h_ trivial;exact m9_
end
end Go.Proofs.YtacacoklddogmaaGreatDoor
