/- Lemmas. -/
import Derived.Test.YtacacoklddogmaaGreatDoorKJAL
import Derived.Test.YtacacoklddogmaaGreatDoorKJAG
import Derived.BigQuiet
import Derived.Lib.QuietBelow
namespace Go.Proofs.YtacacoklddogmaaGreatDoor
set_option maxHeartbeats 4000000
open Go.ChangeShapes Go.WideShapes Go.ChangeAt Go.RowKit
set_option maxRecDepth 100000
theorem m4_{P:Prop}(h:P:=by
 have k279_:K_ (∀(P:Prop) (h:P:=by
 have q3:decide (12<(n.U.length:Int))=false:=by simp;omega
 have k222_:K_ (∀(P:Prop) (h:P:=by
 have k152_:K_ (∀(P:Prop) (h:P:=by
 have k95_:K_ (∀(P:Prop) (h:P:=by
 have k208_:K_ (∀(P:Prop) (h:P:=by
 clear n0 n1 n2 n3 n4 n5 n6 n7 nz hwu;all_goals(
  have HBL:=h_ (show(U.map OpV.ps).reverse.length=U.length by simp);obtain⟨BB,hBB⟩:=q2_ ((U.map OpV.ps).reverse);rw [←hBB]at HBL;have HBB:=h_ hBB;clear hBB;go_loopw [7,8] (fun av i wr=> ∃k:Nat,k≤U.length∧i= .int .i64 ((U.length:Int) - 1 - k)∧av= .int .i64 (atOf (runesI t) (BB.take k))∧Hid (undoOk (runesI t) (BB.take k))∧Hid (OneAt w ⟨me,ep,up,true,t,sA,sc,S,uA,uc,U,mA,mc,M⟩ wr)∧Hid (Sl (· <wr.heap.size) wr 1 Aa pl.length (pl.map (Value.int .i64)))) (fun _ i _=>(intOf i+1).toNat)
  case atStart=>exact⟨0,Nat.zero_le _,by simp,rfl,trivial,H4,HAL⟩
  case round=>
   obtain⟨k,hk,rfl,rfl,HUO,HO,HA2⟩:=hrel;obtain⟨n0,n1,n2,n3,n4,n5,n6,n7,nz⟩:=p_ HO.o.nd
   (try dsimp only at n0 n1 n2 n3 n4 n5 n6 n7)
   by_cases hlt:k<U.length
   ·exact m90_
   ·obtain rfl:k=U.length:=(by omega);have HUN:=h_ (show undoOk (runesI t) (U.map OpV.ps).reverse by rw [←HBB.o,←List.take_length (l:=BB),HBL.o];exact HUO.o);rw [show((U.length:Int) - 1 - U.length)= -1 by omega];clear HUO;go_wp2_with fail
    clear n0 n1 n2 n3 n4 n5 n6 n7 nz;go_loopw [11] (fun i wr=> ∃k:Nat,k≤S.length∧i= .int .i64 k∧Hid (∀i (h:i<S.length),i<k→S[i].p=pl.getD i 0∧sideMay true (runesI t) S[i])∧Hid (OneAt w ⟨me,ep,up,true,t,sA,sc,S,uA,uc,U,mA,mc,M⟩ wr)∧Hid (Sl (· <wr.heap.size) wr 1 Aa pl.length (pl.map (Value.int .i64)))) (fun i _=>S.length - (intOf i).toNat)
    case atStart=>exact⟨0,Nat.zero_le _,rfl,fun i hi h=>absurd h (by omega),HO,HA2⟩
    case round=>
    have k281_:K_ (∀(P:Prop) (h:P:=by
    have hpe:=HPLL.o;by_cases hlt:k<S.length
    ·have k73_:K_ (∀(P:Prop) (h:P:=by
     have k218_:K_ (∀(P:Prop) (h:P:=by
     by_cases hp:S[k].p=pl.getD k 0
     ·have hpk:=hp;have hne:(S[k].p !=pl.getD k 0)=false:=(by simp [hp]);by_cases hsm:sideMay true (runesI t) S[k]
      ·have HS2:=h_ (show∀W,Below wr.heap.size wr W→Calls Tryz.prog 61 #[NodeV.val ⟨me,ep,up,true,t,some ⟨b,o,none⟩,sc,S,uA,uc,U,mA,mc,M⟩,S[k].val] W (R_ W (.bool true))from fun W hb=>(HSK.o W hb).mono fun r w' ⟨⟨b,e,q⟩,h⟩=>⟨by rw [e];cases b <;> simp_all,h⟩);have HGN:=h_ (show∀i (h:i<S.length),i<k+1→S[i].p=pl.getD i 0∧sideMay true (runesI t) S[i]from fun i h hi=>by
        rcases Nat.lt_or_ge i k with q | q
        · exact HG.o i h q
        · obtain rfl:i=k:=by omega
          exact⟨hp,hsm⟩)
       have k104_:K_ (∀(P:Prop) (h:P:=by
       go_region_held3 (fun w'=>w'.cell? ⟨w.heap.size,0,none⟩=some (.int .i64 me)∧w'.cell? ⟨w.heap.size,1,none⟩=some (.int .i64 ep)∧w'.cell? ⟨w.heap.size,2,none⟩=some (.int .i64 up)∧w'.cell? ⟨w.heap.size,3,none⟩=some (.bool true)∧w'.cell? ⟨w.heap.size,4,none⟩=some (.string t)∧w'.cell? ⟨w.heap.size,5,none⟩=some (.slice (some ⟨b,o,none⟩) S.length sc)∧w'.cell? ⟨w.heap.size,6,none⟩=some (.slice uA U.length uc)∧w'.cell? ⟨w.heap.size,7,none⟩=some (.slice mA M.length mc)∧w'.cell? ⟨b,o+k*10,none⟩=some (.int .i64 p)∧w'.cell? ⟨b,o+k*10+1,none⟩=some (.bool j)∧w'.cell? ⟨b,o+k*10+2,none⟩=some (.int .i64 s)∧w'.cell? ⟨b,o+k*10+3,none⟩=some (.int .i64 h)∧w'.cell? ⟨b,o+k*10+4,none⟩=some (.slice A L.length c)∧w'.cell? ⟨b,o+k*10+5,none⟩=some (.int .i64 kk.e)∧w'.cell? ⟨b,o+k*10+6,none⟩=some (.int .i64 kk.n)∧w'.cell? ⟨b,o+k*10+7,none⟩=some (.slice kk.sA kk.s.length kk.sc)∧w'.cell? ⟨b,o+k*10+8,none⟩=some (.slice kk.qA kk.q.length kk.qc)∧w'.cell? ⟨b,o+k*10+9,none⟩=some (.int .i64 kk.h)∧w'.cell? ⟨ab,ao+k,none⟩=some (.int .i64 p))
        (go_keep)
        ((go_at_call 61;refine(HS2.o _ bz_).mono ?_;rintro r w6 ⟨rfl,hb6⟩;obtain⟨⟨d6,os6⟩,rfl⟩:=e_ hb6))
       all_goals(
        exact m170_)
       ),P):=⟨@q6_⟩
       exact m104_
      ·have HS2:=h_ (show∀W,Below wr.heap.size wr W→Calls Tryz.prog 61 #[NodeV.val ⟨me,ep,up,true,t,some ⟨b,o,none⟩,sc,S,uA,uc,U,mA,mc,M⟩,S[k].val] W (R_ W (.bool false))from fun W hb=>(HSK.o W hb).mono fun r w' ⟨⟨b,e,q⟩,h⟩=>⟨by rw [e];cases b <;> simp_all,h⟩);have HR9:=h_ (H9.o fun q=>hsm (q.2.1 k hlt).2);have k104_:K_ (∀(P:Prop) (h:P:=by
       go_region_held3 (fun w'=>w'.cell? ⟨w.heap.size,0,none⟩=some (.int .i64 me)∧w'.cell? ⟨w.heap.size,1,none⟩=some (.int .i64 ep)∧w'.cell? ⟨w.heap.size,2,none⟩=some (.int .i64 up)∧w'.cell? ⟨w.heap.size,3,none⟩=some (.bool true)∧w'.cell? ⟨w.heap.size,4,none⟩=some (.string t)∧w'.cell? ⟨w.heap.size,5,none⟩=some (.slice (some ⟨b,o,none⟩) S.length sc)∧w'.cell? ⟨w.heap.size,6,none⟩=some (.slice uA U.length uc)∧w'.cell? ⟨w.heap.size,7,none⟩=some (.slice mA M.length mc)∧w'.cell? ⟨b,o+k*10,none⟩=some (.int .i64 p)∧w'.cell? ⟨b,o+k*10+1,none⟩=some (.bool j)∧w'.cell? ⟨b,o+k*10+2,none⟩=some (.int .i64 s)∧w'.cell? ⟨b,o+k*10+3,none⟩=some (.int .i64 h)∧w'.cell? ⟨b,o+k*10+4,none⟩=some (.slice A L.length c)∧w'.cell? ⟨b,o+k*10+5,none⟩=some (.int .i64 kk.e)∧w'.cell? ⟨b,o+k*10+6,none⟩=some (.int .i64 kk.n)∧w'.cell? ⟨b,o+k*10+7,none⟩=some (.slice kk.sA kk.s.length kk.sc)∧w'.cell? ⟨b,o+k*10+8,none⟩=some (.slice kk.qA kk.q.length kk.qc)∧w'.cell? ⟨b,o+k*10+9,none⟩=some (.int .i64 kk.h)∧w'.cell? ⟨ab,ao+k,none⟩=some (.int .i64 p))
        (go_keep)
        ((go_at_call 61;refine(HS2.o _ bz_).mono ?_;rintro r w6 ⟨rfl,hb6⟩;obtain⟨⟨d6,os6⟩,rfl⟩:=e_ hb6))
       all_goals(
        exact m224_)
       ),P):=⟨@q6_⟩
       exact m104_
     ·have hne:(S[k].p !=pl.getD k 0)=true:=(by simpa using hp);have HR9:=h_ (H9.o fun q=>hp (q.2.1 k hlt).1);exact m124_
     ),P):=⟨@q6_⟩
     exact m218_
     ),P):=⟨@q6_⟩
     exact m73_
    ·obtain rfl:k=S.length:=(by omega);have hnl:decide ((S.length:Int)<(pl.length:Int))=false:=(by rw [hpe];simp);have hnl2:decide (S.length<pl.length)=false:=(by rw [hpe];simp);clear hpe;have HSO:=h_ (show∀i (h:i<S.length),S[i].p=pl.getD i 0∧sideMay true (runesI t) S[i]from fun i h=>HG.o i h h);first
     |guard_hyp vH
      have HPAR:=h_ (show 0<me→ ∀x,S.head?=some x→x.j=true from fun h=>absurd h (by simpa using _zp))
     |obtain⟨b,o,rfl,hbs,hc⟩:=bh_ SideV.cells 10 SideV.cells_len (Sl.la HI.o.sides.row HO.o.b) (k:=0) hpp;have c1:wr.cell? ⟨b,o+1,none⟩=some (.bool S[0].j):=(by simpa using hc 1 _ rfl);clear hc;have HHD:=h_ (show S.head?=some S[0]from List.head?_eq_getElem? ▸ List.getElem?_eq_getElem hpp);generalize S[0]=x at*;obtain⟨p,j,s,h,A,c,L,kk⟩:=x;dsimp only at c1;have hpp2:(0:Int)<(S.length:Int):=(by omega);by_cases hj: ¬j=true
      ·have hj2:j=!true:=by cases j <;> simp_all
       subst hj2;have HR9:=h_ (H9.o fun q=>by have:=q.2.2.1 (by simpa using _zp) _ HHD.o;cases this);clear hj;exact m162_
      replace hj:j=true:=Classical.not_not.1 hj
      subst hj;have HPAR:=h_ (show 0<me→ ∀x,S.head?=some x→x.j=true from fun _ x hx=>by rw [HHD.o]at hx;obtain rfl:=Option.some.inj hx;rfl)
     go_wp2_with(refine z_ ?_)
     refine⟨?_⟩;go_region
     all_goals(
      go_wp2_with fail
      clear n0 n1 n2 n3 n4 n5 n6 n7 nz;first
      |guard_hyp vH
       go_loopw [12] (fun i wr=> ∃k:Nat,k≤M.length∧i= .int .i64 k∧Hid (∀i (h:i<M.length),i<k→markOk (runesI t) M[i])∧Hid (OneAt w ⟨me,ep,up,true,t,sA,sc,S,uA,uc,U,mA,mc,M⟩ wr)) (fun i _=>M.length - (intOf i).toNat)
      |go_loopw [12] (fun i wr=> ∃k:Nat,k≤M.length∧i= .int .i64 k∧Hid (∀i (h:i<M.length),i<k→markOk (runesI t) M[i])∧Hid (OneAt w ⟨me,ep,up,true,t,some ⟨b,o,none⟩,sc,S,uA,uc,U,mA,mc,M⟩ wr)) (fun i _=>M.length - (intOf i).toNat)
      case atStart=>exact⟨0,Nat.zero_le _,rfl,fun i hi h=>absurd h (by omega),h_ (HO.o.la bz_)⟩
      case round=>
       exact m68_)
    ),P):=⟨@q6_⟩
    exact m281_)
 ),P):=⟨@q6_⟩
 exact m208_
 ),P):=⟨@q6_⟩
 exact m95_
 ),P):=⟨@q6_⟩
 exact m152_
 ),P):=⟨@q6_⟩
 exact m222_
 ),P):=⟨@q6_⟩
 exact m279_):P:=h
theorem m26_{P:Prop}(h:P:=by
 exact m50_):P:=h
theorem m35_{P:Prop}(h:P:=by
 exact m53_):P:=h
theorem m40_{P:Prop}(h:P:=by
 exact m49_):P:=h
theorem m44_{P:Prop}(h:P:=by
 have vBW:=h_ trivial;exact m53_):P:=h
theorem m53_{P:Prop}(h:P:=by
 have k78_:K_ (∀(P:Prop) (h:P:=by
 have k190_:K_ (∀(P:Prop) (h:P:=by
 refine(m_ n.up 0 1048576 _ Hup.o.1 Hup.o.2).mono ?_;rintro e wi ⟨rfl,rfl⟩;go_wp2_with fail
 refine(HX.o _ (HT.o.la HA.o.b)).mono ?_;rintro e w2 ⟨rfl,hb2⟩;have H2:=h_ (HA.o.la hb2);clear n0 n1 n2 n3 n4 n5 n6 n7 nz;obtain⟨n0,n1,n2,n3,n4,n5,n6,n7,nz⟩:=p_ H2.o.nd;clear hb2;go_wp2_with fail
 first
 |guard_hyp vBW
  go_ret
  exact⟨rfl,H2.o.b⟩
 |refine(HL.o _ H2.o.b).mono ?_;rintro e w3 ⟨Aa,ca,rfl,hpl,hb3⟩;have H3:=h_ (H2.o.la hb3);have HPL:=h_ hpl;clear n0 n1 n2 n3 n4 n5 n6 n7 nz;obtain⟨n0,n1,n2,n3,n4,n5,n6,n7,nz⟩:=p_ H3.o.nd;clear hb3 hpl;go_wp2_with fail
  all_goals(first
   | (go_ret;exact⟨rfl,H3.o.b⟩)
   | (exfalso;exact HX9.o ⟨by omega,by omega,by omega,fun hr=>by first | (exfalso;simp_all;done) | exact⟨by simpa using _z0,by assumption,by first | omega | (exact List.length_eq_zero_iff.2 (by assumption)) | (simp_all;done),by first | omega | (exact List.length_eq_zero_iff.2 (by assumption)) | (simp_all;done) | (trace_state;done)⟩⟩))
 ),P):=⟨@q6_⟩
 exact m190_
 ),P):=⟨@q6_⟩
 exact m78_):P:=h
theorem m68_{P:Prop}(h:P:=by
 obtain⟨k,hk,rfl,HGM,HO4⟩:=hrel;have hM2:=HM1.o;obtain⟨n0,n1,n2,n3,n4,n5,n6,n7,nz⟩:=p_ HO4.o.nd
 (try dsimp only at n0 n1 n2 n3 n4 n5 n6 n7)
 by_cases hlt:k<M.length
 ·obtain⟨mb,mo,rfl,hbs,hc⟩:=bh_ markCells 2 bp_ (Sl.la HI.o.marks HO4.o.b) hlt;have c0:_root_.Go.World.cell? _ ⟨mb,mo+k*2,none⟩=some (.int .i64 M[k].1):=hc 0 _ rfl;have c1:_root_.Go.World.cell? _ ⟨mb,mo+k*2+1,none⟩=some (.int .i64 M[k].2):=hc 1 _ rfl;have hkm3:(k:Int)<(M.length:Int):=by omega
  clear hc;by_cases hm:markOk (runesI t) M[k]
  ·have HS2:=h_ (show∀W,Calls Tryz.prog 62 #[.string t,markV M[k]] W (R_ W (.bool true))from fun W=>(HMK.o W M[k]).mono fun r w' ⟨⟨b,e,q⟩,h⟩=>⟨by rw [e];cases b <;> simp_all,h⟩);have HGN:=h_ (show∀i (h:i<M.length),i<k+1→markOk (runesI t) M[i]from fun i h hi=>by
    rcases Nat.lt_or_ge i k with q | q
    · exact HGM.o i h q
    · obtain rfl:i=k:=by omega
      exact hm)
   clear hm;generalize M[k]=m at*;obtain⟨ma,mh⟩:=m;dsimp only at c0 c1 HS2;go_wp2_with(refine z_ ?_)
   refine⟨?_⟩;go_region_held3 (fun w'=>w'.cell? ⟨w.heap.size,4,none⟩=some (.string t)∧w'.cell? ⟨w.heap.size,7,none⟩=some (.slice (some ⟨mb,mo,none⟩) M.length mc)∧w'.cell? ⟨mb,mo+k*2,none⟩=some (.int .i64 ma)∧w'.cell? ⟨mb,mo+k*2+1,none⟩=some (.int .i64 mh))
    (go_keep)
    ((go_at_call 62;refine(HS2.o _).mono ?_;rintro r w6 ⟨rfl,hb6⟩;obtain⟨⟨d6,os6⟩,rfl⟩:=e_ hb6))
   all_goals(
    go_wp2_with fail
    go_roundw
    case rel=>exact⟨k+1,by omega,by go_num,HGN,h_ (HO4.o.la bz_)⟩
    case measure=>simp [intOf];omega)
  ·have HS2:=h_ (show∀W,Calls Tryz.prog 62 #[.string t,markV M[k]] W (R_ W (.bool false))from fun W=>(HMK.o W M[k]).mono fun r w' ⟨⟨b,e,q⟩,h⟩=>⟨by rw [e];cases b <;> simp_all,h⟩);have HR9:=h_ (H9.o fun q=>hm (q.2.2.2 _ (List.getElem_mem hlt)));clear hm;generalize M[k]=m at*;obtain⟨ma,mh⟩:=m;dsimp only at c0 c1 HS2;go_wp2_with(refine z_ ?_)
   refine⟨?_⟩;go_region_held3 (fun w'=>w'.cell? ⟨w.heap.size,4,none⟩=some (.string t)∧w'.cell? ⟨w.heap.size,7,none⟩=some (.slice (some ⟨mb,mo,none⟩) M.length mc)∧w'.cell? ⟨mb,mo+k*2,none⟩=some (.int .i64 ma)∧w'.cell? ⟨mb,mo+k*2+1,none⟩=some (.int .i64 mh))
    (go_keep)
    ((go_at_call 62;refine(HS2.o _).mono ?_;rintro r w6 ⟨rfl,hb6⟩;obtain⟨⟨d6,os6⟩,rfl⟩:=e_ hb6))
   all_goals(
    go_wp2_with fail
    go_ret
    exact⟨by rw [HR9.o];rfl,bThen HO4.o.b bz_⟩)
 ·obtain rfl:k=M.length:=by omega
  have HR0:=h_ (H0.o ⟨HUN.o,HSO.o,HPAR.o,fun m hm=>by obtain⟨i,hi,rfl⟩:=List.getElem_of_mem hm;exact HGM.o i hi hi⟩);go_wp2_with fail
  go_ret
  exact⟨by rw [HR0.o];rfl,HO4.o.b⟩):P:=h
theorem m78_{P:Prop}(h:P:=by
 have k112_:K_ (∀(P:Prop) (h:P:=by
 go_enter Tryz.func22,Tryz.ntmps22
 go_wp2_with fail
 rw [HW.o];refine(HC.o _ HA.o.b).mono ?_;rintro e w1 ⟨rfl,rfl⟩;obtain⟨n0,n1,n2,n3,n4,n5,n6,n7,nz⟩:=p_ HA.o.nd;exact k78_.o _
 ),P):=⟨@q6_⟩
 exact m112_):P:=h
theorem m90_{P:Prop}(h:P:=by
 obtain⟨m,hm⟩: ∃m:Nat,U.length - 1 - k=m:=⟨_,rfl⟩
 have hmi:(U.length:Int) - 1 - k=m:=by omega
 have hml:m<U.length:=by omega
 have hml2:(m:Int)<(U.length:Int):=by omega
 rw [hmi];obtain⟨ub,uo,hua,hbs,c0,hop⟩:=(HI.o.undo.la HO.o.b).at_ (k:=m) hml
 (try dsimp only at hua c0 hop)
 rw [hua]at n6;have HUA:=h_ hua;have HTK:=h_ (show BB.take (k+1)=BB.take k++ [U[m].ps] by rw [HBB.o,qq_ hlt];simp only [hm]);have HKN:=h_ hm;have HKI:=h_ hmi;have HQM:=h_ (List.getElem_mem hml);clear hm hmi hua;generalize U[m]=q at*;obtain⟨qA,qc,qp⟩:=q
 (try dsimp only at c0 hop)
 have HLN:=h_ (fun W hs=>HLO.o W (⟨qA,qc,qp⟩:OpV) HQM.o hs);have HCK:=h_ (fun W hT hs=>HOF.o W (⟨qA,qc,qp⟩:OpV) hT HQM.o hs);have HSN:=h_ (gq_ (runesI t) (BB.take k) qp);have HAS:=h_ (hx_ (runesI t) (BB.take k) qp);have HOP:=h_ hop
 (try dsimp only at HTK HLN HCK)
 generalize atOf (runesI t) (BB.take k)=ag at*;generalize lens qp=ln at*;obtain⟨l1,l2⟩:=ln
 (try dsimp only at HLN HSN HAS)
 clear hop;go_wp2_with fail
 refine(HLN.o wr HOP.o).mono ?_;rintro e w5 ⟨rfl,hb5⟩;have HO5:=h_ (HO.o.la hb5);have HOP5:=h_ (Sl.la HOP.o hb5);have HA5:=h_ (Sl.la HA2.o hb5);have d0:=(hb5.cell (p:=⟨ub,uo+m,none⟩) hbs).trans c0;have hbs5:ub<w5.heap.size:=Nat.lt_of_lt_of_le hbs hb5.size;clear n0 n1 n2 n3 n4 n5 n6 n7 nz hb5 c0;obtain⟨n0,n1,n2,n3,n4,n5,n6,n7,nz⟩:=p_ HO5.o.nd
 (try dsimp only at n0 n1 n2 n3 n4 n5 n6 n7)
 rw [HUA.o]at n6;go_wp2_with fail
 refine(HCK.o w5 (HT.o.la HO5.o.b) HOP5.o).mono ?_;rintro e w6 ⟨rfl,hb6⟩;have HO6:=h_ (HO5.o.la hb6);have HA6:=h_ (Sl.la HA5.o hb6);clear n0 n1 n2 n3 n4 n5 n6 n7 nz hb6 d0;by_cases hf:opFault qp=0
 ·rw [hf];by_cases ha:l1=ag
  ·have HNW:=h_ (show undoOk (runesI t) (BB.take (k+1)) by rw [HTK.o];exact HSN.o.2 ⟨HUO.o,hf,ha⟩);have ha2:(l1 !=ag)=false:=(by simpa using ha);clear ha hf;go_wp2_with fail
   go_roundw
   case rel=>exact⟨k+1,by omega,by have:=HKI.o;go_num,by rw [HTK.o,HAS.o],HNW,HO6,HA6⟩
   case measure=>simp [intOf]
  ·have HR9:=h_ (H9.o fun g=>ha (HSN.o.1 (by
    have:=ed_ (a:=BB.take (k+1)) (b:=BB.drop (k+1)) (by rw [List.take_append_drop,HBB.o];exact g.1);rwa [HTK.o]at this)).2.2)
   have ha2:(l1 !=ag)=true:=(by simpa using ha);clear ha hf;go_wp2_with fail
   go_ret
   exact⟨by rw [HR9.o];rfl,HO6.o.b⟩
 ·have HR9:=h_ (H9.o fun g=>hf (HSN.o.1 (by
   have:=ed_ (a:=BB.take (k+1)) (b:=BB.drop (k+1)) (by rw [List.take_append_drop,HBB.o];exact g.1);rwa [HTK.o]at this)).2.1)
  have hf2:(opFault qp !=0)=true:=by simpa using hf
  generalize opFault qp=er at*;clear hf;go_wp2_with fail
  go_ret
  exact⟨by rw [HR9.o];rfl,HO6.o.b⟩):P:=h
theorem m152_{P:Prop}(h:P:=by
 dsimp only at HA;rw [←hWA]at HA;have HW:=h_ hWA.symm;clear hWA;go_enter Tryz.func22,Tryz.ntmps22
 go_wp2_with fail
 rw [HW.o];refine(HC.o _ HA.o.b).mono ?_;rintro e w1 ⟨rfl,rfl⟩;obtain⟨n0,n1,n2,n3,n4,n5,n6,n7,nz⟩:=p_ HA.o.nd;have hw1:wrap64 ((N:Int) - 1)=(N:Int) - 1:=dc_ hN0 hN;go_wp2_with fail
 refine(m_ me 0 ((N:Int) - 1) _ Hme.o.1 Hme.o.2).mono ?_;rintro e wi ⟨rfl,rfl⟩;go_wp2_with fail
 refine(m_ ep 1 1048575 _ Hep.o.1 Hep.o.2).mono ?_;rintro e wi ⟨rfl,rfl⟩;go_wp2_with fail
 refine(m_ up 0 1048576 _ Hup.o.1 Hup.o.2).mono ?_;rintro e wi ⟨rfl,rfl⟩;exact k152_.o _):P:=h
theorem m190_{P:Prop}(h:P:=by
 have hw1:wrap64 ((N:Int) - 1)=(N:Int) - 1:=dc_ hN0 hN;go_wp2_with fail
 refine(m_ n.me 0 ((N:Int) - 1) _ Hme.o.1 Hme.o.2).mono ?_;rintro e wi ⟨rfl,rfl⟩;go_wp2_with fail
 refine(m_ n.ep 1 1048575 _ Hep.o.1 Hep.o.2).mono ?_;rintro e wi ⟨rfl,rfl⟩;go_wp2_with fail
 exact k190_.o _):P:=h
theorem m208_{P:Prop}(h:P:=by
 go_wp2_with fail
 have HWU:=h_ (show wrap64 ((U.length:Int) - 1)=(U.length:Int) - 1 from ws_ hU);refine(HRC.o _).mono ?_;rintro e w4 ⟨rfl,hb4⟩;have H4:=h_ (H3.o.la hb4);have HAL:=h_ (show Sl (· <w4.heap.size) w4 1 Aa pl.length (pl.map (Value.int .i64))from Sl.la ((Sl.of_own _ HPL.o).mv fun _ hx=>⟨hx.2,rfl⟩) hb4);clear n0 n1 n2 n3 n4 n5 n6 n7 nz;obtain⟨n0,n1,n2,n3,n4,n5,n6,n7,nz⟩:=p_ H4.o.nd;clear hb4 q1 q2 q3 hw1
 (try clear _ht _q4 _q5)
 have hwu:=HWU.o;go_wp2_with fail
 exact k208_.o _):P:=h
theorem m218_{P:Prop}(h:P:=by
 obtain⟨ab,ao,rfl,habs,hac⟩:=HA2.o.open_ (by omega);have a0:=hac k _ (cy_ pl k (by omega));have hkp:k<pl.length:=by omega
 have hkp2:(k:Int)<(pl.length:Int):=by omega
 have hkp3:(k:Int)<(S.length:Int):=by omega
 clear hpe;have HSK:=h_ (fun(W:World) (hb:Below wr.heap.size wr W)=>HSD.o W S[k] (HT.o.la (bThen HO.o.b hb)) (List.getElem_mem hlt) ((HI.o.sides.each _ (List.getElem_mem hlt)).la (bThen HO.o.b hb)));clear hc hac;exact k218_.o _):P:=h
theorem m242_{P:Prop}(h:P:=by
 rintro e wi ⟨rfl,rfl⟩;go_wp2_with fail
 go_ret
 exact⟨rfl,HA.o.b⟩):P:=h
theorem iv_(s:ByteArray)(w:World)(hs:s.size≤1048576):
 Calls Tryz.prog 58 #[.string s] w (R_ w (.int .i64 (Lib.runeCount s))):=by
 have hcv:=fun wx=>convRunes (w:=wx) hs;go_enter Tryz.func58,Tryz.ntmps58
 exact m102_
section
variable(w:World) (n:NodeV) (x:SideV) (HT:Hid (Tabs w)) (HX:Hid (x.In w))
include w n x HT HX
theorem bdj_(HE:Hid (∀W,Tabs W→OpsIn W x.A x.L→Calls Tryz.prog 104 #[edgeV x.s x.h x.A x.L.length x.c] W (R_ W (.bool false)))):
 Calls Tryz.prog 61 #[n.val,x.val] w fun r w'=>(∃b:Bool,r= .returned (.bool b)∧(b=true↔False))∧Below w.heap.size w w':=by
 have k87_:K_ (∀(P:Prop) (h:P:=by
 go_enter Tryz.func61,Tryz.ntmps61
 have k183_:K_ (∀(P:Prop) (h:P:=by
 go_ret
 exact⟨⟨_,rfl,by simp⟩,H1.o.b⟩
 ),P):=⟨@q6_⟩
 exact m183_
 ),P):=⟨@q6_⟩
 exact m87_
theorem bdk_(HE:Hid (∀W,Tabs W→OpsIn W x.A x.L→Calls Tryz.prog 104 #[edgeV x.s x.h x.A x.L.length x.c] W (R_ W (.bool true))))(HL:Hid (∀W,Tabs W→x.k.In W→Calls Tryz.prog 105 #[x.k.val] W (R_ W (.bool false)))):
 Calls Tryz.prog 61 #[n.val,x.val] w fun r w'=>(∃b:Bool,r= .returned (.bool b)∧(b=true↔False))∧Below w.heap.size w w':=by
 have vBG:=h_ trivial;exact m40_
theorem bdl_(hj:x.j=false)(HE:Hid (∀W,Tabs W→OpsIn W x.A x.L→Calls Tryz.prog 104 #[edgeV x.s x.h x.A x.L.length x.c] W (R_ W (.bool true))))(HL:Hid (∀W,Tabs W→x.k.In W→Calls Tryz.prog 105 #[x.k.val] W (R_ W (.bool true)))):
 Calls Tryz.prog 61 #[n.val,x.val] w fun r w'=>(∃b:Bool,r= .returned (.bool b)∧(b=true↔x.s=0∧x.h=0))∧Below w.heap.size w w':=by
 exact m40_
theorem bdm_(hj:x.j=true)(_hL:decide (0<x.L.length)=false)(HE:Hid (∀W,Tabs W→OpsIn W x.A x.L→Calls Tryz.prog 104 #[edgeV x.s x.h x.A x.L.length x.c] W (R_ W (.bool true))))(HL:Hid (∀W,Tabs W→x.k.In W→Calls Tryz.prog 105 #[x.k.val] W (R_ W (.bool true)))):
 Calls Tryz.prog 61 #[n.val,x.val] w fun r w'=>(∃b:Bool,r= .returned (.bool b)∧(b=true↔n.rd=true∧x.k.e≠0))∧Below w.heap.size w w':=by
 have vBF:=h_ trivial;exact m40_
section
variable(hj:x.j=true) (q:OpV) (HQ:Hid (x.L.getLast?=some q)) (hp:0<x.L.length) (hml:x.L.length≤1048576)
include hj q HQ hp hml
theorem bdn_(ht:((lens q.ps).2 !=(Lib.runeCount n.t:Int))=true)(HE:Hid (∀W,Tabs W→OpsIn W x.A x.L→Calls Tryz.prog 104 #[edgeV x.s x.h x.A x.L.length x.c] W (R_ W (.bool true))))(HL:Hid (∀W,Tabs W→x.k.In W→Calls Tryz.prog 105 #[x.k.val] W (R_ W (.bool true))))(HLN:Hid (∀W,OpIn (· <W.heap.size) W q.A q.ps→Calls Tryz.prog 59 #[.slice q.A q.ps.length q.c] W (R_ W (.tuple #[.int .i64 (lens q.ps).1,.int .i64 (lens q.ps).2]))))(HRC:Hid (∀W,Calls Tryz.prog 58 #[.string n.t] W (R_ W (.int .i64 (Lib.runeCount n.t))))):
 Calls Tryz.prog 61 #[n.val,x.val] w fun r w'=>(∃b:Bool,r= .returned (.bool b)∧(b=true↔False))∧Below w.heap.size w w':=by
 exact m26_
theorem bdo_(ht:((lens q.ps).2 !=(Lib.runeCount n.t:Int))=false)(HE:Hid (∀W,Tabs W→OpsIn W x.A x.L→Calls Tryz.prog 104 #[edgeV x.s x.h x.A x.L.length x.c] W (R_ W (.bool true))))(HL:Hid (∀W,Tabs W→x.k.In W→Calls Tryz.prog 105 #[x.k.val] W (R_ W (.bool true))))(HLN:Hid (∀W,OpIn (· <W.heap.size) W q.A q.ps→Calls Tryz.prog 59 #[.slice q.A q.ps.length q.c] W (R_ W (.tuple #[.int .i64 (lens q.ps).1,.int .i64 (lens q.ps).2]))))(HRC:Hid (∀W,Calls Tryz.prog 58 #[.string n.t] W (R_ W (.int .i64 (Lib.runeCount n.t))))):
 Calls Tryz.prog 61 #[n.val,x.val] w fun r w'=>(∃b:Bool,r= .returned (.bool b)∧(b=true↔n.rd=true∧x.k.e≠0))∧Below w.heap.size w w':=by
 have vAM:=h_ trivial;exact m26_
end
end
theorem bdp_(w:World)(n:NodeV)(x:SideV)(hT:Tabs w)(hx:x.In w)(hm:x.Small)(ht:n.t.size≤1048576):
 Calls Tryz.prog 61 #[n.val,x.val] w fun r w'=>(∃b:Bool,r= .returned (.bool b)∧(b=true↔sideMay n.rd (runesI n.t) x))∧Below w.heap.size w w':=by
 have HE:=fun W hT hs=>jx_ W x.s x.h x.A x.c x.L hT hs hm.ops;have HL:=fun W hT hs=>ch_ W x.k hT hs hm.link;unfold sideMay;by_cases h1:edgeMay x.s x.h x.L
 ·rw [show edgeB x.s x.h x.L=true from decide_eq_true h1]at HE;by_cases h2:linkMay x.k
  ·rw [decide_eq_true h2]at HL;by_cases hj:x.j=false
   ·rw [if_pos hj];refine(bdl_ w n x hT hx hj HE HL).mono fun _ _ ⟨⟨b,e,k⟩,hb⟩=>⟨⟨b,e,k.trans ⟨fun q=>⟨⟨h1,h2⟩,q⟩,fun q=>q.2⟩⟩,hb⟩
   ·rw [if_neg hj];have hj':x.j=true:=(by simpa using hj);cases hl:x.L.getLast? with
    | none=>
     have hL:x.L= []:=(by simpa using hl);refine(bdm_ w n x hT hx hj' (by rw [hL];rfl) HE HL).mono fun _ _ ⟨⟨b,e,k⟩,hb⟩=>⟨⟨b,e,k.trans ⟨fun q=>⟨⟨h1,h2⟩,by rw [hL];exact kg_,q⟩,fun q=>q.2.2⟩⟩,hb⟩
    | some q=>
     have hq:q∈x.L:=List.mem_of_getLast? hl;have HLN:=fun W hs=>bq_ W q.A q.c q.ps hs (hm.ops q hq).len (hm.ops q hq).text;have hf:=jt_ (r:=runesI n.t) hl;by_cases hr:(lens q.ps).2=runesI n.t
     · refine(bdo_ w n x hT hx hj' q hl (cn_ hl) hm.len (by unfold runesI at hr;simpa using hr) HE HL HLN (fun W=>iv_ n.t W ht)).mono fun _ _ ⟨⟨b,e,k⟩,hb⟩=>⟨⟨b,e,k.trans ⟨fun q=>⟨⟨h1,h2⟩,hf.2 hr,q⟩,fun q=>q.2.2⟩⟩,hb⟩
     · refine(bdn_ w n x hT hx hj' q hl (cn_ hl) hm.len (by unfold runesI at hr;simpa using hr) HE HL HLN (fun W=>iv_ n.t W ht)).mono fun _ _ ⟨⟨b,e,k⟩,hb⟩=>⟨⟨b,e,k.trans ⟨fun q=>q.elim,fun q=>hr (hf.1 q.2.1)⟩⟩,hb⟩
  ·rw [decide_eq_false h2]at HL;exact(bdk_ w n x hT hx HE HL).mono fun _ _ ⟨⟨b,e,k⟩,hb⟩=>⟨⟨b,e,k.trans ⟨fun q=>q.elim,fun q=>h2 q.1.2⟩⟩,hb⟩
 ·rw [show edgeB x.s x.h x.L=false from decide_eq_false h1]at HE;exact(bdj_ w n x hT hx HE).mono fun _ _ ⟨⟨b,e,k⟩,hb⟩=>⟨⟨b,e,k.trans ⟨fun q=>q.elim,fun q=>h1 q.1.1⟩⟩,hb⟩
theorem wc_{P:Program}{f:FuncId}{args:Array Value}{w:World}{d:Nat}{os:Array Obj}{v:Value}(h:Calls P f args (Go.Sort.grow (redrawn w d) os) fun e w'=>e= .returned v∧Go.Sort.grow (redrawn w d) os=w'):Calls P f args (Go.Sort.grow (redrawn w d) os) fun e w''=>e= .returned v∧ ∃p:Regrown,w''=Go.Sort.grow (redrawn w p.d) p.os:=
 h.mono fun _ _ ⟨he,hw⟩=>⟨he,⟨d,os⟩,hw.symm⟩
abbrev markV (m:Int × Int):Value:= .agg #[.int .i64 m.1,.int .i64 m.2]
section
variable(w:World) (s:ByteArray) (a h:Int) (hs:s.size≤1048576)
include w s a h hs
theorem bcn_(H:Hid (a<0∨runesI s<a)):Calls Tryz.prog 62 #[.string s,markV (a,h)] w (R_ w (.bool false)):=by
 have HR:=h_ (fun W=>iv_ s W hs);unfold runesI at H;generalize(Lib.runeCount s:Int)=rc at*;have HR2: ∀(W:World) d os,Calls Tryz.prog 58 #[.string s] (Go.Sort.grow (redrawn W d) os) fun e w''=>e= .returned (.int .i64 rc)∧ ∃p:Regrown,w''=Go.Sort.grow (redrawn W p.d) p.os:=fun W d os=>Calls.regrown_of (HR.o _);have HI2: ∀(W:World) d os,Calls Tryz.prog 55 #[.int .i64 a,.int .i64 0,.int .i64 rc] (Go.Sort.grow (redrawn W d) os) fun e w''=>e= .returned (.bool false)∧ ∃p:Regrown,w''=Go.Sort.grow (redrawn W p.d) p.os:=fun W d os=>wc_ (In_no a 0 rc _ H.o);have HR3:=h_ HR2;have HI3:=h_ HI2;clear HR2 HI2;obtain⟨W1,hW1⟩:=q2_ (w.alloc (.cells #[.int .i64 a,.int .i64 h] 53));have k0:=cell_regrown (show W1.cell? ⟨w.heap.size,0,none⟩=some (.int .i64 a) by rw [hW1];simp);have HW:=h_ hW1.symm;have HB:=h_ (show Below w.heap.size w W1 by rw [hW1];exact bA_);clear hW1;go_enter Tryz.func62,Tryz.ntmps62
 go_wp2_with(refine z_ ?_)
 refine⟨?_⟩;rw [HW.o];refine wp_region_quiet_below (by kernel_rfl) (by kernel_rfl) ?_;repeat(quiet_step (first | (go_at_call 58;exact HR3.o _ _ _) | (go_at_call 55;exact HI3.o _ _ _) | exact HR3.o _ _ _ | exact HI3.o _ _ _))
 refine wpQuiet_nil ?_;intro _ hw';obtain⟨⟨dq,osq⟩,hw''⟩:=hw';subst hw'';go_wp2_with fail
 go_ret
 exact⟨rfl,bThen HB.o (below_regrown _ dq osq)⟩
theorem ry_(h1:0≤a)(H1:Hid (a≤runesI s))(b:Bool)(HB:Hid ((b=true∧0≤h∧h≤runesI s)∨(b=false∧(h<0∨runesI s<h)))):Calls Tryz.prog 62 #[.string s,markV (a,h)] w (R_ w (.bool b)):=by
 have HR:=h_ (fun W=>iv_ s W hs);unfold runesI at H1 HB;generalize(Lib.runeCount s:Int)=rc at*;go_enter Tryz.func62,Tryz.ntmps62
 have HI:Hid (∀W,Calls Tryz.prog 55 #[.int .i64 h,.int .i64 0,.int .i64 rc] W fun e w'=>e= .returned (.bool b)∧W=w'):=h_ fun W=>by
  rcases HB.o with⟨rfl,q1,q2⟩ | ⟨rfl,q⟩
  ·exact m_ h 0 rc W q1 q2
  ·exact In_no h 0 rc W q
 go_wp2_with(refine z_ ?_)
 refine⟨?_⟩;go_region_law (first
  | (go_simp;go_at_call 58;refine(HR.o _).mono ?_;rintro e w1 ⟨rfl,hb1⟩;obtain⟨⟨d1,os1⟩,rfl⟩:=e_ hb1)
  | (go_simp;go_at_call 55;(with_reducible refine(m_ a 0 rc _ h1 H1.o).mono ?_);rintro e w2 ⟨rfl,rfl⟩)
  | (go_simp;go_at_call 55;refine(HI.o _).mono ?_;rintro e w2 ⟨rfl,rfl⟩))
 all_goals(
  go_wp2_with fail
  go_ret
  exact⟨by simp,bz_⟩)
end
theorem bco_(w:World)(s:ByteArray)(m:Int × Int)(hs:s.size≤1048576):Calls Tryz.prog 62 #[.string s,markV m] w fun r w'=>(∃b:Bool,r= .returned (.bool b)∧(b=true↔markOk (runesI s) m))∧Below w.heap.size w w':=by
 obtain⟨a,h⟩:=m;unfold markOk;by_cases h1:0≤a∧a≤runesI s
 ·by_cases h2:0≤h∧h≤runesI s
  ·exact(ry_ w s a h hs h1.1 h1.2 true (.inl ⟨rfl,h2⟩)).mono fun _ _ k=>⟨⟨true,k.1,by simp [h1,h2]⟩,k.2⟩
  ·exact(ry_ w s a h hs h1.1 h1.2 false (.inr ⟨rfl,by omega⟩)).mono fun _ _ k=>⟨⟨false,k.1,by simp;intro _ _ q;omega⟩,k.2⟩
 ·exact(bcn_ w s a h hs (by show a<0∨runesI s<a;omega)).mono fun _ _ k=>⟨⟨false,k.1,by simp;intro q;omega⟩,k.2⟩
theorem dc_{N:Nat}(h0:0<N)(h:N≤7):wrap64 ((N:Int) - 1)=(N:Int) - 1:=by
 unfold wrap64;omega
section
variable(w:World) (T:OA_) (N Nc:Nat) (n:NodeV)
include w T N Nc n
theorem uk_(_HT:Hid (Tabs w))(_HI:Hid (n.In w))(hN0:0<N)(hN:N≤7)(Hme:Hid (n.me<0∨(N:Int) - 1<n.me))(HC:Hid (∀W,Below w.heap.size w W→Calls Tryz.prog 54 #[.slice T N Nc] W fun e w'=>e= .returned (.int .i64 0)∧W=w')):
 Calls Tryz.prog 22 #[.slice T N Nc,n.val] w (R_ w (.int .i64 9)):=by
 have k78_:K_ (∀(P:Prop) (h:P:=by
 have hw1:wrap64 ((N:Int) - 1)=(N:Int) - 1:=dc_ hN0 hN;go_wp2_with fail
 refine(In_no n.me 0 ((N:Int) - 1) _ Hme.o).mono ?_;exact m242_
 ),P):=⟨@q6_⟩
 exact m78_
theorem uj_(_HT:Hid (Tabs w))(_HI:Hid (n.In w))(hN0:0<N)(hN:N≤7)(Hme:Hid (0≤n.me∧n.me≤(N:Int) - 1))(Hep:Hid (n.ep<1∨1048575<n.ep))(HC:Hid (∀W,Below w.heap.size w W→Calls Tryz.prog 54 #[.slice T N Nc] W fun e w'=>e= .returned (.int .i64 0)∧W=w')):
 Calls Tryz.prog 22 #[.slice T N Nc,n.val] w (R_ w (.int .i64 9)):=by
 have k78_:K_ (∀(P:Prop) (h:P:=by
 have hw1:wrap64 ((N:Int) - 1)=(N:Int) - 1:=dc_ hN0 hN;go_wp2_with fail
 refine(m_ n.me 0 ((N:Int) - 1) _ Hme.o.1 Hme.o.2).mono ?_;rintro e wi ⟨rfl,rfl⟩;go_wp2_with fail
 refine(In_no n.ep 1 1048575 _ Hep.o).mono ?_;exact m242_
 ),P):=⟨@q6_⟩
 exact m78_
theorem ul_(_HT:Hid (Tabs w))(_HI:Hid (n.In w))(hN0:0<N)(hN:N≤7)(Hme:Hid (0≤n.me∧n.me≤(N:Int) - 1))(Hep:Hid (1≤n.ep∧n.ep≤1048575))(Hup:Hid (n.up<0∨1048576<n.up))(HC:Hid (∀W,Below w.heap.size w W→Calls Tryz.prog 54 #[.slice T N Nc] W fun e w'=>e= .returned (.int .i64 0)∧W=w')):
 Calls Tryz.prog 22 #[.slice T N Nc,n.val] w (R_ w (.int .i64 9)):=by
 have k78_:K_ (∀(P:Prop) (h:P:=by
 have k190_:K_ (∀(P:Prop) (h:P:=by
 refine(In_no n.up 0 1048576 _ Hup.o).mono ?_;exact m242_
 ),P):=⟨@q6_⟩
 exact m190_
 ),P):=⟨@q6_⟩
 exact m78_
theorem um_(_HT:Hid (Tabs w))(_HI:Hid (n.In w))(hN0:0<N)(hN:N≤7)(Hme:Hid (0≤n.me∧n.me≤(N:Int) - 1))(Hep:Hid (1≤n.ep∧n.ep≤1048575))(Hup:Hid (0≤n.up∧n.up≤1048576))(_z0:(n.me==0)=true)(_u0:(n.up !=0)=true)(HC:Hid (∀W,Below w.heap.size w W→Calls Tryz.prog 54 #[.slice T N Nc] W fun e w'=>e= .returned (.int .i64 0)∧W=w')):
 Calls Tryz.prog 22 #[.slice T N Nc,n.val] w (R_ w (.int .i64 9)):=by
 have k78_:K_ (∀(P:Prop) (h:P:=by
 have k190_:K_ (∀(P:Prop) (h:P:=by
 refine(m_ n.up 0 1048576 _ Hup.o.1 Hup.o.2).mono ?_;exact m242_
 ),P):=⟨@q6_⟩
 exact m190_
 ),P):=⟨@q6_⟩
 exact m78_
section
variable(HT:Hid (Tabs w))
include HT
theorem qg_(_HI:Hid (n.In w))(hN0:0<N)(hN:N≤7)(Hme:Hid (0≤n.me∧n.me≤(N:Int) - 1))(Hep:Hid (1≤n.ep∧n.ep≤1048575))(Hup:Hid (0≤n.up∧n.up≤1048576))(_z0:(n.me==0)=false)(_zp:decide (0<n.me)=true)(er:Int)(_he:(er !=0)=true)(HC:Hid (∀W,Below w.heap.size w W→Calls Tryz.prog 54 #[.slice T N Nc] W fun e w'=>e= .returned (.int .i64 0)∧W=w'))(HX:Hid (∀W,Tabs W→Calls Tryz.prog 56 #[.string n.t] W (R_ W (.int .i64 er)))):
 Calls Tryz.prog 22 #[.slice T N Nc,n.val] w (R_ w (.int .i64 9)):=by
 exact m44_
theorem qh_(_HI:Hid (n.In w))(hN0:0<N)(hN:N≤7)(Hme:Hid (0≤n.me∧n.me≤(N:Int) - 1))(Hep:Hid (1≤n.ep∧n.ep≤1048575))(Hup:Hid (0≤n.up∧n.up≤1048576))(_z0:(n.me==0)=true)(_zp:decide (0<n.me)=false)(_u0:(n.up !=0)=false)(er:Int)(_he:(er !=0)=true)(HC:Hid (∀W,Below w.heap.size w W→Calls Tryz.prog 54 #[.slice T N Nc] W fun e w'=>e= .returned (.int .i64 0)∧W=w'))(HX:Hid (∀W,Tabs W→Calls Tryz.prog 56 #[.string n.t] W (R_ W (.int .i64 er)))):
 Calls Tryz.prog 22 #[.slice T N Nc,n.val] w (R_ w (.int .i64 9)):=by
 have vBL:=h_ trivial;exact m44_
theorem mz_(_HI:Hid (n.In w))(hN0:0<N)(hN:N≤7)(pl:List Int)(Hme:Hid (0≤n.me∧n.me≤(N:Int) - 1))(Hep:Hid (1≤n.ep∧n.ep≤1048575))(Hup:Hid (0≤n.up∧n.up≤1048576))(_z0:(n.me==0)=false)(_zp:decide (0<n.me)=true)(HX9:Hid (¬(pl.length=n.S.length∧n.U.length≤12∧n.M.length≤1∧(n.rd=false→n.me≠0∧n.t.toList= []∧n.U.length=0∧n.M.length=0))))(HC:Hid (∀W,Below w.heap.size w W→Calls Tryz.prog 54 #[.slice T N Nc] W fun e w'=>e= .returned (.int .i64 0)∧W=w'))(HX:Hid (∀W,Tabs W→Calls Tryz.prog 56 #[.string n.t] W (R_ W (.int .i64 0))))(HL:Hid (∀W,Below w.heap.size w W→Calls Tryz.prog 57 #[.slice T N Nc,.int .i64 n.me] W (RetInts W pl))):
 Calls Tryz.prog 22 #[.slice T N Nc,n.val] w (R_ w (.int .i64 9)):=by
 exact m35_
theorem na_(_HI:Hid (n.In w))(hN0:0<N)(hN:N≤7)(pl:List Int)(Hme:Hid (0≤n.me∧n.me≤(N:Int) - 1))(Hep:Hid (1≤n.ep∧n.ep≤1048575))(Hup:Hid (0≤n.up∧n.up≤1048576))(_z0:(n.me==0)=true)(_zp:decide (0<n.me)=false)(_u0:(n.up !=0)=false)(HX9:Hid (¬(pl.length=n.S.length∧n.U.length≤12∧n.M.length≤1∧(n.rd=false→n.me≠0∧n.t.toList= []∧n.U.length=0∧n.M.length=0))))(HC:Hid (∀W,Below w.heap.size w W→Calls Tryz.prog 54 #[.slice T N Nc] W fun e w'=>e= .returned (.int .i64 0)∧W=w'))(HX:Hid (∀W,Tabs W→Calls Tryz.prog 56 #[.string n.t] W (R_ W (.int .i64 0))))(HL:Hid (∀W,Below w.heap.size w W→Calls Tryz.prog 57 #[.slice T N Nc,.int .i64 n.me] W (RetInts W pl))):
 Calls Tryz.prog 22 #[.slice T N Nc,n.val] w (R_ w (.int .i64 9)):=by
 have vAZ:=h_ trivial;exact m35_
end
end
theorem ws_{n:Nat}(h:n≤12):wrap64 ((n:Int) - 1)=(n:Int) - 1:=by
 unfold wrap64;omega
theorem qq_{U:List OpV}{k:Nat}(hk:k<U.length):(U.map OpV.ps).reverse.take (k+1)=(U.map OpV.ps).reverse.take k++ [(U[U.length - 1 - k]'(by omega)).ps]:=by
 rw [List.take_succ_eq_append_getElem (by simpa using hk)];simp [List.getElem_reverse]
section
variable(w:World) (T:OA_) (N Nc:Nat) (n:NodeV) (HT:Hid (Tabs w)) (HI:Hid (n.In w)) (hN0:0<N) (hN:N≤7) (pl:List Int) (Hme:Hid (0≤n.me∧n.me≤(N:Int) - 1)) (Hep:Hid (1≤n.ep∧n.ep≤1048575)) (Hup:Hid (0≤n.up∧n.up≤1048576))
include w T N Nc n HT HI hN0 hN pl Hme Hep Hup
theorem nz_(_z0:(n.me==0)=false)(_zp:decide (0<n.me)=true)(hrd:n.rd=true)(hpl:pl.length=n.S.length)(hM:n.M.length≤1)(hU:n.U.length≤12)(hS:n.S.length≤8)(hpp:0<n.S.length)(res:Int)(H9:Hid (¬(undoOk (runesI n.t) (n.U.map OpV.ps).reverse∧(∀i (h:i<n.S.length),n.S[i].p=pl.getD i 0∧sideMay n.rd (runesI n.t) n.S[i])∧(0<n.me→ ∀x,n.S.head?=some x→x.j=n.rd)∧ ∀m∈n.M,markOk (runesI n.t) m)→res=9))(H0:Hid ((undoOk (runesI n.t) (n.U.map OpV.ps).reverse∧(∀i (h:i<n.S.length),n.S[i].p=pl.getD i 0∧sideMay n.rd (runesI n.t) n.S[i])∧(0<n.me→ ∀x,n.S.head?=some x→x.j=n.rd)∧ ∀m∈n.M,markOk (runesI n.t) m)→res=0))(HC:Hid (∀W,Below w.heap.size w W→Calls Tryz.prog 54 #[.slice T N Nc] W fun e w'=>e= .returned (.int .i64 0)∧W=w'))(HX:Hid (∀W,Tabs W→Calls Tryz.prog 56 #[.string n.t] W (R_ W (.int .i64 0))))(HL:Hid (∀W,Below w.heap.size w W→Calls Tryz.prog 57 #[.slice T N Nc,.int .i64 n.me] W (RetInts W pl)))(HSD:Hid (∀W x,Tabs W→x∈n.S→x.In W→Calls Tryz.prog 61 #[n.val,x.val] W fun r w'=>(∃b:Bool,r= .returned (.bool b)∧(b=true↔sideMay n.rd (runesI n.t) x))∧Below W.heap.size W w'))(HRC:Hid (∀W,Calls Tryz.prog 58 #[.string n.t] W (R_ W (.int .i64 (runesI n.t)))))(HMK:Hid (∀W m,Calls Tryz.prog 62 #[.string n.t,markV m] W fun r w'=>(∃b:Bool,r= .returned (.bool b)∧(b=true↔markOk (runesI n.t) m))∧Below W.heap.size W w'))(HLO:Hid (∀W (q:OpV),q∈n.U→OpIn (· <W.heap.size) W q.A q.ps→Calls Tryz.prog 59 #[.slice q.A q.ps.length q.c] W (R_ W (.tuple #[.int .i64 (lens q.ps).1,.int .i64 (lens q.ps).2]))))(HOF:Hid (∀W (q:OpV),Tabs W→q∈n.U→OpIn (· <W.heap.size) W q.A q.ps→Calls Tryz.prog 60 #[.slice q.A q.ps.length q.c] W (R_ W (.int .i64 (opFault q.ps))))):
 Calls Tryz.prog 22 #[.slice T N Nc,n.val] w (R_ w (.int .i64 res)):=by
 exact m4_
theorem oa_(_z0:(n.me==0)=true)(_zp:decide (0<n.me)=false)(_u0:(n.up !=0)=false)(hrd:n.rd=true)(hpl:pl.length=n.S.length)(hM:n.M.length≤1)(hU:n.U.length≤12)(hS:n.S.length≤8)(res:Int)(H9:Hid (¬(undoOk (runesI n.t) (n.U.map OpV.ps).reverse∧(∀i (h:i<n.S.length),n.S[i].p=pl.getD i 0∧sideMay n.rd (runesI n.t) n.S[i])∧(0<n.me→ ∀x,n.S.head?=some x→x.j=n.rd)∧ ∀m∈n.M,markOk (runesI n.t) m)→res=9))(H0:Hid ((undoOk (runesI n.t) (n.U.map OpV.ps).reverse∧(∀i (h:i<n.S.length),n.S[i].p=pl.getD i 0∧sideMay n.rd (runesI n.t) n.S[i])∧(0<n.me→ ∀x,n.S.head?=some x→x.j=n.rd)∧ ∀m∈n.M,markOk (runesI n.t) m)→res=0))(HC:Hid (∀W,Below w.heap.size w W→Calls Tryz.prog 54 #[.slice T N Nc] W fun e w'=>e= .returned (.int .i64 0)∧W=w'))(HX:Hid (∀W,Tabs W→Calls Tryz.prog 56 #[.string n.t] W (R_ W (.int .i64 0))))(HL:Hid (∀W,Below w.heap.size w W→Calls Tryz.prog 57 #[.slice T N Nc,.int .i64 n.me] W (RetInts W pl)))(HSD:Hid (∀W x,Tabs W→x∈n.S→x.In W→Calls Tryz.prog 61 #[n.val,x.val] W fun r w'=>(∃b:Bool,r= .returned (.bool b)∧(b=true↔sideMay n.rd (runesI n.t) x))∧Below W.heap.size W w'))(HRC:Hid (∀W,Calls Tryz.prog 58 #[.string n.t] W (R_ W (.int .i64 (runesI n.t)))))(HMK:Hid (∀W m,Calls Tryz.prog 62 #[.string n.t,markV m] W fun r w'=>(∃b:Bool,r= .returned (.bool b)∧(b=true↔markOk (runesI n.t) m))∧Below W.heap.size W w'))(HLO:Hid (∀W (q:OpV),q∈n.U→OpIn (· <W.heap.size) W q.A q.ps→Calls Tryz.prog 59 #[.slice q.A q.ps.length q.c] W (R_ W (.tuple #[.int .i64 (lens q.ps).1,.int .i64 (lens q.ps).2]))))(HOF:Hid (∀W (q:OpV),Tabs W→q∈n.U→OpIn (· <W.heap.size) W q.A q.ps→Calls Tryz.prog 60 #[.slice q.A q.ps.length q.c] W (R_ W (.int .i64 (opFault q.ps))))):
 Calls Tryz.prog 22 #[.slice T N Nc,n.val] w (R_ w (.int .i64 res)):=by
 have vH:=h_ trivial;exact m4_
theorem ny_(_z0:(n.me==0)=false)(_zp:decide (0<n.me)=true)(hrd:n.rd=false)(_ht:n.t.toList= [])(hpl:pl.length=n.S.length)(hM:n.M.length≤1)(hU:n.U.length≤12)(HUM:Hid (n.U.length=0∧n.M.length=0))(hS:n.S.length≤8)(hpp:0<n.S.length)(res:Int)(H9:Hid (¬(undoOk (runesI n.t) (n.U.map OpV.ps).reverse∧(∀i (h:i<n.S.length),n.S[i].p=pl.getD i 0∧sideMay n.rd (runesI n.t) n.S[i])∧(0<n.me→ ∀x,n.S.head?=some x→x.j=n.rd)∧ ∀m∈n.M,markOk (runesI n.t) m)→res=9))(H0:Hid ((undoOk (runesI n.t) (n.U.map OpV.ps).reverse∧(∀i (h:i<n.S.length),n.S[i].p=pl.getD i 0∧sideMay n.rd (runesI n.t) n.S[i])∧(0<n.me→ ∀x,n.S.head?=some x→x.j=n.rd)∧ ∀m∈n.M,markOk (runesI n.t) m)→res=0))(HC:Hid (∀W,Below w.heap.size w W→Calls Tryz.prog 54 #[.slice T N Nc] W fun e w'=>e= .returned (.int .i64 0)∧W=w'))(HX:Hid (∀W,Tabs W→Calls Tryz.prog 56 #[.string n.t] W (R_ W (.int .i64 0))))(HL:Hid (∀W,Below w.heap.size w W→Calls Tryz.prog 57 #[.slice T N Nc,.int .i64 n.me] W (RetInts W pl)))(HSD:Hid (∀W x,Tabs W→x∈n.S→x.In W→Calls Tryz.prog 61 #[n.val,x.val] W fun r w'=>(∃b:Bool,r= .returned (.bool b)∧(b=true↔sideMay n.rd (runesI n.t) x))∧Below W.heap.size W w'))(HRC:Hid (∀W,Calls Tryz.prog 58 #[.string n.t] W (R_ W (.int .i64 (runesI n.t)))))(HMK:Hid (∀W m,Calls Tryz.prog 62 #[.string n.t,markV m] W fun r w'=>(∃b:Bool,r= .returned (.bool b)∧(b=true↔markOk (runesI n.t) m))∧Below W.heap.size W w'))(HLO:Hid (∀W (q:OpV),q∈n.U→OpIn (· <W.heap.size) W q.A q.ps→Calls Tryz.prog 59 #[.slice q.A q.ps.length q.c] W (R_ W (.tuple #[.int .i64 (lens q.ps).1,.int .i64 (lens q.ps).2]))))(HOF:Hid (∀W (q:OpV),Tabs W→q∈n.U→OpIn (· <W.heap.size) W q.A q.ps→Calls Tryz.prog 60 #[.slice q.A q.ps.length q.c] W (R_ W (.int .i64 (opFault q.ps))))):
 Calls Tryz.prog 22 #[.slice T N Nc,n.val] w (R_ w (.int .i64 res)):=by
 have k279_:K_ (∀(P:Prop) (h:P:=by
 have q3:decide (12<(n.U.length:Int))=false:=by simp;omega
 have HM1:=h_ hM;have _q4:decide (0<n.U.length)=false:=by rw [HUM.o.1];rfl
 have _q5:decide (0<n.M.length)=false:=by rw [HUM.o.2];rfl
 have k269_:K_ (∀(P:Prop) (h:P:=by
 have k152_:K_ (∀(P:Prop) (h:P:=by
 have k95_:K_ (∀(P:Prop) (h:P:=by
 have k208_:K_ (∀(P:Prop) (h:P:=by
 clear n0 n1 n2 n3 n4 n5 n6 n7 nz hwu;all_goals(
  have HBL:=h_ (show(U.map OpV.ps).reverse.length=U.length by simp);obtain⟨BB,hBB⟩:=q2_ ((U.map OpV.ps).reverse);rw [←hBB]at HBL;have HBB:=h_ hBB;clear hBB;go_loopw [7,8] (fun av i wr=> ∃k:Nat,k≤U.length∧i= .int .i64 ((U.length:Int) - 1 - k)∧av= .int .i64 (atOf (runesI t) (BB.take k))∧Hid (undoOk (runesI t) (BB.take k))∧Hid (OneAt w ⟨me,ep,up,false,t,sA,sc,S,uA,uc,U,mA,mc,M⟩ wr)∧Hid (Sl (· <wr.heap.size) wr 1 Aa pl.length (pl.map (Value.int .i64)))) (fun _ i _=>(intOf i+1).toNat)
  case atStart=>exact⟨0,Nat.zero_le _,by simp,rfl,trivial,H4,HAL⟩
  case round=>
   obtain⟨k,hk,rfl,rfl,HUO,HO,HA2⟩:=hrel;obtain⟨n0,n1,n2,n3,n4,n5,n6,n7,nz⟩:=p_ HO.o.nd
   (try dsimp only at n0 n1 n2 n3 n4 n5 n6 n7)
   by_cases hlt:k<U.length
   ·exact m90_
   ·obtain rfl:k=U.length:=(by omega);have HUN:=h_ (show undoOk (runesI t) (U.map OpV.ps).reverse by rw [←HBB.o,←List.take_length (l:=BB),HBL.o];exact HUO.o);rw [show((U.length:Int) - 1 - U.length)= -1 by omega];clear HUO;go_wp2_with fail
    clear n0 n1 n2 n3 n4 n5 n6 n7 nz;go_loopw [11] (fun i wr=> ∃k:Nat,k≤S.length∧i= .int .i64 k∧Hid (∀i (h:i<S.length),i<k→S[i].p=pl.getD i 0∧sideMay false (runesI t) S[i])∧Hid (OneAt w ⟨me,ep,up,false,t,sA,sc,S,uA,uc,U,mA,mc,M⟩ wr)∧Hid (Sl (· <wr.heap.size) wr 1 Aa pl.length (pl.map (Value.int .i64)))) (fun i _=>S.length - (intOf i).toNat)
    case atStart=>exact⟨0,Nat.zero_le _,rfl,fun i hi h=>absurd h (by omega),HO,HA2⟩
    case round=>
    have k281_:K_ (∀(P:Prop) (h:P:=by
    have hpe:=HPLL.o;by_cases hlt:k<S.length
    ·have k73_:K_ (∀(P:Prop) (h:P:=by
     have k218_:K_ (∀(P:Prop) (h:P:=by
     by_cases hp:S[k].p=pl.getD k 0
     ·have hpk:=hp;have hne:(S[k].p !=pl.getD k 0)=false:=(by simp [hp]);by_cases hsm:sideMay false (runesI t) S[k]
      ·have HS2:=h_ (show∀W,Below wr.heap.size wr W→Calls Tryz.prog 61 #[NodeV.val ⟨me,ep,up,false,t,some ⟨b,o,none⟩,sc,S,uA,uc,U,mA,mc,M⟩,S[k].val] W (R_ W (.bool true))from fun W hb=>(HSK.o W hb).mono fun r w' ⟨⟨b,e,q⟩,h⟩=>⟨by rw [e];cases b <;> simp_all,h⟩);have HGN:=h_ (show∀i (h:i<S.length),i<k+1→S[i].p=pl.getD i 0∧sideMay false (runesI t) S[i]from fun i h hi=>by
        rcases Nat.lt_or_ge i k with q | q
        · exact HG.o i h q
        · obtain rfl:i=k:=by omega
          exact⟨hp,hsm⟩)
       have k104_:K_ (∀(P:Prop) (h:P:=by
       go_region_held3 (fun w'=>w'.cell? ⟨w.heap.size,0,none⟩=some (.int .i64 me)∧w'.cell? ⟨w.heap.size,1,none⟩=some (.int .i64 ep)∧w'.cell? ⟨w.heap.size,2,none⟩=some (.int .i64 up)∧w'.cell? ⟨w.heap.size,3,none⟩=some (.bool false)∧w'.cell? ⟨w.heap.size,4,none⟩=some (.string t)∧w'.cell? ⟨w.heap.size,5,none⟩=some (.slice (some ⟨b,o,none⟩) S.length sc)∧w'.cell? ⟨w.heap.size,6,none⟩=some (.slice uA U.length uc)∧w'.cell? ⟨w.heap.size,7,none⟩=some (.slice mA M.length mc)∧w'.cell? ⟨b,o+k*10,none⟩=some (.int .i64 p)∧w'.cell? ⟨b,o+k*10+1,none⟩=some (.bool j)∧w'.cell? ⟨b,o+k*10+2,none⟩=some (.int .i64 s)∧w'.cell? ⟨b,o+k*10+3,none⟩=some (.int .i64 h)∧w'.cell? ⟨b,o+k*10+4,none⟩=some (.slice A L.length c)∧w'.cell? ⟨b,o+k*10+5,none⟩=some (.int .i64 kk.e)∧w'.cell? ⟨b,o+k*10+6,none⟩=some (.int .i64 kk.n)∧w'.cell? ⟨b,o+k*10+7,none⟩=some (.slice kk.sA kk.s.length kk.sc)∧w'.cell? ⟨b,o+k*10+8,none⟩=some (.slice kk.qA kk.q.length kk.qc)∧w'.cell? ⟨b,o+k*10+9,none⟩=some (.int .i64 kk.h)∧w'.cell? ⟨ab,ao+k,none⟩=some (.int .i64 p))
        (go_keep)
        ((go_at_call 61;refine(HS2.o _ bz_).mono ?_;rintro r w6 ⟨rfl,hb6⟩;obtain⟨⟨d6,os6⟩,rfl⟩:=e_ hb6))
       all_goals(
        exact m170_)
       ),P):=⟨@q6_⟩
       exact m104_
      ·have HS2:=h_ (show∀W,Below wr.heap.size wr W→Calls Tryz.prog 61 #[NodeV.val ⟨me,ep,up,false,t,some ⟨b,o,none⟩,sc,S,uA,uc,U,mA,mc,M⟩,S[k].val] W (R_ W (.bool false))from fun W hb=>(HSK.o W hb).mono fun r w' ⟨⟨b,e,q⟩,h⟩=>⟨by rw [e];cases b <;> simp_all,h⟩);have HR9:=h_ (H9.o fun q=>hsm (q.2.1 k hlt).2);have k104_:K_ (∀(P:Prop) (h:P:=by
       go_region_held3 (fun w'=>w'.cell? ⟨w.heap.size,0,none⟩=some (.int .i64 me)∧w'.cell? ⟨w.heap.size,1,none⟩=some (.int .i64 ep)∧w'.cell? ⟨w.heap.size,2,none⟩=some (.int .i64 up)∧w'.cell? ⟨w.heap.size,3,none⟩=some (.bool false)∧w'.cell? ⟨w.heap.size,4,none⟩=some (.string t)∧w'.cell? ⟨w.heap.size,5,none⟩=some (.slice (some ⟨b,o,none⟩) S.length sc)∧w'.cell? ⟨w.heap.size,6,none⟩=some (.slice uA U.length uc)∧w'.cell? ⟨w.heap.size,7,none⟩=some (.slice mA M.length mc)∧w'.cell? ⟨b,o+k*10,none⟩=some (.int .i64 p)∧w'.cell? ⟨b,o+k*10+1,none⟩=some (.bool j)∧w'.cell? ⟨b,o+k*10+2,none⟩=some (.int .i64 s)∧w'.cell? ⟨b,o+k*10+3,none⟩=some (.int .i64 h)∧w'.cell? ⟨b,o+k*10+4,none⟩=some (.slice A L.length c)∧w'.cell? ⟨b,o+k*10+5,none⟩=some (.int .i64 kk.e)∧w'.cell? ⟨b,o+k*10+6,none⟩=some (.int .i64 kk.n)∧w'.cell? ⟨b,o+k*10+7,none⟩=some (.slice kk.sA kk.s.length kk.sc)∧w'.cell? ⟨b,o+k*10+8,none⟩=some (.slice kk.qA kk.q.length kk.qc)∧w'.cell? ⟨b,o+k*10+9,none⟩=some (.int .i64 kk.h)∧w'.cell? ⟨ab,ao+k,none⟩=some (.int .i64 p))
        (go_keep)
        ((go_at_call 61;refine(HS2.o _ bz_).mono ?_;rintro r w6 ⟨rfl,hb6⟩;obtain⟨⟨d6,os6⟩,rfl⟩:=e_ hb6))
       all_goals(
        exact m224_)
       ),P):=⟨@q6_⟩
       exact m104_
     ·have hne:(S[k].p !=pl.getD k 0)=true:=(by simpa using hp);have HR9:=h_ (H9.o fun q=>hp (q.2.1 k hlt).1);exact m124_
     ),P):=⟨@q6_⟩
     exact m218_
     ),P):=⟨@q6_⟩
     exact m73_
    ·obtain rfl:k=S.length:=(by omega);have hnl:decide ((S.length:Int)<(pl.length:Int))=false:=(by rw [hpe];simp);have hnl2:decide (S.length<pl.length)=false:=(by rw [hpe];simp);clear hpe;have HSO:=h_ (show∀i (h:i<S.length),S[i].p=pl.getD i 0∧sideMay false (runesI t) S[i]from fun i h=>HG.o i h h);have k221_:K_ (∀(P:Prop) (h:P:=by
     by_cases hj: ¬j=false
     ·have hj2:j=!false:=by cases j <;> simp_all
      subst hj2;have HR9:=h_ (H9.o fun q=>by have:=q.2.2.1 (by simpa using _zp) _ HHD.o;cases this);clear hj;exact m162_
     replace hj:j=false:=Classical.not_not.1 hj
     subst hj;have HPAR:=h_ (show 0<me→ ∀x,S.head?=some x→x.j=false from fun _ x hx=>by rw [HHD.o]at hx;obtain rfl:=Option.some.inj hx;rfl);go_wp2_with(refine z_ ?_)
     refine⟨?_⟩;go_region
     all_goals(
      go_wp2_with fail
      clear n0 n1 n2 n3 n4 n5 n6 n7 nz;go_loopw [12] (fun i wr=> ∃k:Nat,k≤M.length∧i= .int .i64 k∧Hid (∀i (h:i<M.length),i<k→markOk (runesI t) M[i])∧Hid (OneAt w ⟨me,ep,up,false,t,some ⟨b,o,none⟩,sc,S,uA,uc,U,mA,mc,M⟩ wr)) (fun i _=>M.length - (intOf i).toNat)
      case atStart=>exact⟨0,Nat.zero_le _,rfl,fun i hi h=>absurd h (by omega),h_ (HO.o.la bz_)⟩
      case round=>
       exact m68_)
     ),P):=⟨@q6_⟩
     exact m221_
    ),P):=⟨@q6_⟩
    exact m281_)
 ),P):=⟨@q6_⟩
 exact m208_
 ),P):=⟨@q6_⟩
 exact m95_
 ),P):=⟨@q6_⟩
 exact m152_
 ),P):=⟨@q6_⟩
 exact m269_
 ),P):=⟨@q6_⟩
 exact m279_
end
end Go.Proofs.YtacacoklddogmaaGreatDoor
