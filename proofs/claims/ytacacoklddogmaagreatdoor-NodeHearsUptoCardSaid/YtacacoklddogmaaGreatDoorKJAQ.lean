/- Lemmas. -/
import Derived.Test.YtacacoklddogmaaGreatDoorKJAH
import Derived.Test.YtacacoklddogmaaGreatDoorKJAO
import Derived.Test.YtacacoklddogmaaGreatDoorKJAV
import Derived.Test.YtacacoklddogmaaGreatDoorKJAY
import Derived.BigRegion
namespace Go.Proofs.YtacacoklddogmaaGreatDoor
set_option maxHeartbeats 4000000
open Go.ChangeShapes Go.WideShapes Go.ChangeAt Go.RowKit
set_option maxRecDepth 100000
theorem m7_{P:Prop}(h:P:=by
 have vBO:=h_ trivial;exact m47_):P:=h
theorem m14_{P:Prop}(h:P:=by
 obtain⟨i0,hi,hz0,hz1,hz2⟩:=info_parts infoOp;obtain⟨W1,hW1⟩:=q2_ (w.alloc (.cells #[.int .i64 s,.int .i64 h0,.slice A L.length c] 55));have k103_:K_ (∀(P:Prop) (h:P:=by
 have k198_:K_ (∀(P:Prop) (h:P:=by
 have k140_:K_ (∀(P:Prop) (h:P:=by
 go_enter Tryz.func118,Tryz.ntmps118
 have k122_:K_ (∀(P:Prop) (h:P:=by
 have k273_:K_ (∀(P:Prop) (h:P:=by
 refine(m_ hd (s - (L.length:Int)) s _ f1 f2).mono ?_;rintro e w3 ⟨rfl,rfl⟩;go_wp2_with fail
 have HDC:=h_ (fun W hs=>eb_ W B cc ps hs hsp.1);have HSP:=h_ hsp;clear e0 e1 e2 hez r0 r1 r2 q0 q1 q2 hsp;all_goals(
  refine he_ (fun G=>EdgeAt G w2.heap.size s (h0+1) none 0 0∧Below w2.heap.size w2 G∧G.heap.size=w2.heap.size+1) ⟨by show(w2.heap.push _)[w2.heap.size]?=_;simp,bA_,by simp⟩ ?_;rintro G ⟨hX,hbG,hGz⟩;refine(HDC.o G (Sl.la HP.o (bThen H2.o.b hbG))).mono ?_;rintro e wd ⟨A2,c2,rfl,hown2,hbd⟩;have hdz:=hbd.size;have H3:=h_ (H2.o.la (hbG.trans (hbd.mono hbG.size)));have HR0:=h_ (show HeardR w R w2.heap.size (w2.heap.size+1) s h0 A L.length c s (h0+1) none 0 [] A2 ps wd from
   ⟨H3.o.e,H3.o.r,(hbd.block _ (by omega)).trans hX,OpsOwn.nil _ _,(Sl.of_own _ hown2).mv fun b hb=>⟨⟨⟨by omega,hb.2⟩,by simp [Value.ownBlock]⟩,rfl⟩,H3.o.b,hRB,hrz,by omega,by omega⟩)
  obtain⟨e0,e1,e2,_,_,_,hez⟩:=b_ H3.o.e;first
  |guard_hyp vX
   have HG0:=h_ (show hearG false (([]:List OpV).map OpV.ps) ps ((L.drop (max 0 K)).map OpV.ps)=hearG false [] ps ((L.map OpV.ps).drop K) by rw [List.map_drop];simp)
  |have HG0:=h_ (show hearG true (([]:List OpV).map OpV.ps) ps ((L.drop (max 0 K)).map OpV.ps)=hearG true [] ps ((L.map OpV.ps).drop K) by rw [List.map_drop];simp)
  clear hX hbG hGz hown2 hbd hdz;go_wp2_with fail
  clear e0 e1 e2 hez;obtain⟨X,hXe⟩:=q2_ (w2.heap.size);rw [←hXe]at HR0⊢;clear hXe hz2 hz1 hrz H2 H1 H3;first
  |guard_hyp vX
   go_loopw [13,14] (fun ov i wr=> ∃(k:Nat) (L':List OpV) (Ao:OA_) (co:Nat) (hA:OA_) (hc:Nat) (hp:LP_),k≤L.length∧i= .int .i64 k∧ov= .slice hA hp.length hc∧Hid (L'.length=k - K)∧Hid (hearG false (L'.map OpV.ps) hp ((L.drop (max k K)).map OpV.ps)=hearG false [] ps ((L.map OpV.ps).drop K))∧Hid (SmallD hp)∧Hid (HeardR w R X (X+1) s h0 A L.length c s (h0+1) Ao co L' hA hp wr)) (fun _ i _=>L.length - (intOf i).toNat)
  |go_loopw [13,14] (fun ov i wr=> ∃(k:Nat) (L':List OpV) (Ao:OA_) (co:Nat) (hA:OA_) (hc:Nat) (hp:LP_),k≤L.length∧i= .int .i64 k∧ov= .slice hA hp.length hc∧Hid (L'.length=k - K)∧Hid (hearG true (L'.map OpV.ps) hp ((L.drop (max k K)).map OpV.ps)=hearG true [] ps ((L.map OpV.ps).drop K))∧Hid (SmallD hp)∧Hid (HeardR w R X (X+1) s h0 A L.length c s (h0+1) Ao co L' hA hp wr)) (fun _ i _=>L.length - (intOf i).toNat)
  case atStart=>exact⟨0,[],none,0,A2,c2,ps,Nat.zero_le _,rfl,rfl,h_ (by simp),HG0,HSP,HR0⟩
  case round=>
   obtain⟨k,L',Ao,co,hA,hc,hp,hk,rfl,rfl,hL',HG,HP2,HR⟩:=hrel;obtain⟨e0,e1,e2,_,_,_,hez⟩:=b_ HR.o.e;obtain⟨x0,x1,x2,f0,f1',f2',hxz⟩:=b_ HR.o.x;by_cases hlt:k<L.length
   ·first
    |guard_hyp vX
     have hw2:wrap64 (s - (L.length:Int)+(k:Int))=s - L.length+k:=bdw_ (by omega) (by omega)
    |have hw2:wrap64 (s - (L.length:Int)+(k:Int))=s - L.length+k:=bfx_ (by omega) (by omega)
    by_cases hkK:k<K
    ·have t1:decide (s - (L.length:Int)+(k:Int)<hd)=true:=(by have:=HKd.o;simp;omega);obtain rfl:L'= []:=List.eq_nil_of_length_eq_zero (by have:=hL'.o;omega);go_wp2_with fail
     go_roundw
     case rel=>exact⟨k+1,[],Ao,co,hA,hc,hp,by omega,by go_num,rfl,h_ (by simp;omega),h_ (by rw [←HG.o,show max (k+1) K=max k K by omega]),HP2,HR⟩
     case measure=>simp [intOf];omega
    ·have t1:decide (s - (L.length:Int)+(k:Int)<hd)=false:=(by have:=HKd.o;simp;omega);obtain⟨b,o,rfl,hbs,c0,hop⟩:=(HS.o.la HR.o.b).at_ hlt;have hsq:=HM.o (L[k]'(by omega)) (List.getElem_mem _);have HDR:=h_ (show(L.drop (max k K)).map OpV.ps=(L[k]'(by omega)).ps :: (L.drop (max (k+1) K)).map OpV.ps by rw [show max k K=k by omega,show max (k+1) K=k+1 by omega,List.drop_eq_getElem_cons (by omega)];rfl);generalize hqe:L[k]'(by omega)=q at*;obtain⟨qA,qc,qp⟩:=q;have hsq2:SmallD qp:=⟨hsq.len,hsq.text⟩
     dsimp only at*;first
     |guard_hyp vX
      have HTF:=h_ (show Calls Tryz.prog 119 #[.slice hA hp.length hc,.slice qA qp.length qc] wr (RetTwoO wr (stH false qp hp) (stP false qp hp) (stE false qp hp))from gz_ wr hA qA hc qc hp qp (HT.o.la HR.o.b) (HR.o.o.mv fun b h9=>⟨h9.1.2,rfl⟩) hop HP2.o.1 hsq2.1 HP2.o.2 hsq2.2);by_cases he:stE false qp hp=0
     |have HTF:=h_ (show Calls Tryz.prog 119 #[.slice qA qp.length qc,.slice hA hp.length hc] wr (RetTwoO wr (stP true qp hp) (stH true qp hp) (stE true qp hp))from gz_ wr qA hA qc hc qp hp (HT.o.la HR.o.b) hop (HR.o.o.mv fun b h9=>⟨h9.1.2,rfl⟩) hsq2.1 HP2.o.1 hsq2.2 HP2.o.2);by_cases he:stE true qp hp=0
     ·have HGS:=h_ (fs_ (acc:=L'.map OpV.ps) (ps:=(L.drop (max (k+1) K)).map OpV.ps) he);first
      |guard_hyp vX
       have HN2:=h_ (gx_ false qp hp)
      |have HN2:=h_ (gx_ true qp hp)
      rw [he]at HTF;first
      |guard_hyp vX
       generalize stP false qp hp=pp at*;generalize stH false qp hp=op at*
      |generalize stP true qp hp=pp at*;generalize stH true qp hp=op at*
      clear hop he hqe hsq hsq2;go_wp2_with fail
      refine(HTF.o).mono ?_;first
      |guard_hyp vX
       rintro r w3 ⟨oA,oc,pA,pc,rfl,hO,hP,hb2⟩;skip
      |rintro r w3 ⟨pA,pc,oA,oc,rfl,hP,hO,hb2⟩
      have HO2:=h_ (HR.o.la hb2);obtain⟨y0,y1,y2,g0,g1,g2,hyz⟩:=b_ HO2.o.x;clear e0 e1 e2 hez x0 x1 x2 f0 f1' f2' hxz c0;go_wp2_with(refine bb_ rfl ?_)
      refine⟨?_⟩;refine l_ _ rfl _ _ 25 rfl (X+1) 30 i0 (.slice none 0 0) 1 24 Tryz.underlying25 hi hz0 hz1 hz2 rfl (by decide) _ _ _ rfl (HO2.o.own.row.alloc _) (fun _=>True) _ _ _ _ rfl (fa_ rfl (by simp)) ?c1 ?c2 ?c3 ?c4 ?_
      case c1=>intro u hu;simp at hu;subst hu;rfl
      case c2=>have:=hL'.o;unfold maxLen;omega
      case c3=>have:=hL'.o;omega
      case c4=>have:=HO2.o.bz;simp;omega
      intro A' c' w4 hown' hgrow hat;have HPU:=h_ (HR.o.push hb2 hP hO hgrow hown' hat);obtain⟨v0,v1,v2,j0,j1,j2,hvz⟩:=b_ ((HR.o.far hb2 hgrow HR.o.xb).trans HR.o.x);clear hown' hgrow hat y0 y1 y2 g0 g1 g2 hyz;go_wp2_with fail
      go_roundw
      case rel=>exact⟨k+1,L'++ [⟨pA,pc,pp⟩],A',c',oA,oc,op,by omega,by go_num,rfl,h_ (by have:=hL'.o;simp;omega),h_ (by rw [List.map_append];exact HGS.o.symm.trans ((by rw [HDR.o]:_=_).trans HG.o)),HN2,HPU⟩
      case measure=>simp [intOf];omega
     ·have HGS:=h_ ((HG.o.symm.trans (by rw [HDR.o])).trans (ft_ (acc:=L'.map OpV.ps) (ps:=(L.drop (max (k+1) K)).map OpV.ps) he));first
      |guard_hyp vX
       have hne:(stE false qp hp !=0)=true:=(by simpa using he);have HO0:=h_ (show hearOut s (h0+1) ([],[],stE false qp hp)=(0,0,[],[],stE false qp hp)from fu_ he);generalize stE false qp hp=er at*;generalize stP false qp hp=pp at*;generalize stH false qp hp=op at*
      |have hne:(stE true qp hp !=0)=true:=(by simpa using he);have HO0:=h_ (show hearOut s (h0+1) ([],[],stE true qp hp)=(0,0,[],[],stE true qp hp)from fu_ he);generalize stE true qp hp=er at*;generalize stP true qp hp=pp at*;generalize stH true qp hp=op at*
      clear hop he hqe;go_wp2_with fail
      refine(HTF.o).mono ?_;first
      |guard_hyp vX
       rintro r w3 ⟨oA,oc,pA,pc,rfl,hO,hP,hb2⟩;skip
      |rintro r w3 ⟨pA,pc,oA,oc,rfl,hP,hO,hb2⟩
      obtain⟨r0,r1,r2,q0,q1,q2,hrz⟩:=b_ (HR.o.la hb2).r;go_wp2_with fail
      have z0:=b_ (x_ (x:= .slice none 0 0) (bc_ (x:= .int .i64 0) (bd_ (x:= .int .i64 0) (HR.o.la hb2).r)));obtain⟨z0,z1,z2,_,_,_,_⟩:=z0;refine bodyPost_ret (v:= .tuple #[edgeV 0 0 none 0 0,.slice none 0 0,.int .i64 er]) (by simp [results,Tryz.results118,go_sem,z0,z1,z2]) rfl ?_;rw [HGS.o,HO0.o];exact m229_
   ·obtain rfl:k=L.length:=(by omega);first
    |guard_hyp vX
     have HGS:=h_ (show hearG false [] ps ((L.map OpV.ps).drop K)=(L'.map OpV.ps,hp,0) by rw [←HG.o,show max L.length K=L.length by omega,List.drop_length];rfl)
    |have HGS:=h_ (show hearG true [] ps ((L.map OpV.ps).drop K)=(L'.map OpV.ps,hp,0) by rw [←HG.o,show max L.length K=L.length by omega,List.drop_length];rfl)
    have HO0:=h_ (show hearOut s (h0+1) (L'.map OpV.ps,hp,0)=(s,h0+1,L'.map OpV.ps,hp,0)from hg_);obtain⟨r0,r1,r2,q0,q1,q2,hrz⟩:=b_ HR.o.r;go_wp2_with fail
    have z0:=b_ (x_ (x:= .slice Ao L'.length co) (bc_ (x:= .int .i64 (h0+1)) (bd_ (x:= .int .i64 s) HR.o.r)));obtain⟨z0,z1,z2,_,_,_,_⟩:=z0;refine bodyPost_ret (v:= .tuple #[edgeV s (h0+1) Ao L'.length co,.slice hA hp.length hc,.int .i64 0]) (by simp [results,Tryz.results118,go_sem,z0,z1,z2]) rfl ?_;rw [HGS.o,HO0.o];exact HR.o.fin)
 ),P):=⟨@q6_⟩
 exact m273_
 ),P):=⟨@q6_⟩
 exact m122_
 ),P):=⟨@q6_⟩
 exact m140_
 ),P):=⟨@q6_⟩
 exact m198_
 ),P):=⟨@q6_⟩
 exact m103_):P:=h
theorem m47_{P:Prop}(h:P:=by
 have HC:=h_ (fun W hT hi=>bw_ W l hT hi hm);rw [if_pos hk]at HC;have HF:=h_ (fun W hT hs=>ca_ W p.ep p.nu p.b p.ak p.f.k p.f.h p.f.e p.f.o.A p.f.o.c p.f.o.ps p.f.s hT hs hfm.op.len hfm.op.text hfm.text);rw [show packetFault ⟨p.ep,p.nu,p.b,p.ak,⟨p.f.k,p.f.h,p.f.e,p.f.o.ps,p.f.s⟩⟩=0 from he]at HF;have HOP:=h_ hf;have HOW:=h_ (fun W hi=>dl_ W l hi hm);have HM:=h_ hm;have HK:=h_ hk;have hpa:0≤p.ak∧p.ak≤1048576:=by
  exact m280_
 first
 |guard_hyp vBP
 |first
  |guard_hyp vBO
  |have HCF:=h_ (fun W hs=>dv_ W p.f.k p.f.h p.f.e p.f.o.A p.f.o.c p.f.o.ps p.f.s hs hfm.op.len)
  obtain⟨i0,hi0,hz0,hz1,hz2⟩:=info_parts infoPacket
 have HI:=h_ hi;have HT:=h_ hT;obtain⟨e,n,sA,sc,s,qA,qc,q,hv⟩:=l;obtain⟨pe,pn,pb,pa,⟨fk,fh,fe,⟨fA,fc,fp⟩,fs⟩⟩:=p;first
 |guard_hyp vBP
  first
  |guard_hyp vT
   obtain⟨D,hD⟩:=q2_ (⟨e,n,((s.map FrameV.d).drop K),q.map FrameV.d,hv⟩:LinkD);skip
  |obtain⟨D,hD⟩:=q2_ (⟨e,n,(s.map FrameV.d),q.map FrameV.d,hv⟩:LinkD)
 |guard_hyp vBO
  first
  |guard_hyp vN
   obtain⟨D,hD⟩:=q2_ (⟨e,n,((s.map FrameV.d).drop K),q.map FrameV.d,hv⟩:LinkD);skip
  |obtain⟨D,hD⟩:=q2_ (⟨e,n,(s.map FrameV.d),q.map FrameV.d,hv⟩:LinkD)
 |guard_hyp vJ
  obtain⟨D,hD⟩:=q2_ (⟨e,n,((s.map FrameV.d).drop K),q.map FrameV.d,(hv+1)⟩:LinkD);skip
 |obtain⟨D,hD⟩:=q2_ (⟨e,n,(s.map FrameV.d),q.map FrameV.d,(hv+1)⟩:LinkD)
 dsimp only at*;rw [←hD];have HDD:=h_ hD;have e0:(e==0)=false:=by simpa using h0
 have e1:(pe !=e)=false:=by simpa using h1
 clear hD h0 h1;subst hb;first
 |guard_hyp vBP
 |guard_hyp vBO
  have e2:(pn==hv+1)=false:=by simpa using hn
  clear hn
 |subst hn
 obtain⟨W1,hW1⟩:=q2_ (w.alloc (.cells #[.int .i64 e,.int .i64 n,.slice sA s.length sc,.slice qA q.length qc,.int .i64 hv] 58));first
 |guard_hyp vBP
  obtain⟨W2,hW2⟩:=q2_ (W1.alloc (.cells #[.int .i64 pe,.int .i64 pn,.bool true,.int .i64 pa,.int .i64 fk,.int .i64 fh,.int .i64 fe,.slice fA fp.length fc,.string fs] 48));skip
 |guard_hyp vBO
  obtain⟨W2,hW2⟩:=q2_ (W1.alloc (.cells #[.int .i64 pe,.int .i64 pn,.bool false,.int .i64 pa,.int .i64 fk,.int .i64 fh,.int .i64 fe,.slice fA fp.length fc,.string fs] 48));skip
 |obtain⟨W2,hW2⟩:=q2_ (W1.alloc (.cells #[.int .i64 pe,.int .i64 (hv+1),.bool false,.int .i64 pa,.int .i64 fk,.int .i64 fh,.int .i64 fe,.slice fA fp.length fc,.string fs] 48))
 have k119_:K_ (∀(P:Prop) (h:P:=by
 first
 |guard_hyp vBP
  have HA0:=h_ (show LHearAt w WA W1.heap.size W2.heap.size W3.heap.size ⟨e,n,sA,sc,s,qA,qc,q,hv⟩ ⟨pe,pn,true,pa,⟨fk,fh,fe,⟨fA,fc,fp⟩,fs⟩⟩ zeroF from
   ⟨(k24.block _ (by omega)).trans (by rw [hW1];exact heap_alloc_new _ _),(k34.block _ (by omega)).trans (by rw [hW2];exact heap_alloc_new _ _),(k4.block _ (by omega)).trans (by rw [hW3];exact heap_alloc_new _ _),by rw [hWA];exact heap_alloc_new _ _,bThen k1 k24⟩)
  have HW:=h_ (show(((w.alloc (.cells #[.int .i64 e,.int .i64 n,.slice sA s.length sc,.slice qA q.length qc,.int .i64 hv] 58)).alloc (.cells #[.int .i64 pe,.int .i64 pn,.bool true,.int .i64 pa,.int .i64 fk,.int .i64 fh,.int .i64 fe,.slice fA fp.length fc,.string fs] 48)).alloc (.cells #[.int .i64 0,.int .i64 0,.slice none 0 0,.slice none 0 0,.int .i64 0] 58)).alloc (.cells #[.int .i64 0,.int .i64 0,.int .i64 0,.slice none 0 0,.string ⟨#[]⟩] 46)=WA by rw [hWA,hW3,hW2,hW1])
 |guard_hyp vBO
  have HA0:=h_ (show LHearAt w WA W1.heap.size W2.heap.size W3.heap.size ⟨e,n,sA,sc,s,qA,qc,q,hv⟩ ⟨pe,pn,false,pa,⟨fk,fh,fe,⟨fA,fc,fp⟩,fs⟩⟩ zeroF from
   ⟨(k24.block _ (by omega)).trans (by rw [hW1];exact heap_alloc_new _ _),(k34.block _ (by omega)).trans (by rw [hW2];exact heap_alloc_new _ _),(k4.block _ (by omega)).trans (by rw [hW3];exact heap_alloc_new _ _),by rw [hWA];exact heap_alloc_new _ _,bThen k1 k24⟩)
  have HW:=h_ (show(((w.alloc (.cells #[.int .i64 e,.int .i64 n,.slice sA s.length sc,.slice qA q.length qc,.int .i64 hv] 58)).alloc (.cells #[.int .i64 pe,.int .i64 pn,.bool false,.int .i64 pa,.int .i64 fk,.int .i64 fh,.int .i64 fe,.slice fA fp.length fc,.string fs] 48)).alloc (.cells #[.int .i64 0,.int .i64 0,.slice none 0 0,.slice none 0 0,.int .i64 0] 58)).alloc (.cells #[.int .i64 0,.int .i64 0,.int .i64 0,.slice none 0 0,.string ⟨#[]⟩] 46)=WA by rw [hWA,hW3,hW2,hW1])
 |have HA0:=h_ (show LHearAt w WA W1.heap.size W2.heap.size W3.heap.size ⟨e,n,sA,sc,s,qA,qc,q,hv⟩ ⟨pe,hv+1,false,pa,⟨fk,fh,fe,⟨fA,fc,fp⟩,fs⟩⟩ zeroF from
   ⟨(k24.block _ (by omega)).trans (by rw [hW1];exact heap_alloc_new _ _),(k34.block _ (by omega)).trans (by rw [hW2];exact heap_alloc_new _ _),(k4.block _ (by omega)).trans (by rw [hW3];exact heap_alloc_new _ _),by rw [hWA];exact heap_alloc_new _ _,bThen k1 k24⟩)
  have HW:=h_ (show(((w.alloc (.cells #[.int .i64 e,.int .i64 n,.slice sA s.length sc,.slice qA q.length qc,.int .i64 hv] 58)).alloc (.cells #[.int .i64 pe,.int .i64 (hv+1),.bool false,.int .i64 pa,.int .i64 fk,.int .i64 fh,.int .i64 fe,.slice fA fp.length fc,.string fs] 48)).alloc (.cells #[.int .i64 0,.int .i64 0,.slice none 0 0,.slice none 0 0,.int .i64 0] 58)).alloc (.cells #[.int .i64 0,.int .i64 0,.int .i64 0,.slice none 0 0,.string ⟨#[]⟩] 46)=WA by rw [hWA,hW3,hW2,hW1])
 have k169_:K_ (∀(P:Prop) (h:P:=by
 go_enter Tryz.func73,Tryz.ntmps73
 have k86_:K_ (∀(P:Prop) (h:P:=by
 have hz4:W4.heap.size=w3.heap.size+1:=by rw [hW4];simp
 have hX4:LinkAt W4 w3.heap.size ⟨e,n,sA3,sc3,s3,qA3,qc3,q3',hv⟩:=by rw [hW4];exact heap_alloc_new _ _
 have HL4:=LinkSt.plain (l:=⟨e,n,sA3,sc3,s3,qA3,qc3,q3',hv⟩) hS3 hQ3 hmid hb4 hX4;have HA3:=h_ (HA2.o.la hb3);have HA4:=h_ (HA2.o.la (bThen hb3 hb4));obtain⟨X,hX⟩:=q2_ (w3.heap.size);rw [←hX]at HL4;have hba:F<w2.heap.size∧w2.heap.size≤X∧X<W4.heap.size:=⟨HA2.o.lt.2.2.2,by omega,by omega⟩
 have HBA:=h_ hba;have k210_:K_ (∀(P:Prop) (h:P:=by
 have HXE:=h_ hX;have HW4:=h_ hW4;first
 |guard_hyp vBP
  first
  |guard_hyp vT
   have a1:decide (n - (s3.length:Int)≤pa)=true:=(by have:=hK;simp;omega);have a2:decide (pa<n)=true:=(by have:=hK;have:=HNM.o;simp;omega);have hcap:K≤s3.length∧s3.length≤sc3:=⟨by omega,HL4.own.cap.1⟩
   obtain⟨bA,oA,hbA⟩: ∃b o,sA3=some ⟨b,o,none⟩:=by
    exact m250_
   subst hbA;have hKK:=h_ hK;have a3:decide ((s3.length:Int)<(K:Int))=false:=(by simp;omega);have a4:decide ((sc3:Int)<(K:Int))=false:=(by simp;omega);have hKb:Hid ((pa - (n - (s3.length:Int))=(K:Int) - 1)∧(K:Int)≤8):=⟨by omega,by have:=HNM.o;omega⟩
   clear hK
  |first
   |guard_hyp vS
    have a1:decide (n - (s3.length:Int)≤pa)=true:=(by have:=hA;simp;omega);have a2:decide (pa<n)=false:=by have:=hA;simp;omega
   |have a1:decide (n - (s3.length:Int)≤pa)=false:=by have:=hA;simp;omega
   clear hA
 |guard_hyp vBO
  first
  |guard_hyp vN
   have a1:decide (n - (s3.length:Int)≤pa)=true:=(by have:=hK;simp;omega);have a2:decide (pa<n)=true:=(by have:=hK;have:=HNM.o;simp;omega);have hcap:K≤s3.length∧s3.length≤sc3:=⟨by omega,HL4.own.cap.1⟩
   obtain⟨bA,oA,hbA⟩: ∃b o,sA3=some ⟨b,o,none⟩:=by
    exact m250_
   subst hbA;have hKK:=h_ hK;have a3:decide ((s3.length:Int)<(K:Int))=false:=(by simp;omega);have a4:decide ((sc3:Int)<(K:Int))=false:=(by simp;omega);have hKb:Hid ((pa - (n - (s3.length:Int))=(K:Int) - 1)∧(K:Int)≤8):=⟨by omega,by have:=HNM.o;omega⟩
   clear hK
  |first
   |guard_hyp vM
    have a1:decide (n - (s3.length:Int)≤pa)=false:=by have:=hA;simp;omega
   |have a1:decide (n - (s3.length:Int)≤pa)=true:=(by have:=hA;simp;omega);have a2:decide (pa<n)=false:=by have:=hA;simp;omega
   clear hA
 |first
  |guard_hyp vJ
   have a1:decide (n - (s3.length:Int)≤pa)=true:=(by have:=hK;simp;omega);have a2:decide (pa<n)=true:=(by have:=hK;have:=HNM.o;simp;omega);have hcap:K≤s3.length∧s3.length≤sc3:=⟨by omega,HL4.own.cap.1⟩
   obtain⟨bA,oA,hbA⟩: ∃b o,sA3=some ⟨b,o,none⟩:=by
    exact m250_
   subst hbA;have hKK:=h_ hK;have a3:decide ((s3.length:Int)<(K:Int))=false:=(by simp;omega);have a4:decide ((sc3:Int)<(K:Int))=false:=(by simp;omega);have hKb:Hid ((pa - (n - (s3.length:Int))=(K:Int) - 1)∧(K:Int)≤8):=⟨by omega,by have:=HNM.o;omega⟩
   clear hK
  |first
   |guard_hyp vI
    have a1:decide (n - (s3.length:Int)≤pa)=true:=(by have:=hA;simp;omega);have a2:decide (pa<n)=false:=by have:=hA;simp;omega
   |have a1:decide (n - (s3.length:Int)≤pa)=false:=by have:=hA;simp;omega
   clear hA
  have b2:decide (hv<1048576)=true:=by simpa using hh
  clear hh
 have HL4:=h_ HL4;clear hX hX4 hS3 hQ3 hmid hb3 hb4 hz4 hd3 d3 d4 hl3 hl4 hW4 p0 p1 p2 p3 p4 v0 v1 v2 v3 v4 pz q0 q1 q2 q3 q4 q5 q6 q7 q8 g0 g1 g2 g3 g4 g5 g6 g7 g8 gz r0 r1 r2 r3 r4 j0 j1 j2 j3 j4 rz t0 t1 t2 t3 t4 k0 k1 k2 k3 k4 tz;obtain⟨p0,p1,p2,p3,p4,v0,v1,v2,v3,v4,pz⟩:=a_ HA3.o.l;obtain⟨q0,q1,q2,q3,q4,q5,q6,q7,q8,g0,g1,g2,g3,g4,g5,g6,g7,g8,gz⟩:=n_ HA3.o.p;have n1: ¬w3.heap.size=Q:=by have:=HA3.o.lt;omega
 have n2: ¬Q=w3.heap.size:=by omega
 have hfirst:wrap64 (n - (s3.length:Int))=n - s3.length:=w_ (by have:=HNM.o;have:=HL3.o;omega);first
 |guard_hyp vBP
  all_goals(first
  |guard_hyp vT
   have hK1:wrap64 (pa - (n - (s3.length:Int)))=(K:Int) - 1:=(by rw [hKb.o.1];exact w_ (by have:=hKb.o;omega));have hK2:wrap64 (K:Int)=(K:Int):=w_ (by have:=hKb.o;omega)
  |skip)
 |first
  |guard_hyp vBO
   all_goals(first
   |guard_hyp vN
    have hK1:wrap64 (pa - (n - (s3.length:Int)))=(K:Int) - 1:=(by rw [hKb.o.1];exact w_ (by have:=hKb.o;omega));have hK2:wrap64 (K:Int)=(K:Int):=w_ (by have:=hKb.o;omega)
   |skip)
  |guard_hyp vJ
   have hK1:wrap64 (pa - (n - (s3.length:Int)))=(K:Int) - 1:=(by rw [hKb.o.1];exact w_ (by have:=hKb.o;omega));have hK2:wrap64 (K:Int)=(K:Int):=w_ (by have:=hKb.o;omega)
  |skip
  have hw:wrap64 (hv+1)=hv+1:=w_ (by have:=HNM.o;omega)
 go_wp2_with fail
 all_goals(
  first
  |guard_hyp vBP
   first
   |guard_hyp vT
    clear hfirst hK1 hK2
   |clear hfirst
  |guard_hyp vBO
   first
   |guard_hyp vN
    clear hfirst hK1 hK2 hw
   |clear hfirst hw
  |guard_hyp vJ
   clear hfirst hK1 hK2 hw
  |clear hfirst hw
  rw [←HXE.o];have hl:=HL4.o;rw [HW4.o,HXE.o]at hl;first
  |guard_hyp vBP
   first
   |guard_hyp vT
    refine da_ (fun W=>(∃A4 c4,LinkSt W w2.heap.size X ⟨e,n,A4,c4,s3.drop K,qA3,qc3,q3',hv⟩)∧LHearAt w W Q R F ⟨e,n,sA,sc,s,qA,qc,q,hv⟩ ⟨pe,pn,true,pa,⟨fk,fh,fe,⟨fA,fc,fp⟩,fs⟩⟩ zeroF∧X<W.heap.size) ⟨?_,HA3.o.la bA_,by have:=HXE.o;simp;omega⟩ ?_
    ·exact m276_
   |refine da_ (fun W=>(∃A4 c4,LinkSt W w2.heap.size X ⟨e,n,A4,c4,s3,qA3,qc3,q3',hv⟩)∧LHearAt w W Q R F ⟨e,n,sA,sc,s,qA,qc,q,hv⟩ ⟨pe,pn,true,pa,⟨fk,fh,fe,⟨fA,fc,fp⟩,fs⟩⟩ zeroF∧X<W.heap.size) ⟨?_,HA3.o.la bA_,by have:=HXE.o;simp;omega⟩ ?_
    ·rw [HXE.o];exact⟨_,_,hl⟩
  |guard_hyp vBO
   first
   |guard_hyp vN
    refine da_ (fun W=>(∃A4 c4,LinkSt W w2.heap.size X ⟨e,n,A4,c4,s3.drop K,qA3,qc3,q3',hv⟩)∧LHearAt w W Q R F ⟨e,n,sA,sc,s,qA,qc,q,hv⟩ ⟨pe,pn,false,pa,⟨fk,fh,fe,⟨fA,fc,fp⟩,fs⟩⟩ zeroF∧X<W.heap.size) ⟨?_,HA3.o.la bA_,by have:=HXE.o;simp;omega⟩ ?_
    ·exact m276_
   |refine da_ (fun W=>(∃A4 c4,LinkSt W w2.heap.size X ⟨e,n,A4,c4,s3,qA3,qc3,q3',hv⟩)∧LHearAt w W Q R F ⟨e,n,sA,sc,s,qA,qc,q,hv⟩ ⟨pe,pn,false,pa,⟨fk,fh,fe,⟨fA,fc,fp⟩,fs⟩⟩ zeroF∧X<W.heap.size) ⟨?_,HA3.o.la bA_,by have:=HXE.o;simp;omega⟩ ?_
    ·rw [HXE.o];exact⟨_,_,hl⟩
  |guard_hyp vJ
   refine da_ (fun W=>(∃A4 c4,LinkSt W w2.heap.size X ⟨e,n,A4,c4,s3.drop K,qA3,qc3,q3',hv+1⟩)∧LHearAt w W Q R F ⟨e,n,sA,sc,s,qA,qc,q,hv⟩ ⟨pe,hv+1,false,pa,⟨fk,fh,fe,⟨fA,fc,fp⟩,fs⟩⟩ zeroF∧X<W.heap.size) ⟨?_,HA3.o.la bA_,by have:=HXE.o;simp;omega⟩ ?_
   ·rw [HXE.o];first
     | exact⟨_,_,(hl.ackA K hcap.1 (.inl ⟨by assumption,rfl,rfl⟩)).heardA (hv+1)⟩
     | exact⟨_,_,(hl.ackA K hcap.1 (.inr ⟨by assumption,by simp [Addr.add],rfl⟩)).heardA (hv+1)⟩
  |refine da_ (fun W=>(∃A4 c4,LinkSt W w2.heap.size X ⟨e,n,A4,c4,s3,qA3,qc3,q3',hv+1⟩)∧LHearAt w W Q R F ⟨e,n,sA,sc,s,qA,qc,q,hv⟩ ⟨pe,hv+1,false,pa,⟨fk,fh,fe,⟨fA,fc,fp⟩,fs⟩⟩ zeroF∧X<W.heap.size) ⟨?_,HA3.o.la bA_,by have:=HXE.o;simp;omega⟩ ?_
   ·rw [HXE.o];exact⟨_,_,hl.heardA (hv+1)⟩
  clear hl q0 q1 q2 q3 q4 q5 q6 q7 q8 g0 g1 g2 g3 g4 g5 g6 g7 g8 gz p0 p1 p2 p3 p4 v0 v1 v2 v3 v4 pz;rintro W5 ⟨⟨A4,c4,hL5⟩,hA5,hz5⟩;have HL5:=h_ hL5;have HA5:=h_ hA5;clear hL5 hA5;first
  |guard_hyp vBP
   first
   |guard_hyp vT
    have HFL:=h_ (ew_ W5 w2.heap.size X ⟨e,n,A4,c4,s3.drop K,qA3,qc3,q3',hv⟩ HL5.o (by have:=HBA.o;omega) (by have:=HNM.o;have:=HL3.o;simp only [List.length_drop];omega) (by have:=HNM.o;dsimp only;omega) (by have:=HNM.o;have:=HLQ.o;dsimp only;omega) ⟨fun f hf=>HSM.o.1 f (List.mem_of_mem_drop hf),HSM.o.2⟩);rw [show LinkV.d ⟨e,n,A4,c4,s3.drop K,qA3,qc3,q3',hv⟩=D by rw [HDD.o];simp only [LinkV.d,List.map_drop,H3.o,H4.o]]at HFL
   |have HFL:=h_ (ew_ W5 w2.heap.size X ⟨e,n,A4,c4,s3,qA3,qc3,q3',hv⟩ HL5.o (by have:=HBA.o;omega) (by have:=HNM.o;have:=HL3.o;dsimp only;omega) (by have:=HNM.o;dsimp only;omega) (by have:=HNM.o;have:=HLQ.o;dsimp only;omega) ⟨fun f hf=>HSM.o.1 f (hf),HSM.o.2⟩);rw [show LinkV.d ⟨e,n,A4,c4,s3,qA3,qc3,q3',hv⟩=D by rw [HDD.o];simp only [LinkV.d,H3.o,H4.o]]at HFL
  |guard_hyp vBO
   first
   |guard_hyp vN
    have HFL:=h_ (ew_ W5 w2.heap.size X ⟨e,n,A4,c4,s3.drop K,qA3,qc3,q3',hv⟩ HL5.o (by have:=HBA.o;omega) (by have:=HNM.o;have:=HL3.o;simp only [List.length_drop];omega) (by have:=HNM.o;dsimp only;omega) (by have:=HNM.o;have:=HLQ.o;dsimp only;omega) ⟨fun f hf=>HSM.o.1 f (List.mem_of_mem_drop hf),HSM.o.2⟩);rw [show LinkV.d ⟨e,n,A4,c4,s3.drop K,qA3,qc3,q3',hv⟩=D by rw [HDD.o];simp only [LinkV.d,List.map_drop,H3.o,H4.o]]at HFL
   |have HFL:=h_ (ew_ W5 w2.heap.size X ⟨e,n,A4,c4,s3,qA3,qc3,q3',hv⟩ HL5.o (by have:=HBA.o;omega) (by have:=HNM.o;have:=HL3.o;dsimp only;omega) (by have:=HNM.o;dsimp only;omega) (by have:=HNM.o;have:=HLQ.o;dsimp only;omega) ⟨fun f hf=>HSM.o.1 f (hf),HSM.o.2⟩);rw [show LinkV.d ⟨e,n,A4,c4,s3,qA3,qc3,q3',hv⟩=D by rw [HDD.o];simp only [LinkV.d,H3.o,H4.o]]at HFL
  |refine(HCF.o W5 (Sl.la HOP.o HA5.o.b)).mono ?_;rintro r wf ⟨A2,c2,rfl,ho2,hb2⟩;have HAf:=h_ (HA5.o.la hb2);have HLf:=h_ (HL5.o.la hb2);have HO2:=h_ ho2;have hzf:=hb2.size;clear ho2 hb2;obtain⟨t0,t1,t2,t3,t4,k0,k1,k2,k3,k4,tz⟩:=a_ HAf.o.f;go_wp2_with fail
   obtain⟨WF,hWF⟩:=q2_ ((((((wf.setCell ⟨F,0,none⟩ (.int .i64 fk)).setCell ⟨F,1,none⟩ (.int .i64 fh)).setCell ⟨F,2,none⟩ (.int .i64 fe)).setCell ⟨F,3,none⟩ (.slice A2 fp.length c2)).setCell ⟨F,4,none⟩ (.string fs)));rw [←hWF];obtain⟨hAF,hOF⟩:=HAf.o.told HO.o ⟨fk,fh,fe,⟨A2,c2,fp⟩,fs⟩ hWF;have HAF:=h_ hAF;have HLF:=h_ (HLf.o.low hOF (by have:=HBA.o;omega) (by have:=HO.o;have:=HBA.o;omega));have HOF:=h_ (HO2.o.mv (S':=fun b=>W5.heap.size≤b∧b<WF.heap.size) (w':=WF) fun b hb=>⟨⟨hb.1,Nat.lt_of_lt_of_le hb.2 hOF.size⟩,hOF.block b hb.2 (by have:=HO.o;have:=HBA.o;omega)⟩);have hzF:=hOF.size;clear hWF hAF hOF t0 t1 t2 t3 t4 k0 k1 k2 k3 k4 tz HA5;first
   |guard_hyp vJ
    have HFL:=h_ (ew_ WF w2.heap.size X ⟨e,n,A4,c4,s3.drop K,qA3,qc3,q3',hv+1⟩ HLF.o (by have:=HBA.o;omega) (by have:=HNM.o;have:=HL3.o;simp only [List.length_drop];omega) (by have:=HNM.o;dsimp only;omega) (by have:=HNM.o;have:=HLQ.o;dsimp only;omega) ⟨fun f hf=>HSM.o.1 f (List.mem_of_mem_drop hf),HSM.o.2⟩);rw [show LinkV.d ⟨e,n,A4,c4,s3.drop K,qA3,qc3,q3',hv+1⟩=D by rw [HDD.o];simp only [LinkV.d,List.map_drop,H3.o,H4.o]]at HFL
   |have HFL:=h_ (ew_ WF w2.heap.size X ⟨e,n,A4,c4,s3,qA3,qc3,q3',hv+1⟩ HLF.o (by have:=HBA.o;omega) (by have:=HNM.o;have:=HL3.o;dsimp only;omega) (by have:=HNM.o;dsimp only;omega) (by have:=HNM.o;have:=HLQ.o;dsimp only;omega) ⟨fun f hf=>HSM.o.1 f (hf),HSM.o.2⟩);rw [show LinkV.d ⟨e,n,A4,c4,s3,qA3,qc3,q3',hv+1⟩=D by rw [HDD.o];simp only [LinkV.d,H3.o,H4.o]]at HFL
  refine HFL.o.mono ?_;rintro r w6 ⟨l5,A5,c5,L5,rfl,hd5,hp5,hL6,ho6,hu6,hsp,wm,hLm,hbm,hom,hzm⟩;first
  |guard_hyp vBP
   clear hsp;have HA6:=h_ (HA5.o.upon (by have:=HO.o;have:=HBA.o;omega) hu6)
  |have HSP:=h_ hsp;first
   |guard_hyp vBO
    have HA6:=h_ (HA5.o.upon (by have:=HO.o;have:=HBA.o;omega) hu6)
   |have HA6:=h_ (HAF.o.upon (by have:=HO.o;have:=HBA.o;omega) hu6)
  have HL6:=h_ hL6;have HD5:=h_ hd5;have HP5:=h_ hp5;have HO6:=h_ ho6;have HLM:=h_ hLm;have HBM:=h_ hbm;have HOM:=h_ hom;have hz6:=hu6.size;first
  |guard_hyp vBP
   clear hd5 hp5 hL6 ho6 hu6 hLm hbm hom HFL
  |clear hd5 hp5 hL6 ho6 hu6 hLm hbm hom HFL hsp
  obtain⟨e5,n5,sA5,sc5,s5,qA5,qc5,q5,h5⟩:=l5;obtain⟨x0,x1,x2,x3,x4,y0,y1,y2,y3,y4,hxz⟩:=a_ HL6.o.at_;obtain⟨q0,q1,q2,q3,q4,q5',q6,q7,q8,_,_,_,_,_,_,_,_,_,gz⟩:=n_ HA6.o.p;obtain⟨r0,r1,r2,r3,r4,j0,j1,j2,j3,j4,rz⟩:=a_ HA6.o.r;obtain⟨t0,t1,t2,t3,t4,k0,k1,k2,k3,k4,tz⟩:=a_ HA6.o.f
  (try dsimp only at x0 x1 x2 x3 x4)
  have z1: ¬R=X:=by have:=HO.o;have:=HBA.o;omega
  have z2: ¬X=R:=by omega
  have z3: ¬F=X:=by have:=HO.o;have:=HBA.o;omega
  have z4: ¬X=F:=by omega
  first
  |guard_hyp vBP
  |have HB0:=h_ (ir_ w6 ⟨e5,n5,sA5,sc5,s5,qA5,qc5,q5,h5⟩);unfold bareD RetPacket at HB0;dsimp only at HB0;go_wp2_with fail
   refine HB0.o.mono ?_;rintro r w7 ⟨A7,c7,rfl,ho7,hb7⟩;have HX7:=h_ ((HOM.o.la hb7).row.alloc (.cells #[.int .i64 e5,.int .i64 0,.bool true,.int .i64 h5,.int .i64 0,.int .i64 0,.int .i64 0,.slice A7 0 c7,.string ⟨#[]⟩] 48));have HO7:=h_ ho7;have HB7:=h_ hb7;have hz7:=hb7.size;have HLEN:=h_ (show L5.length≤8 from by have h1:=congrArg List.length HP5.o;have h2:=co_ D;rw [List.length_map,h2.1]at h1;omega);have hlen:=HLEN.o;have hzmw:=HBM.o.size;clear ho7 hb7 HB0;go_wp2_with(refine bb_ rfl ?_)
   refine⟨?_⟩;refine l_ _ rfl _ _ 90 rfl wm.heap.size 48 i0 (.agg #[.int .i64 0,.int .i64 0,.bool false,.int .i64 0,.int .i64 0,.int .i64 0,.int .i64 0,.slice none 0 0,.string ⟨#[]⟩]) 9 96 Tryz.underlying90 hi0 hz0 hz1 hz2 rfl (by decide) _ _ _ rfl HX7.o (fun _=>True) _ _ _ _ rfl (bl_ (by rfl) (by simp)) ?c1 ?c2 ?c3 ?c4 ?_
   case c1=>intro u hu;simp at hu;rcases hu with rfl | rfl | rfl | rfl | rfl | rfl | rfl | rfl | rfl <;> rfl
   case c2=>unfold maxLen;omega
   case c3=>omega
   case c4=>simp;omega
   intro A8 c8 w8 hown' hgrow hat;have hP:=RowOwn.push (f:=PacketV.cells) (op:=PacketV.op) (x:=⟨e5,0,true,h5,⟨0,0,0,⟨A7,c7,[]⟩,⟨#[]⟩⟩⟩) HOM.o hzmw HB7.o HO7.o hgrow hown' hat;have hF:=bm_ HBM.o HB7.o hgrow (fun g hg=>(HOM.o.row.lt g hg).1);have hU:Upon w2.heap.size X w6 w8:=(Upon.of_below (bAlloc HB7.o _) (by have:=HBA.o;omega)).trans (Upon.grown hgrow (by have:=HBA.o;simp;omega) (fun g hg=>by have:=(HOM.o.row.lt g hg).1;have:=HBA.o;omega));have HA8:=h_ (HA6.o.upon (by have:=HO.o;have:=HBA.o;omega) hU);have HL8:=h_ (HLM.o.la hF);have HP8:=h_ hP;first
   |guard_hyp vBO
   |have HF8:=h_ (show OpIn (fun b=>w2.heap.size≤b∧b<w8.heap.size) w8 A2 fp from HOF.o.mv fun b hb=>by
     have hs1:=hF.size;have hs2:=hU.size;have hb6:=HSP.o b hb.2 (by omega) (fun e1=>by have:=(HLF.o.own.lt e1).2;have:=HL5.o.own.lt (g:=b) e1;omega);exact⟨⟨by have:=HBA.o;omega,by omega⟩,((hgrow.block b (by simp;omega) (fun e1=>by have:=(HOM.o.row.lt b e1.symm).1;omega)).trans ((bAlloc HB7.o _).block b (by omega))).trans hb6⟩)
   have HD8:=h_ (show(L5++ [(⟨e5,0,true,h5,⟨0,0,0,⟨A7,c7,[]⟩,⟨#[]⟩⟩⟩:PacketV)]).map PacketV.d=fillP D++ [bareX D] by
    have h1:=HD5.o;simp only [LinkV.d,fillL,LinkD.mk.injEq]at h1;rw [List.map_append,HP5.o];unfold bareX;rw [←h1.1,←h1.2.2.2.2];rfl)
   have hz8:=hU.size;have HZ8:=h_ hF.size;clear hown' hgrow hat hP hF hU x0 x1 x2 x3 x4 y0 y1 y2 y3 y4 hxz r0 r1 r2 r3 r4 j0 j1 j2 j3 j4 rz t0 t1 t2 t3 t4 k0 k1 k2 k3 k4 tz q0 q1 q2 q3 q4 q5' q6 q7 q8 gz;obtain⟨x0,x1,x2,x3,x4,y0,y1,y2,y3,y4,hxz⟩:=a_ HL8.o.at_;obtain⟨r0,r1,r2,r3,r4,j0,j1,j2,j3,j4,rz⟩:=a_ HA8.o.r;obtain⟨t0,t1,t2,t3,t4,k0,k1,k2,k3,k4,tz⟩:=a_ HA8.o.f
   (try dsimp only at x0 x1 x2 x3 x4 t0 t1 t2 t3 t4)
  go_wp2_with fail
  go_region
  go_wp2_with fail
  first
  |guard_hyp vBP
   obtain⟨W9,hW9⟩:=q2_ (((((((((((w6).setCell ⟨R,0,none⟩ (.int .i64 e5)).setCell ⟨R,1,none⟩ (.int .i64 n5)).setCell ⟨R,2,none⟩ (.slice sA5 s5.length sc5)).setCell ⟨R,3,none⟩ (.slice qA5 q5.length qc5)).setCell ⟨R,4,none⟩ (.int .i64 h5)).setCell ⟨F,0,none⟩ (.int .i64 0)).setCell ⟨F,1,none⟩ (.int .i64 0)).setCell ⟨F,2,none⟩ (.int .i64 0)).setCell ⟨F,3,none⟩ (.slice none 0 0)).setCell ⟨F,4,none⟩ (.string ⟨#[]⟩));skip
  |guard_hyp vBO
   obtain⟨W9,hW9⟩:=q2_ (((((((((((w8).setCell ⟨R,0,none⟩ (.int .i64 e5)).setCell ⟨R,1,none⟩ (.int .i64 n5)).setCell ⟨R,2,none⟩ (.slice sA5 s5.length sc5)).setCell ⟨R,3,none⟩ (.slice qA5 q5.length qc5)).setCell ⟨R,4,none⟩ (.int .i64 h5)).setCell ⟨F,0,none⟩ (.int .i64 0)).setCell ⟨F,1,none⟩ (.int .i64 0)).setCell ⟨F,2,none⟩ (.int .i64 0)).setCell ⟨F,3,none⟩ (.slice none 0 0)).setCell ⟨F,4,none⟩ (.string ⟨#[]⟩));skip
  |obtain⟨W9,hW9⟩:=q2_ (((((((((((w8).setCell ⟨R,0,none⟩ (.int .i64 e5)).setCell ⟨R,1,none⟩ (.int .i64 n5)).setCell ⟨R,2,none⟩ (.slice sA5 s5.length sc5)).setCell ⟨R,3,none⟩ (.slice qA5 q5.length qc5)).setCell ⟨R,4,none⟩ (.int .i64 h5)).setCell ⟨F,0,none⟩ (.int .i64 fk)).setCell ⟨F,1,none⟩ (.int .i64 fh)).setCell ⟨F,2,none⟩ (.int .i64 fe)).setCell ⟨F,3,none⟩ (.slice A2 fp.length c2)).setCell ⟨F,4,none⟩ (.string fs))
  rw [←hW9];obtain⟨WZ,hWZ⟩:=q2_ (W9.drew);rw [←hWZ];first
  |guard_hyp vBP
   obtain⟨a1,a2,a3⟩:=by_ (bv_ HA6.o.r HA6.o.f m1 hW9) hWZ;have hB9:=HA6.o.b.trans (a3.below (base:=w.heap.size) (by have:=HO.o;omega) (by have:=HO.o;omega) HA6.o.b.size)
  |obtain⟨a1,a2,a3⟩:=by_ (bv_ HA8.o.r HA8.o.f m1 hW9) hWZ;have hB9:=HA8.o.b.trans (a3.below (base:=w.heap.size) (by have:=HO.o;omega) (by have:=HO.o;omega) HA8.o.b.size)
  clear hW9 hWZ r0 r1 r2 r3 r4 t0 t1 t2 t3 t4;obtain⟨r0,r1,r2,r3,r4,_,_,_,_,_,_⟩:=a_ a1;obtain⟨t0,t1,t2,t3,t4,_,_,_,_,_,_⟩:=a_ a2;first
  |guard_hyp vBP
   refine bodyPost_ret (v:= .tuple #[(⟨e5,n5,sA5,sc5,s5,qA5,qc5,q5,h5⟩:LinkV).val,frameV 0 0 0 none 0 0 ⟨#[]⟩,.bool false,.slice A5 L5.length c5,.int .i64 0]) (by simp [results,Tryz.results73,go_sem,r0,r1,r2,r3,r4,t0,t1,t2,t3,t4]) rfl ?_;exact⟨⟨e5,n5,sA5,sc5,s5,qA5,qc5,q5,h5⟩,none,0,A5,c5,L5,rfl,HD5.o,HP5.o,HL6.o.inS_two a3 (by have:=HBA.o;have:=HO.o;omega) (by have:=HBA.o;omega) (by have:=HBA.o;have:=HO.o;omega),Sl.nil,PacketsOwn.inS_two HO6.o a3 (by have:=HBA.o;have:=HO.o;omega) (by have:=HBA.o;omega) (by have:=HBA.o;have:=HO.o;omega),hB9⟩
  |guard_hyp vBO
   refine bodyPost_ret (v:= .tuple #[(⟨e5,n5,sA5,sc5,s5,qA5,qc5,q5,h5⟩:LinkV).val,frameV 0 0 0 none 0 0 ⟨#[]⟩,.bool false,.slice A8 (L5.length+1) c8,.int .i64 0]) (by simp [results,Tryz.results73,go_sem,r0,r1,r2,r3,r4,t0,t1,t2,t3,t4]) rfl ?_;exact⟨⟨e5,n5,sA5,sc5,s5,qA5,qc5,q5,h5⟩,none,0,A8,c8,L5++ [⟨e5,0,true,h5,⟨0,0,0,⟨A7,c7,[]⟩,⟨#[]⟩⟩⟩],by simp,HD5.o,HD8.o,HL8.o.inS_two a3 (by have:=HBA.o;have:=HO.o;omega) (by have:=HBA.o;omega) (by have:=HBA.o;have:=HO.o;omega),Sl.nil,PacketsOwn.inS_two HP8.o a3 (by have:=HBA.o;have:=HO.o;omega) (by have:=HBA.o;omega) (by have:=HBA.o;have:=HO.o;omega),hB9⟩
  |refine bodyPost_ret (v:= .tuple #[(⟨e5,n5,sA5,sc5,s5,qA5,qc5,q5,h5⟩:LinkV).val,frameV fk fh fe A2 fp.length c2 fs,.bool true,.slice A8 (L5.length+1) c8,.int .i64 0]) (by simp [results,Tryz.results73,go_sem,r0,r1,r2,r3,r4,t0,t1,t2,t3,t4]) rfl ?_;exact⟨⟨e5,n5,sA5,sc5,s5,qA5,qc5,q5,h5⟩,A2,c2,A8,c8,L5++ [⟨e5,0,true,h5,⟨0,0,0,⟨A7,c7,[]⟩,⟨#[]⟩⟩⟩],by simp,HD5.o,HD8.o,HL8.o.inS_two a3 (by have:=HBA.o;have:=HO.o;omega) (by have:=HBA.o;omega) (by have:=HBA.o;have:=HO.o;omega),(HF8.o.mv fun b hb=>⟨⟨by have:=hb.1;have:=HBA.o;have:=HO.o;omega,Nat.lt_of_lt_of_le hb.2 a3.size⟩,a3.block b hb.2 (by have:=HBA.o;have:=HO.o;omega) (by have:=HBA.o;omega)⟩),PacketsOwn.inS_two HP8.o a3 (by have:=HBA.o;have:=HO.o;omega) (by have:=HBA.o;omega) (by have:=HBA.o;have:=HO.o;omega),hB9⟩)
 ),P):=⟨@q6_⟩
 exact m210_
 ),P):=⟨@q6_⟩
 exact m86_
 ),P):=⟨@q6_⟩
 exact m169_
 ),P):=⟨@q6_⟩
 exact m119_):P:=h
theorem m86_{P:Prop}(h:P:=by
 go_wp2_with fail
 rw [HW.o,HE1.o,HE2.o,HE3.o];refine(HC.o _ (HT.o.la HA0.o.b) (HI.o.la HA0.o.b)).mono ?_;rintro r w1 ⟨rfl,hb1⟩;have HA1:=h_ (HA0.o.la hb1);clear hb1;obtain⟨p0,p1,p2,p3,p4,v0,v1,v2,v3,v4,pz⟩:=a_ HA1.o.l;obtain⟨q0,q1,q2,q3,q4,q5,q6,q7,q8,g0,g1,g2,g3,g4,g5,g6,g7,g8,gz⟩:=n_ HA1.o.p;obtain⟨r0,r1,r2,r3,r4,j0,j1,j2,j3,j4,rz⟩:=a_ HA1.o.r;obtain⟨t0,t1,t2,t3,t4,k0,k1,k2,k3,k4,tz⟩:=a_ HA1.o.f;go_wp2_with fail
 refine(HF.o _ (HT.o.la HA1.o.b) (Sl.la HOP.o HA1.o.b)).mono ?_;rintro r w2 ⟨rfl,hb2⟩;have HA2:=h_ (HA1.o.la hb2);clear hb2 p0 p1 p2 p3 p4 v0 v1 v2 v3 v4 pz q0 q1 q2 q3 q4 q5 q6 q7 q8 g0 g1 g2 g3 g4 g5 g6 g7 g8 gz r0 r1 r2 r3 r4 j0 j1 j2 j3 j4 rz t0 t1 t2 t3 t4 k0 k1 k2 k3 k4 tz;obtain⟨p0,p1,p2,p3,p4,v0,v1,v2,v3,v4,pz⟩:=a_ HA2.o.l;obtain⟨q0,q1,q2,q3,q4,q5,q6,q7,q8,g0,g1,g2,g3,g4,g5,g6,g7,g8,gz⟩:=n_ HA2.o.p;obtain⟨r0,r1,r2,r3,r4,j0,j1,j2,j3,j4,rz⟩:=a_ HA2.o.r;obtain⟨t0,t1,t2,t3,t4,k0,k1,k2,k3,k4,tz⟩:=a_ HA2.o.f;go_wp2_with fail
 refine(HOW.o _ (HI.o.la HA2.o.b)).mono ?_;rintro r w3 ⟨⟨e3,n3,sA3,sc3,s3,qA3,qc3,q3',h3⟩,mid,rfl,hd3,hmid,hS3,hQ3,hb3⟩;have hd3':=hd3;simp only [LinkV.d,LinkD.mk.injEq]at hd3';obtain⟨d1,d2,d3,d4,d5⟩:=hd3';have d1:=d1.symm;have d2:=d2.symm;have d5:=d5.symm;subst d1 d2 d5;have hl3:s3.length=s.length:=by have:=congrArg List.length d3;simpa using this
 have hl4:q3'.length=q.length:=by have:=congrArg List.length d4;simpa using this
 have hz3:=hb3.size;obtain⟨W4,hW4⟩:=q2_ (w3.alloc (.cells #[.int .i64 e,.int .i64 n,.slice sA3 s3.length sc3,.slice qA3 q3'.length qc3,.int .i64 hv] 58));have hb4:Below w3.heap.size w3 W4:=by rw [hW4];exact bA_
 exact k86_.o _):P:=h
theorem m119_{P:Prop}(h:P:=by
 obtain⟨W3,hW3⟩:=q2_ (W2.alloc (.cells #[.int .i64 0,.int .i64 0,.slice none 0 0,.slice none 0 0,.int .i64 0] 58));obtain⟨WA,hWA⟩:=q2_ (W3.alloc (.cells #[.int .i64 0,.int .i64 0,.int .i64 0,.slice none 0 0,.string ⟨#[]⟩] 46));have g1:W1.heap.size=w.heap.size+1:=by rw [hW1];simp
 have g2:W2.heap.size=W1.heap.size+1:=by rw [hW2];simp
 have g3:W3.heap.size=W2.heap.size+1:=by rw [hW3];simp
 have g4:WA.heap.size=W3.heap.size+1:=by rw [hWA];simp
 have k1:Below w.heap.size w W1:=by rw [hW1];exact bA_
 have k2:Below W1.heap.size W1 W2:=by rw [hW2];exact bA_
 have k3:Below W2.heap.size W2 W3:=by rw [hW3];exact bA_
 have k4:Below W3.heap.size W3 WA:=by rw [hWA];exact bA_
 have k34:=bThen k3 k4;have k24:=bThen k2 k34;exact k119_.o _):P:=h
theorem m169_{P:Prop}(h:P:=by
 obtain⟨Q,hQ⟩:=q2_ (W1.heap.size);obtain⟨R,hR⟩:=q2_ (W2.heap.size);obtain⟨F,hF⟩:=q2_ (W3.heap.size);have HE1:=h_ (show w.heap.size+1+1+1=F by omega);have HE2:=h_ (show w.heap.size+1+1=R by omega);have HE3:=h_ (show w.heap.size+1=Q by omega);have hord:w.heap.size<Q∧Q<R∧R<F:=by omega
 have HO:=h_ hord;have hFA:F<WA.heap.size:=by omega
 have m1: ¬R=F:=by omega
 have m2: ¬F=R:=by omega
 rw [←hQ,←hR,←hF]at HA0;clear hQ hR hF k1 k2 k3 k4 k34 k24 g1 g2 g3 g4 hWA hW3 hW2 hW1 hord hi hT hm hk hf hfm he;exact k169_.o _):P:=h
theorem m197_{P:Prop}(h:P:=by
 refine⟨h.prow.1,?_⟩;rcases h.prow.2 with hn | ⟨g',cap,cur,e1,h1,hg',rest⟩
 ·exact .inl hn
 ·have hne:g'≠g:=fun e=>hgP (by rw [e1,e];rfl);exact .inr ⟨g',cap,cur,e1,h1,(tt.block g' (Array.getElem?_eq_some_iff.1 hg').1 hne (by simpa using hne)).trans hg',rest⟩):P:=h
theorem m210_{P:Prop}(h:P:=by
 have HNM:=h_ (show((s.length:Int)<n∧n≤1048576)∧s.length≤8∧q.length≤1048576∧(0≤hv∧hv≤1048576)from⟨⟨HK.o.2.1.2.1,HK.o.1.2.1.2⟩,HK.o.2.1.1,HM.o.ql,HK.o.1.2.2⟩);have HSM:=h_ (show(∀f∈s3,f.o.ps.length≤1048576)∧ ∀f∈q3',f.o.ps.length≤1048576 from
  ⟨fun f hf=>(be_ d3 HM.o.s f hf).op.len,fun f hf=>(be_ d4 HM.o.q f hf).op.len⟩)
 have H3:=h_ d3;have H4:=h_ d4;have HL3:=h_ hl3;have HLQ:=h_ hl4;exact k210_.o _):P:=h
theorem m245_{P:Prop}(h:P:=by
 have hb:b≠g:=fun e=>k.2.2.2.1 (by rw [hQ,e]);refine⟨⟨⟨k.1.1,by rw [hz];exact k.1.2⟩,k.2.1,k.2.2.1,?_,k.2.2.2.2⟩,tt.block b k.1.2 hb (by simpa using hb)⟩;rw [hlen];exact k.2.2.2.1):P:=h
theorem m250_{P:Prop}(h:P:=by
 rcases HL4.own.at_ with⟨_,hc0⟩ | ⟨g,o,hg,_⟩
 ·dsimp only at hc0;omega
 ·exact⟨g,o,hg⟩):P:=h
theorem m276_{P:Prop}(h:P:=by
 rw [HXE.o];first
  | exact⟨_,_,(hl.ackA K hcap.1 (.inl ⟨by assumption,rfl,rfl⟩))⟩
  | exact⟨_,_,(hl.ackA K hcap.1 (.inr ⟨by assumption,by simp [Addr.add],rfl⟩))⟩):P:=h
theorem m277_{P:Prop}(h:P:=by
 obtain⟨x,_,rfl⟩:=List.mem_map.1 hr;exact SideV.cells_len x):P:=h
theorem m280_{P:Prop}(h:P:=by
 unfold packetFault at he;by_cases g:(p.ep<0∨1048576<p.ep)∨(p.nu<0∨1048576<p.nu)∨(p.ak<0∨1048576<p.ak)
 ·rw [if_pos g]at he;cases he
 ·omega):P:=h
theorem fg_(n:Nat)(u:Value): ∀(M:List (List Value)) (_: ∀r∈M,r.length=n) (k j:Nat) (hk:k<M.length) (_:j<n),M.flatten.set (k*n+j) u=(M.set k (M[k].set j u)).flatten
 | [],_,k,_,hk,_=>absurd hk (by simp)
 | r :: M,h,0,j,_,hj=>by
  have hr:=h r (by simp);simp only [List.flatten_cons,Nat.zero_mul,Nat.zero_add,List.set_cons_zero,List.getElem_cons_zero];rw [List.set_append_left _ _ (by omega)]
 | r :: M,h,k+1,j,hk,hj=>by
  have hr:=h r (by simp);have ih:=fg_ n u M (fun q hq=>h q (by simp [hq])) k j (by simpa using hk) hj;have he:(k+1)*n+j=n+(k*n+j):=by rw [Nat.add_mul];omega
  simp only [List.flatten_cons,List.set_cons_succ,List.getElem_cons_succ];rw [List.set_append_right _ _ (by omega),←ih,he];congr 2;omega
theorem ce_(n:Nat)(u:Value)(M:List (List Value))(h: ∀r∈M,r.length=n)(k j:Nat)(hk:k<M.length)(hj:j<n)(r:List Value)(hr:r.length=n):(M.set k r).flatten.set (k*n+j) u=(M.set k (r.set j u)).flatten:=by
 rw [fg_ n u (M.set k r) (fun q hq=>by
  rcases List.mem_or_eq_of_mem_set hq with hm | rfl
  · exact h q hm
  · exact hr) k j (by simpa using hk) hj]
 rw [List.set_set,List.getElem_set_self]
theorem SideV.InS.link{S:Nat→Prop}{w:World}{x:SideV}(h:x.InS S w):x.k.InS S w:=⟨h.s,h.so,h.q,h.qo⟩
theorem cl_{w:World}{base base':Nat}{e e':TypeId}{size size' n n':Nat}{v v':Value}{xs xs':List Value}(h:w.ownsRow base e size v n xs)(h':w.ownsRow base' e' size' v' n' xs')(hT:e≠e'){b:Nat}(hb:v.ownBlock=some b):v'.ownBlock≠some b:=by
 rcases h.2 with⟨rfl,_⟩ | ⟨g,cap,cur,rfl,_,hg,_⟩
 ·simp [Value.ownBlock]at hb
 ·simp only [Value.ownBlock,Option.some.injEq]at hb;subst hb;exact s_ h' hg hT
section
variable {T:TypeId}{W W':World}{base X:Nat}{n:NodeV}{A:Option Addr}{c:Nat}{L:List PostV}{R:Value}
theorem cx_{base:Nat}{e:TypeId}{size k:Nat}{v:Value}{xs:List Value}(h:W.ownsRow base e size v k xs)(hb:Below W.heap.size W W'):W'.ownsRow base e size v k xs:=by
 refine⟨h.1,?_⟩;rcases h.2 with hn | ⟨g,cap,cur,e1,h1,hg,rest⟩
 ·exact .inl hn
 ·exact .inr ⟨g,cap,cur,e1,h1,(hb.block g (Array.getElem?_eq_some_iff.1 hg).1).trans hg,rest⟩
theorem Sl.of_own2{base:Nat}{e:TypeId}{size k c:Nat}{A:Option Addr}{xs:List Value}(h:W.ownsRow base e size (.slice A k c) k xs):Sl (fun b=>(Value.slice A k c).ownBlock=some b∧base≤b∧b<W.heap.size) W size A k xs:=by
 refine⟨h.1,fun hn=>?_⟩;obtain⟨g,cap,hv,hb,hlt⟩:=h.form hn;have hA:A=some ⟨g,0,none⟩:=by injection hv
 subst hA;refine⟨g,0,rfl,⟨rfl,hb,hlt⟩,fun j u hu=>?_⟩;have:=h.cells (g:=g) rfl j u hu;rwa [Go.WideShapes.add_plain]at this
end
def NodeV.link (n:NodeV) (s:Nat) (l:LinkV):NodeV:=⟨n.me,n.ep,n.up,n.rd,n.t,n.sA,n.sc,n.S.set s ⟨(n.S.getD s default).p,(n.S.getD s default).j,(n.S.getD s default).s,(n.S.getD s default).h,(n.S.getD s default).A,(n.S.getD s default).c,(n.S.getD s default).L,l⟩,n.uA,n.uc,n.U,n.mA,n.mc,n.M⟩
def FreeX (W:World) (base X:Nat) (P Q:Option Nat) (ex:List (Option Nat)) (b:Nat):Prop:=(base≤b∧b<W.heap.size)∧b≠X∧P≠some b∧Q≠some b∧ ∀r∈ex,r≠some b
structure BusyX (T:TypeId) (W:World) (base X:Nat) (n:NodeV) (A:OA_) (c:Nat) (L:List PostV) (R:Value) (ex:List (Option Nat)):Prop where
 exl: ∀r∈ex,∀y,r=some y→(y<W.heap.size∧y≠X)∧(Value.slice A L.length c).ownBlock≠some y∧(Value.slice n.sA n.S.length n.sc).ownBlock≠some y
 lo:base≤X
 blk:W.heap[X]?=some (.cells (turnCells n (.slice A L.length c) R) T (0,0))
 prow:W.ownsRow (X+1) 79 10 (.slice A L.length c) L.length (L.flatMap PostV.cells)
 srow:W.ownsRow base 60 10 (.slice n.sA n.S.length n.sc) n.S.length (n.S.flatMap SideV.cells)
 pops: ∀x∈L,OpIn (fun b=>X+1≤b∧FreeX W base X (Value.slice A L.length c).ownBlock (Value.slice n.sA n.S.length n.sc).ownBlock ex b) W x.p.f.o.A x.p.f.o.ps
 side: ∀x∈n.S,x.InS (FreeX W base X (Value.slice A L.length c).ownBlock (Value.slice n.sA n.S.length n.sc).ownBlock ex) W
section
variable {T:TypeId}{W W':World}{base X:Nat}{n:NodeV}{A:Option Addr}{c:Nat}{L:List PostV}{R:Value}{ex:List (Option Nat)}
theorem BusyX.lt(h:BusyX T W base X n A c L R ex):X<W.heap.size:=(Array.getElem?_eq_some_iff.1 h.blk).1
theorem FreeX.la{P Q:Option Nat}{ex:List (Option Nat)}{b:Nat}(hb:Below W.heap.size W W')(h:FreeX W base X P Q ex b):FreeX W' base X P Q ex b∧W'.heap[b]?=W.heap[b]?:=
 ⟨⟨⟨h.1.1,Nat.lt_of_lt_of_le h.1.2 hb.size⟩,h.2⟩,hb.block b h.1.2⟩
theorem BusyX.la(h:BusyX T W base X n A c L R ex)(hb:Below W.heap.size W W'):BusyX T W' base X n A c L R ex:=
 ⟨fun r hr y hy=>⟨⟨Nat.lt_of_lt_of_le (h.exl r hr y hy).1.1 hb.size,(h.exl r hr y hy).1.2⟩,(h.exl r hr y hy).2⟩,h.lo,(hb.block _ h.lt).trans h.blk,cx_ h.prow hb,cx_ h.srow hb,fun x hx=>(h.pops x hx).mv fun _ k=>⟨⟨k.1,(k.2.la hb).1⟩,(k.2.la hb).2⟩,
  fun x hx=>(h.side x hx).mv fun _ k=>k.la hb⟩
section
variable(hT:T≠60) (h:BusyX T W base X n A c L R ex)
include hT h
theorem BusyX.work:WorkAt T W X n A c L R:=by
 refine⟨h.blk,⟨h.prow,fun x hx=>(h.pops x hx).mv fun b k=>⟨⟨⟨k.1,k.2.1.2⟩,k.2.2.2.1⟩,rfl⟩⟩,?_⟩;have hQX:(Value.slice n.sA n.S.length n.sc).ownBlock≠some X:=s_ h.srow h.blk hT;refine(Sl.of_own2 h.srow).mv fun b k=>⟨⟨k.2.2,fun e=>hQX (e ▸ k.1),cl_ h.srow h.prow (by decide) k.1⟩,rfl⟩
theorem BusyX.posted{A':Option Addr}{c':Nat}{K:List PacketV}{who:Int}(hp:PostedTo T W X n A L.length c (L++K.map (PostV.mk who)) R A' c' W')(hK: ∀p∈K,OpIn (fun b=>X+1≤b∧FreeX W base X (Value.slice A L.length c).ownBlock (Value.slice n.sA n.S.length n.sc).ownBlock ex b) W p.f.o.A p.f.o.ps):BusyX T W' base X n A' c' (L++K.map (PostV.mk who)) R ex:=by
 have hf: ∀b,FreeX W base X (Value.slice A L.length c).ownBlock (Value.slice n.sA n.S.length n.sc).ownBlock ex b→FreeX W' base X (Value.slice A' (L++K.map (PostV.mk who)).length c').ownBlock (Value.slice n.sA n.S.length n.sc).ownBlock ex b∧W'.heap[b]?=W.heap[b]?:=fun b k=>by
  have q:=hp.apart ⟨k.1.2,k.2.1,k.2.2.1⟩;exact⟨⟨⟨k.1.1,q.1.1⟩,k.2.1,q.1.2.2,k.2.2.2⟩,q.2⟩
 have hs:W'.ownsRow base 60 10 (.slice n.sA n.S.length n.sc) n.S.length (n.S.flatMap SideV.cells):=by
  refine⟨h.srow.1,?_⟩;rcases h.srow.2 with hn | ⟨g,cap,cur,e1,h1,hg,rest⟩
  ·exact .inl hn
  ·have hQ:(Value.slice n.sA n.S.length n.sc).ownBlock=some g:=(by rw [e1];rfl);have hgX:g≠X:=fun e=>s_ h.srow h.blk hT (by rw [hQ,e]);exact .inr ⟨g,cap,cur,e1,h1,(hp.turned.block g (Array.getElem?_eq_some_iff.1 hg).1 hgX (fun e=>cl_ h.srow h.prow (by decide) hQ e.symm)).trans hg,rest⟩
 refine⟨fun r hr y hy=>?_,h.lo,hp.at_.blk,hp.at_.posts.row,hs,fun x hx=>?_,fun x hx=>(h.side x hx).mv hf⟩
 ·have h9:=h.exl r hr y hy;have q:=hp.apart (b:=y) ⟨h9.1.1,h9.1.2,h9.2.1⟩;exact⟨⟨q.1.1,h9.1.2⟩,q.1.2.2,h9.2.2⟩
 rcases List.mem_append.1 hx with hx | hx
 ·exact(h.pops x hx).mv fun b k=>⟨⟨k.1,(hf b k.2).1⟩,(hf b k.2).2⟩
 ·obtain⟨p,hp1,rfl⟩:=List.mem_map.1 hx;exact(hK p hp1).mv fun b k=>⟨⟨k.1,(hf b k.2).1⟩,(hf b k.2).2⟩
end
end
theorem BusyX.setLink{T:TypeId}{W:World}{base X:Nat}{n:NodeV}{A:Option Addr}{c:Nat}{L:List PostV}{R:Value}{ex:List (Option Nat)}(hT:T≠60)(h:BusyX T W base X n A c L R ex){s:Nat}(hs:s<n.S.length){g:Nat}(hg:n.sA=some ⟨g,0,none⟩)(l:LinkV)
 (hl:l.InS (FreeX W base X (Value.slice A L.length c).ownBlock (Value.slice n.sA n.S.length n.sc).ownBlock ex) W):
 BusyX T (((((W.setCell ⟨g,s*10+5,none⟩ (.int .i64 l.e)).setCell ⟨g,s*10+6,none⟩ (.int .i64 l.n)).setCell ⟨g,s*10+7,none⟩ (.slice l.sA l.s.length l.sc)).setCell ⟨g,s*10+8,none⟩ (.slice l.qA l.q.length l.qc)).setCell ⟨g,s*10+9,none⟩ (.int .i64 l.h)) base X (n.link s l) A c L R ex:=by
 have hlen:(n.link s l).S.length=n.S.length:=by simp [NodeV.link]
 have hQ:(Value.slice n.sA n.S.length n.sc).ownBlock=some g:=by rw [hg];rfl
 have hr:=h.srow;rw [hg]at hr;obtain⟨r1,t1⟩:=hr.stored (s*10+5) (.int .i64 l.e);obtain⟨r2,t2⟩:=r1.stored (s*10+6) (.int .i64 l.n);obtain⟨r3,t3⟩:=r2.stored (s*10+7) (.slice l.sA l.s.length l.sc);obtain⟨r4,t4⟩:=r3.stored (s*10+8) (.slice l.qA l.q.length l.qc);obtain⟨r5,t5⟩:=r4.stored (s*10+9) (.int .i64 l.h);have tt:=(((Turned.of_grown (B:=g) t1).trans (Turned.of_grown t2) (.inl rfl)).trans (Turned.of_grown t3) (.inl rfl)).trans (Turned.of_grown t4) (.inl rfl) |>.trans (Turned.of_grown t5) (.inl rfl)
 have hz:((((((W.setCell ⟨g,s*10+5,none⟩ (.int .i64 l.e)).setCell ⟨g,s*10+6,none⟩ (.int .i64 l.n)).setCell ⟨g,s*10+7,none⟩ (.slice l.sA l.s.length l.sc)).setCell ⟨g,s*10+8,none⟩ (.slice l.qA l.q.length l.qc)).setCell ⟨g,s*10+9,none⟩ (.int .i64 l.h)).heap.size)=W.heap.size:=by simp [World.setCell]
 generalize(((((W.setCell ⟨g,s*10+5,none⟩ (.int .i64 l.e)).setCell ⟨g,s*10+6,none⟩ (.int .i64 l.n)).setCell ⟨g,s*10+7,none⟩ (.slice l.sA l.s.length l.sc)).setCell ⟨g,s*10+8,none⟩ (.slice l.qA l.q.length l.qc)).setCell ⟨g,s*10+9,none⟩ (.int .i64 l.h))=W5 at*;have hgX:g≠X:=fun e=>s_ h.srow h.blk hT (by rw [hQ,e]);have hgP:(Value.slice A L.length c).ownBlock≠some g:=cl_ h.srow h.prow (by decide) hQ;have hf: ∀b,FreeX W base X (Value.slice A L.length c).ownBlock (Value.slice n.sA n.S.length n.sc).ownBlock ex b→FreeX W5 base X (Value.slice A L.length c).ownBlock (Value.slice (n.link s l).sA (n.link s l).S.length (n.link s l).sc).ownBlock ex b∧W5.heap[b]?=W.heap[b]?:=fun b k=>by
  exact m245_
 have hrow:W5.ownsRow base 60 10 (.slice (n.link s l).sA (n.link s l).S.length (n.link s l).sc) (n.link s l).S.length ((n.link s l).S.flatMap SideV.cells):=by
  rw [hlen];show W5.ownsRow base 60 10 (.slice n.sA n.S.length n.sc) n.S.length ((n.link s l).S.flatMap SideV.cells);rw [hg];have e:(((((n.S.flatMap SideV.cells).set (s*10+5) (.int .i64 l.e)).set (s*10+6) (.int .i64 l.n)).set (s*10+7) (.slice l.sA l.s.length l.sc)).set (s*10+8) (.slice l.qA l.q.length l.qc)).set (s*10+9) (.int .i64 l.h)=(n.link s l).S.flatMap SideV.cells:=by
   have hM: ∀r∈n.S.map SideV.cells,r.length=10:=fun r hr=>by
    exact m277_
   have hsM:s<(n.S.map SideV.cells).length:=(by simpa using hs);rw [List.flatMap_def,List.flatMap_def,fg_ 10 _ _ hM s 5 hsM (by omega),ce_ 10 _ _ hM s 6 hsM (by omega) _ (by simp [SideV.cells_len]),ce_ 10 _ _ hM s 7 hsM (by omega) _ (by simp [SideV.cells_len]),ce_ 10 _ _ hM s 8 hsM (by omega) _ (by simp [SideV.cells_len]),ce_ 10 _ _ hM s 9 hsM (by omega) _ (by simp [SideV.cells_len])];unfold NodeV.link;dsimp only;rw [List.map_set];congr 2;rw [List.getElem_map,List.getD_eq_getElem?_getD,List.getElem?_eq_getElem hs];rfl
  rw [←e];exact r5
 refine⟨fun r hr y hy=>?_,h.lo,?_,?_,hrow,fun x hx=>(h.pops x hx).mv fun b k=>⟨⟨k.1,(hf b k.2).1⟩,(hf b k.2).2⟩,fun x hx=>?_⟩
 ·have h9:=h.exl r hr y hy;rw [hz,hlen];exact h9
 ·have:=(tt.block X h.lt (fun e=>hgX e.symm) (by simpa using fun e=>hgX e.symm)).trans h.blk;rw [show turnCells (n.link s l) (.slice A L.length c) R=turnCells n (.slice A L.length c) R by simp only [turnCells,hlen];rfl];exact this
 ·exact m197_
 ·have hx':x∈n.S.set s ⟨(n.S.getD s default).p,(n.S.getD s default).j,(n.S.getD s default).s,(n.S.getD s default).h,(n.S.getD s default).A,(n.S.getD s default).c,(n.S.getD s default).L,l⟩:=hx;rcases List.mem_or_eq_of_mem_set hx' with hm | rfl
  ·exact(h.side x hm).mv hf
  ·have hd:=h.side (n.S.getD s default) (by rw [List.getD_eq_getElem?_getD,List.getElem?_eq_getElem hs];exact List.getElem_mem hs);have hl':=hl.mv hf;exact⟨hd.ops.mv hf,fun o ho=>(hd.op o ho).mv hf,hl'.s,hl'.so,hl'.q,hl'.qo⟩
theorem NodeFree.low{w:World}{base base':Nat}{n:NodeV}(h:NodeFree w base n)(hb:base'≤base):NodeFree w base' n:=
 ⟨cf_ h.mrow hb,cf_ h.srow hb,cf_ h.urow hb,fun x hx=>(h.side x hx).mv fun _ k=>⟨⟨⟨Nat.le_trans hb k.1.1,k.1.2⟩,k.2⟩,rfl⟩,fun o ho=>(h.undo o ho).mv fun _ k=>⟨⟨⟨Nat.le_trans hb k.1.1,k.1.2⟩,k.2⟩,rfl⟩⟩
def RetWorkE (w:World) (d:NodeD) (e:Ending) (w':World):Prop:=
 ∃(X:Nat) (n:NodeV) (W2:World),e= .returned (.tuple #[.pointer (some ⟨X,0,none⟩),.int .i64 0])∧n.d=d∧w.heap.size≤X∧w'.heap[X]?=some (.cells (turnCells n (.slice none 0 0) (.slice none 0 0)) 71 (0,0))∧NodeFree W2 w.heap.size n∧X=W2.heap.size∧Below W2.heap.size W2 w'∧Below w.heap.size w w'
theorem qr_(w:World)(T:OA_)(N Nc:Nat)(zs:List Int)(n:NodeV)(hT:Tabs w)(hi:n.In w)(hm:n.Small)(hz:Sl (· <w.heap.size) w 1 T N (zs.map (Value.int .i64)))(hN:N≤9223372036854775807)(h0:nodeFault zs n=0):
 Calls Tryz.prog 19 #[.slice T N Nc,n.val] w (RetWorkE w n.d):=by
 have H1:=h_ (fun W hT (hi:n.In W) hz=>lj_ W T N Nc zs n hT hi hm hz hN);rw [h0]at H1;have H2:=h_ (fun W (hi:n.In W)=>bcr_ W n hi hm);have HT:=h_ hT;have HZ:=h_ hz;have HI:=h_ hi;clear hT hz hi hm h0;have k112_:K_ (∀(P:Prop) (h:P:=by
 go_enter Tryz.func19,Tryz.ntmps19
 go_wp2_with fail
 rw [HW.o];refine(H1.o _ (HT.o.la HA.o.b) (HI.o.la HA.o.b) (Sl.la HZ.o HA.o.b)).mono ?_;rintro r w1 ⟨rfl,hb1⟩;have HB:=h_ (HA.o.la hb1);obtain⟨n0,n1,n2,n3,n4,n5,n6,n7,nz⟩:=p_ HB.o.nd;clear hb1;go_wp2_with fail
 refine(H2.o _ (HI.o.la HB.o.b)).mono ?_;rintro r w2 ⟨n',b1,b2,rfl,hd,hi2,hb2⟩;have hz2:=hb2.size;have hz1:=HB.o.b.size;have HB2:=h_ hb2;have HI2:=h_ hi2;have HD:=h_ hd;clear hd hi2 hb2;go_wp2_with fail
 refine bodyPost_ret (v:=(.tuple #[.pointer (some ⟨w2.heap.size,0,none⟩),.int .i64 0])) (by simp [results,Tryz.results19,go_sem]) rfl ?_;exact⟨w2.heap.size,n',w2,rfl,HD.o,by omega,World.alloc_heap_new _ _,HI2.o.free.low (by omega),rfl,bA_,bThen (bThen HB.o.b HB2.o) bA_⟩
 ),P):=⟨@q6_⟩
 exact m112_
theorem w_{x:Int}(h: -4194304≤x∧x≤4194304):wrap64 x=x:=by
 unfold wrap64;omega
abbrev zeroF:FrameV:=⟨0,0,0,⟨none,0,[]⟩,⟨#[]⟩⟩
def isNext (x:LinkD) (p:PacketD):Prop:=p.bare=false∧p.number=x.h+1
instance (x:LinkD) (p:PacketD):Decidable (isNext x p):=by
 unfold isNext;exact inferInstance
def inWin (x:LinkD) (a:Int):Prop:=x.n - x.s.length≤a∧a<x.n
instance (x:LinkD) (a:Int):Decidable (inWin x a):=by
 unfold inWin
 exact inferInstance
def ackN (x:LinkD) (a:Int):Nat:=(a - (x.n - x.s.length)+1).toNat
def ackS (x:LinkD) (a:Int):List FrameD:=if inWin x a then x.s.drop (ackN x a)else x.s
def nextH (x:LinkD) (p:PacketD):Int:=if isNext x p then x.h+1 else x.h
def nextL (x:LinkD) (p:PacketD):LinkD:=⟨x.e,x.n,ackS x p.ack,x.q,nextH x p⟩
def heardF (x:LinkD) (p:PacketD):FrameD:=if isNext x p then p.frame else zeroF.d
def bareX (x:LinkD):PacketD:=⟨x.e,0,true,x.h,zeroF.d⟩
def heardPk (x:LinkD) (p:PacketD):List PacketD:=if p.bare=true then fillP (nextL x p)else fillP (nextL x p)++ [bareX (nextL x p)]
def RetLHear (w:World) (d:LinkD) (fd:FrameD) (told:Bool) (D:List PacketD) (er:Int) (e:Ending) (w':World):Prop:=
 ∃(l:LinkV) (fA:OA_) (fc:Nat) (A:OA_) (c:Nat) (L:List PacketV),e= .returned (.tuple #[l.val,frameV fd.kind fd.heard fd.epoch fA fd.op.length fc fd.text,.bool told,.slice A L.length c,.int .i64 er])∧
  l.d=d∧L.map PacketV.d=D∧l.InS (fun b=>w.heap.size≤b∧b<w'.heap.size) w'∧OpIn (fun b=>w.heap.size≤b∧b<w'.heap.size) w' fA fd.op∧PksS (fun b=>w.heap.size≤b∧b<w'.heap.size) w' A L∧Below w.heap.size w w'
structure Two (R F:Nat) (w w':World):Prop where
 os:w'.os=w.os
 tape:w'.tape=w.tape
 output:w'.output=w.output
 size:w.heap.size≤w'.heap.size
 block: ∀k,k<w.heap.size→k≠R→k≠F→w'.heap[k]?=w.heap[k]?
theorem Two.below{R F base:Nat}{w w':World}(h:Two R F w w')(hR:base≤R)(hF:base≤F)(hb:base≤w.heap.size):Below base w w':=⟨h.os,h.tape,h.output,h.size,fun k hk=>h.block k (by omega) (by omega) (by omega)⟩
theorem Two.of{R F:Nat}{w w1 w':World}(h:Only R w w1)(k:Only F w1 w'):Two R F w w':=
 ⟨k.os.trans h.os,k.tape.trans h.tape,k.output.trans h.output,Nat.le_trans h.size k.size,fun x hx hR hF=>(k.block x (Nat.lt_of_lt_of_le hx h.size) hF).trans (h.block x hx hR)⟩
theorem eo_{w:World}{B:Nat}{v0 v1 v2 v3 v4 x0 x1 x2 x3 x4:Value}{t:TypeId}(h:w.heap[B]?=some (.cells #[v0,v1,v2,v3,v4] t (0,0))):
 (((((w.setCell ⟨B, 0, none⟩ x0).setCell ⟨B, 1, none⟩ x1).setCell ⟨B, 2, none⟩ x2).setCell ⟨B, 3, none⟩ x3).setCell ⟨B, 4, none⟩ x4).heap[B]? = some (.cells #[x0, x1, x2, x3, x4] t (0, 0)) ∧
   Only B w (((((w.setCell ⟨B,0,none⟩ x0).setCell ⟨B,1,none⟩ x1).setCell ⟨B,2,none⟩ x2).setCell ⟨B,3,none⟩ x3).setCell ⟨B,4,none⟩ x4):=by
 have h0:(w.setCell ⟨B,0,none⟩ x0).heap[B]?=some (.cells #[x0,v1,v2,v3,v4] t (0,0)):=f_ 0 x0 h;have h1:((w.setCell ⟨B,0,none⟩ x0).setCell ⟨B,1,none⟩ x1).heap[B]?=some (.cells #[x0,x1,v2,v3,v4] t (0,0)):=f_ 1 x1 h0;have h2:(((w.setCell ⟨B,0,none⟩ x0).setCell ⟨B,1,none⟩ x1).setCell ⟨B,2,none⟩ x2).heap[B]?=some (.cells #[x0,x1,x2,v3,v4] t (0,0)):=f_ 2 x2 h1;have h3:((((w.setCell ⟨B,0,none⟩ x0).setCell ⟨B,1,none⟩ x1).setCell ⟨B,2,none⟩ x2).setCell ⟨B,3,none⟩ x3).heap[B]?=some (.cells #[x0,x1,x2,x3,v4] t (0,0)):=f_ 3 x3 h2;have h4:(((((w.setCell ⟨B,0,none⟩ x0).setCell ⟨B,1,none⟩ x1).setCell ⟨B,2,none⟩ x2).setCell ⟨B,3,none⟩ x3).setCell ⟨B,4,none⟩ x4).heap[B]?=some (.cells #[x0,x1,x2,x3,x4] t (0,0)):=f_ 4 x4 h3;exact⟨h4,(((q5_.trans q5_).trans q5_).trans q5_).trans q5_⟩
theorem bv_{W:World}{R F:Nat}{u0 u1 u2 u3 u4 v0 v1 v2 v3 v4 x0 x1 x2 x3 x4 y0 y1 y2 y3 y4:Value}{t s:TypeId}(hR:W.heap[R]?=some (.cells #[u0,u1,u2,u3,u4] t (0,0)))(hF:W.heap[F]?=some (.cells #[v0,v1,v2,v3,v4] s (0,0)))(hne:R≠F){W':World}
 (hW:W'=((((((((((W.setCell ⟨R,0,none⟩ x0).setCell ⟨R,1,none⟩ x1).setCell ⟨R,2,none⟩ x2).setCell ⟨R,3,none⟩ x3).setCell ⟨R,4,none⟩ x4).setCell ⟨F,0,none⟩ y0).setCell ⟨F,1,none⟩ y1).setCell ⟨F,2,none⟩ y2).setCell ⟨F,3,none⟩ y3).setCell ⟨F,4,none⟩ y4)):
 W'.heap[R]?=some (.cells #[x0,x1,x2,x3,x4] t (0,0))∧W'.heap[F]?=some (.cells #[y0,y1,y2,y3,y4] s (0,0))∧Two R F W W':=by
 obtain⟨a1,a2⟩:=eo_ (x0:=x0) (x1:=x1) (x2:=x2) (x3:=x3) (x4:=x4) hR;obtain⟨W1,hW1⟩:=q2_ (((((W.setCell ⟨R,0,none⟩ x0).setCell ⟨R,1,none⟩ x1).setCell ⟨R,2,none⟩ x2).setCell ⟨R,3,none⟩ x3).setCell ⟨R,4,none⟩ x4);rw [←hW1]at a1 a2 hW;have hRl:R<W.heap.size:=(Array.getElem?_eq_some_iff.1 hR).1;have hFl:F<W.heap.size:=(Array.getElem?_eq_some_iff.1 hF).1;obtain⟨b1,b2⟩:=eo_ (x0:=y0) (x1:=y1) (x2:=y2) (x3:=y3) (x4:=y4) ((a2.block F hFl (fun e=>hne e.symm)).trans hF);rw [←hW]at b1 b2;exact⟨(b2.block R (Nat.lt_of_lt_of_le hRl a2.size) hne).trans a1,b1,Two.of a2 b2⟩
theorem by_{w W W':World}{R F:Nat}{u v:Obj}(h:W.heap[R]?=some u∧W.heap[F]?=some v∧Two R F w W)(hW:W'=W.drew):W'.heap[R]?=some u∧W'.heap[F]?=some v∧Two R F w W':=by
 subst hW;exact⟨h.1,h.2.1,⟨h.2.2.os,h.2.2.tape,h.2.2.output,h.2.2.size,h.2.2.block⟩⟩
structure LHearAt (w W:World) (Q R F:Nat) (l:LinkV) (p:PacketV) (f:FrameV):Prop where
 l:LinkAt W w.heap.size l
 p:PacketAt W Q p.ep p.nu p.b p.ak p.f.k p.f.h p.f.e p.f.o.A p.f.o.ps.length p.f.o.c p.f.s
 r:LinkAt W R zeroL
 f:FrameAt W F f.k f.h f.e f.o.A f.o.ps.length f.o.c f.s
 b:Below w.heap.size w W
theorem LHearAt.lt{w W:World}{Q R F:Nat}{l:LinkV}{p:PacketV}{f:FrameV}(h:LHearAt w W Q R F l p f):w.heap.size<W.heap.size∧Q<W.heap.size∧R<W.heap.size∧F<W.heap.size:=
 ⟨(Array.getElem?_eq_some_iff.1 h.l).1,(Array.getElem?_eq_some_iff.1 h.p).1,(Array.getElem?_eq_some_iff.1 h.r).1,(Array.getElem?_eq_some_iff.1 h.f).1⟩
theorem LHearAt.la{w W W':World}{Q R F:Nat}{l:LinkV}{p:PacketV}{f:FrameV}(h:LHearAt w W Q R F l p f)(hb:Below W.heap.size W W'):LHearAt w W' Q R F l p f:=by
 obtain⟨a,b,c,d⟩:=h.lt;exact⟨(hb.block _ a).trans h.l,(hb.block _ b).trans h.p,(hb.block _ c).trans h.r,(hb.block _ d).trans h.f,bThen h.b hb⟩
theorem LHearAt.upon{w W W':World}{Q R F base X:Nat}{l:LinkV}{p:PacketV}{f:FrameV}(h:LHearAt w W Q R F l p f)(ho:(w.heap.size<Q∧Q<R∧R<F)∧F<base∧base≤X)(u:Upon base X W W'):LHearAt w W' Q R F l p f:=
 ⟨(u.block _ (by omega) (by omega)).trans h.l, (u.block _ (by omega) (by omega)).trans h.p, (u.block _ (by omega) (by omega)).trans h.r, (u.block _ (by omega) (by omega)).trans h.f,
   ⟨u.os.trans h.b.os,u.tape.trans h.b.tape,u.output.trans h.b.output,Nat.le_trans h.b.size u.size,fun k hk=>(u.block k (by omega) (by omega)).trans (h.b.block k hk)⟩⟩
theorem LHearAt.told{w W:World}{Q R F:Nat}{l:LinkV}{p:PacketV}{f:FrameV}(h:LHearAt w W Q R F l p f)(ho:w.heap.size<Q∧Q<R∧R<F)(g:FrameV){W':World}
 (hW:W'=(((((W.setCell ⟨F,0,none⟩ (.int .i64 g.k)).setCell ⟨F,1,none⟩ (.int .i64 g.h)).setCell ⟨F,2,none⟩ (.int .i64 g.e)).setCell ⟨F,3,none⟩ (.slice g.o.A g.o.ps.length g.o.c)).setCell ⟨F,4,none⟩ (.string g.s))):LHearAt w W' Q R F l p g∧Only F W W':=by
 obtain⟨a1,a2⟩:=eo_ (x0:= .int .i64 g.k) (x1:= .int .i64 g.h) (x2:= .int .i64 g.e) (x3:= .slice g.o.A g.o.ps.length g.o.c) (x4:= .string g.s) h.f;rw [←hW]at a1 a2;obtain⟨b1,b2,b3,b4⟩:=h.lt;exact⟨⟨(a2.block _ b1 (by omega)).trans h.l,(a2.block _ b2 (by omega)).trans h.p,(a2.block _ b3 (by omega)).trans h.r,a1,h.b.trans (a2.below (by omega) (by omega))⟩,a2⟩
theorem LinkSt.ackd{w:World}{base X:Nat}{e n h:Int}{sA qA A':Option Addr}{sc qc:Nat}{s q:List FrameV}(k:LinkSt w base X ⟨e,n,sA,sc,s,qA,qc,q,h⟩)(K m:Nat)(hK:K≤s.length)(hm:m=s.length - K)(hA:A'=if sc=K then sA else sA.map (fun x=>x.add (K*5))):
 LinkSt (w.setCell ⟨X,2,none⟩ (.slice A' m (sc - K))) base X ⟨e,n,A',sc - K,s.drop K,qA,qc,q,h⟩:=by
 have hlen:(s.drop K).length=m:=by rw [List.length_drop,hm]
 have hob: ∀n' c',(Value.slice A' n' c').ownBlock=(Value.slice sA s.length sc).ownBlock:=fun n' c'=>by
  rw [hA];by_cases h1:sc=K
  ·rw [if_pos h1];cases sA <;> rfl
  ·rw [if_neg h1];rcases k.own.at_ with⟨e1,_⟩ | ⟨g,o,e1,_⟩
   ·dsimp only at e1;rw [e1];rfl
   ·dsimp only at e1;rw [e1];simp only [Option.map_some,Addr.add];split <;> rfl
 have hz:(w.setCell ⟨X,2,none⟩ (.slice A' m (sc - K))).heap.size=w.heap.size:=by simp [World.setCell]
 have hold: ∀b,b≠X→(w.setCell ⟨X,2,none⟩ (.slice A' m (sc - K))).heap[b]?=w.heap[b]?:=fun b hb=>bH_ hb;have key: ∀b,((base≤b∧b<w.heap.size)∧b≠X∧(Value.slice sA s.length sc).ownBlock≠some b)→((base≤b∧b<(w.setCell ⟨X,2,none⟩ (.slice A' m (sc - K))).heap.size)∧b≠X∧(Value.slice A' (s.drop K).length (sc - K)).ownBlock≠some b)∧(w.setCell ⟨X,2,none⟩ (.slice A' m (sc - K))).heap[b]?=w.heap[b]?:=fun b hb=>
  ⟨⟨⟨hb.1.1,by rw [hz];exact hb.1.2⟩,hb.2.1,by rw [hob];exact hb.2.2⟩,hold b hb.2.1⟩
 have hdr:s.drop K=s.drop K:=rfl;refine⟨?_,?_,fun f hf=>(k.s f (List.mem_of_mem_drop hf)).mv key,k.qr.mv key,fun f hf=>(k.q f hf).mv key,k.qcap,by show(Value.slice A' (s.drop K).length (sc - K)).ownBlock≠some X;rw [hob];exact k.ne⟩
 ·show(w.setCell ⟨X,2,none⟩ (.slice A' m (sc - K))).heap[X]?=_;rw [show(LinkV.mk e n A' (sc - K) (s.drop K) qA qc q h).s.length=m from hlen];exact f_ 2 _ k.at_
 ·show OwnsAt _ base 5 A' (s.drop K).length (sc - K) ((s.drop K).flatMap FrameV.cells);have ho:OwnsAt w base 5 A' (s.drop K).length (sc - K) ((s.drop K).flatMap FrameV.cells):=by
   have hcap:=k.own.cap.1;dsimp only at hcap;by_cases h1:sc=K
   ·rw [hA,if_pos h1];have h2:s.length=K:=(by omega);have h3:s.drop K= []:=List.drop_eq_nil_of_le (by omega);rw [h3,show sc - K=0 by omega];exact k.own.gone
   ·rw [hA,if_neg h1,hlen,hm];have h4:=k.own.drop (k:=K) hK;rwa [show(s.flatMap FrameV.cells).drop (K*5)=(s.drop K).flatMap FrameV.cells from ?_]at h4
    clear h4 h1 hcap hold key hz hob hA hm hlen hdr k;induction K generalizing s with
    | zero=>simp
    | succ K ih=>
     cases s with
     | nil=>simp
     | cons f s=>
      have h5:=ih (s:=s) (by simpa using hK);rw [List.drop_succ_cons,←h5,List.flatMap_cons,show(K+1)*5=f.cells.length+K*5 by rw [FrameV.cells_len];omega,←List.drop_drop,List.drop_left]
  refine ho.kept (by rw [hz];exact Nat.le_refl _) fun g hg=>hold g (fun e1=>k.ne ?_);rw [hob]at hg;rw [←e1];exact hg
theorem LinkSt.heard{w:World}{base X:Nat}{e n h:Int}{sA qA:Option Addr}{sc qc:Nat}{s q:List FrameV}(k:LinkSt w base X ⟨e,n,sA,sc,s,qA,qc,q,h⟩)(h':Int):
 LinkSt (w.setCell ⟨X,4,none⟩ (.int .i64 h')) base X ⟨e,n,sA,sc,s,qA,qc,q,h'⟩:=by
 have hz:(w.setCell ⟨X,4,none⟩ (.int .i64 h')).heap.size=w.heap.size:=by simp [World.setCell]
 have hold: ∀b,b≠X→(w.setCell ⟨X,4,none⟩ (.int .i64 h')).heap[b]?=w.heap[b]?:=fun b hb=>bH_ hb;have key: ∀b,((base≤b∧b<w.heap.size)∧b≠X∧(Value.slice sA s.length sc).ownBlock≠some b)→((base≤b∧b<(w.setCell ⟨X,4,none⟩ (.int .i64 h')).heap.size)∧b≠X∧(Value.slice sA s.length sc).ownBlock≠some b)∧(w.setCell ⟨X,4,none⟩ (.int .i64 h')).heap[b]?=w.heap[b]?:=fun b hb=>
  ⟨⟨⟨hb.1.1,by rw [hz];exact hb.1.2⟩,hb.2⟩,hold b hb.2.1⟩
 exact⟨f_ 4 _ k.at_,k.own.kept (by rw [hz];exact Nat.le_refl _) fun g hg=>hold g (fun e1=>k.ne (by rw [←e1];exact hg)),fun f hf=>(k.s f hf).mv key,k.qr.mv key,fun f hf=>(k.q f hf).mv key,k.qcap,k.ne⟩
theorem co_(x:LinkD):(fillP x).length=fillN x∧fillN x≤8:=by
 unfold fillP;refine⟨by simp,?_⟩;unfold fillN;omega
theorem LinkSt.low{w w':World}{base X F:Nat}{l:LinkV}(h:LinkSt w base X l)(ho:Only F w w')(hF:F<base)(hX:F≠X):LinkSt w' base X l:=by
 have hz:=ho.size;have key: ∀b,((base≤b∧b<w.heap.size)∧b≠X∧(Value.slice l.sA l.s.length l.sc).ownBlock≠some b)→((base≤b∧b<w'.heap.size)∧b≠X∧(Value.slice l.sA l.s.length l.sc).ownBlock≠some b)∧w'.heap[b]?=w.heap[b]?:=fun b hb=>
  ⟨⟨⟨hb.1.1,by omega⟩,hb.2⟩,ho.block b hb.1.2 (by omega)⟩
 have hl:=(Array.getElem?_eq_some_iff.1 h.at_).1;exact⟨(ho.block X hl (fun e=>hX e.symm)).trans h.at_,h.own.kept hz fun g hg=>ho.block g (h.own.lt hg).2 (by have:=(h.own.lt hg).1;omega),fun f hf=>(h.s f hf).mv key,h.qr.mv key,fun f hf=>(h.q f hf).mv key,h.qcap,h.ne⟩
theorem LinkSt.inS_two{w w':World}{base X R F lo:Nat}{l:LinkV}(h:LinkSt w base X l)(ho:Two R F w w')(hR:R<base)(hF:F<base)(hlo:lo≤base):l.InS (fun b=>lo≤b∧b<w'.heap.size) w':=
 h.inS.mv fun b hb=>⟨⟨Nat.le_trans hlo hb.1,Nat.lt_of_lt_of_le hb.2 ho.size⟩,ho.block b hb.2 (by have:=hb.1;omega) (by have:=hb.1;omega)⟩
theorem PacketsOwn.inS{w:World}{base:Nat}{A:Option Addr}{c:Nat}{L:List PacketV}(h:PacketsOwn w base A c L):PksS (fun b=>base≤b∧b<w.heap.size) w A L:=
 ⟨(Sl.of_own _ h.row).mv fun _ hx=>⟨⟨hx.1,hx.2⟩,rfl⟩,fun o ho=>(h.each o ho).mv fun _ hx=>⟨hx.1,rfl⟩⟩
theorem PacketsOwn.inS_two{w w':World}{base R F lo:Nat}{A:Option Addr}{c:Nat}{L:List PacketV}(h:PacketsOwn w base A c L)(ho:Two R F w w')(hR:R<base)(hF:F<base)(hlo:lo≤base):PksS (fun b=>lo≤b∧b<w'.heap.size) w' A L:=
 h.inS.mv fun b hb=>⟨⟨Nat.le_trans hlo hb.1,Nat.lt_of_lt_of_le hb.2 ho.size⟩,ho.block b hb.2 (by have:=hb.1;omega) (by have:=hb.1;omega)⟩
theorem da_{P:Program}{f:FuncId}{args:Array Value}{W:World}{post:Ending→World→Prop}(Q:World→Prop)(hQ:Q W)(h: ∀W',Q W'→Calls P f args W' post):Calls P f args W post:=h W hQ
theorem zv_(w:World)(v0 v1 v2 v3 v4 x:Value)(t:TypeId):(w.alloc (.cells #[v0,v1,v2,v3,v4] t)).setCell ⟨w.heap.size,2,none⟩ x=w.alloc (.cells #[v0,v1,x,v3,v4] t):=World.setCell_alloc_new #[v0,v1,v2,v3,v4] t 2 x
theorem zw_(w:World)(v0 v1 v2 v3 v4 x:Value)(t:TypeId):(w.alloc (.cells #[v0,v1,v2,v3,v4] t)).setCell ⟨w.heap.size,4,none⟩ x=w.alloc (.cells #[v0,v1,v2,v3,x] t):=World.setCell_alloc_new #[v0,v1,v2,v3,v4] t 4 x
theorem LinkSt.ackA{w:World}{base:Nat}{e n h:Int}{sA qA A':Option Addr}{sc qc c':Nat}{s q:List FrameV}(k:LinkSt (w.alloc (.cells #[.int .i64 e,.int .i64 n,.slice sA s.length sc,.slice qA q.length qc,.int .i64 h] 58)) base w.heap.size ⟨e,n,sA,sc,s,qA,qc,q,h⟩)(K:Nat)(hK:K≤s.length)
 (hA:(sc=K∧A'=sA∧c'=0)∨(sc≠K∧A'=sA.map (fun x=>x.add (K*5))∧c'=sc - K)):
 LinkSt (w.alloc (.cells #[.int .i64 e,.int .i64 n,.slice A' (s.length - K) c',.slice qA q.length qc,.int .i64 h] 58)) base w.heap.size ⟨e,n,A',c',s.drop K,qA,qc,q,h⟩:=by
 have hc:c'=sc - K:=by rcases hA with⟨h1,_,h2⟩ | ⟨_,_,h2⟩ <;> omega
 have h5:=k.ackd (A':=A') K (s.length - K) hK rfl (by
  rcases hA with⟨h1,h2,_⟩ | ⟨h1,h2,_⟩
  · rw [if_pos h1,h2]
  · rw [if_neg h1,h2])
 rw [zv_]at h5;rw [hc];exact h5
theorem LinkSt.heardA{w:World}{base m:Nat}{e n h:Int}{sA qA:Option Addr}{sc qc:Nat}{s q:List FrameV}(k:LinkSt (w.alloc (.cells #[.int .i64 e,.int .i64 n,.slice sA m sc,.slice qA q.length qc,.int .i64 h] 58)) base w.heap.size ⟨e,n,sA,sc,s,qA,qc,q,h⟩)(h':Int):
 LinkSt (w.alloc (.cells #[.int .i64 e,.int .i64 n,.slice sA m sc,.slice qA q.length qc,.int .i64 h'] 58)) base w.heap.size ⟨e,n,sA,sc,s,qA,qc,q,h'⟩:=by
 have h5:=k.heard h';rw [zw_]at h5;exact h5
theorem HeardR.fin{w G:World}{R X base n c co hc:Nat}{s h s' h':Int}{A Ao hA:OA_}{L':List OpV}{hp:LP_}(k:HeardR w R X base s h A n c s' h' Ao co L' hA hp G):RetHear w (s',h',L'.map OpV.ps,hp,0) (.returned (.tuple #[edgeV s' h' Ao L'.length co,.slice hA hp.length hc,.int .i64 0])) (((G.setCell ⟨R,0,none⟩ (.int .i64 s')).setCell ⟨R,1,none⟩ (.int .i64 h')).setCell ⟨R,2,none⟩ (.slice Ao L'.length co)):=by
 have g1:=k.wr;have g2:=k.rx;have g3:=k.xb
 have hfar: ∀x,x≠R→(((G.setCell ⟨R,0,none⟩ (.int .i64 s')).setCell ⟨R,1,none⟩ (.int .i64 h')).setCell ⟨R,2,none⟩ (.slice Ao L'.length co)).heap[x]?=G.heap[x]?:=fun x hx=>(bH_ hx).trans ((bH_ hx).trans (bH_ hx))
 have hsz:(((G.setCell ⟨R,0,none⟩ (.int .i64 s')).setCell ⟨R,1,none⟩ (.int .i64 h')).setCell ⟨R,2,none⟩ (.slice Ao L'.length co)).heap.size=G.heap.size:=by simp [World.setCell]
 refine⟨Ao,co,L',hA,hc,rfl,rfl,(OpsS.of (k.own.kept (Nat.le_of_eq hsz.symm) (fun b hb _=>hfar b (by omega)))).mv fun b hb=>⟨⟨by have:=hb.1;omega,hb.2⟩,rfl⟩,k.o.mv fun b hb=>⟨⟨by have:=hb.1.1;omega,by rw [hsz];exact hb.1.2⟩,hfar b (by have:=hb.1.1;omega)⟩,?_⟩
 exact bSet (bSet (bSet k.b (p:=⟨R,0,none⟩) (Nat.le_of_lt g1) _) (p:=⟨R,1,none⟩) (Nat.le_of_lt g1) _) (p:=⟨R,2,none⟩) (Nat.le_of_lt g1) _
theorem bdw_{x:Int}(h1: -1048576≤x)(h2:x≤4194304):wrap64 x=x:=by
 unfold wrap64;omega
theorem zd_(w:World)(s h0:Int)(A:OA_)(c:Nat)(L:List OpV)(HT:Hid (Tabs w))(HS:Hid (OpsIn w A L))(HM:Hid (∀o∈L,o.Small))(B:OA_)(cc:Nat)(ps:LP_)(HP:Hid (OpIn (· <w.heap.size) w B ps))(hd:Int)(_hw:wrap64 (s - (L.length:Int))=s - L.length)(f1:s - (L.length:Int)≤hd)(f2:hd≤s)(_f3:decide (1048576≤h0)=false)(K:Nat)(_hK:K≤L.length)(HKd:Hid (hd=s - (L.length:Int)+K))(hs1:0≤s)(hs2:s≤1048576)(hls:(L.length:Int)≤s)(hh1:wrap64 (h0+1)=h0+1)(hsp:SmallD ps)(HC:Hid (∀W,Tabs W→OpsIn W A L→(∀o∈L,o.Small)→Calls Tryz.prog 104 #[edgeV s h0 A L.length c] W (R_ W (.bool true))))(HF:Hid (∀W,Tabs W→OpIn (· <W.heap.size) W B ps→Calls Tryz.prog 60 #[.slice B ps.length cc] W (R_ W (.int .i64 0)))):
 Calls Tryz.prog 118 #[edgeV s h0 A L.length c,.slice B ps.length cc,.int .i64 hd,.bool false] w (RetHear w (hearOut s (h0+1) (hearG false [] ps ((L.map OpV.ps).drop K)))):=by
 have vX:=h_ trivial;exact m14_
theorem bgh_(w:World)(l:LinkV)(p:PacketV)(hT:Tabs w)(hi:l.In w)(hm:l.Small)(hf:OpIn (· <w.heap.size) w p.f.o.A p.f.o.ps)(hfm:p.f.Small)(hk:linkMay l)(he:packetFault p.d=0)(h0:l.e≠0)(h1:p.ep=l.e)(hA:p.ak<l.n - l.s.length)(hb:p.b=false)(hn:p.nu≠l.h+1):
 Calls Tryz.prog 73 #[l.val,packetV p.ep p.nu p.b p.ak p.f.k p.f.h p.f.e p.f.o.A p.f.o.ps.length p.f.o.c p.f.s] w (RetLHear w (fillL ⟨l.e,l.n,(l.s.map FrameV.d),l.q.map FrameV.d,l.h⟩) zeroF.d false (fillP ⟨l.e,l.n,(l.s.map FrameV.d),l.q.map FrameV.d,l.h⟩++ [bareX ⟨l.e,l.n,(l.s.map FrameV.d),l.q.map FrameV.d,l.h⟩]) 0):=by
 have vM:=h_ trivial;exact m7_
end Go.Proofs.YtacacoklddogmaaGreatDoor
