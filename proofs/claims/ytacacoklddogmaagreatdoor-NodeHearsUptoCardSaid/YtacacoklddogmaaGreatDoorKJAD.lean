/- Lemmas. -/
import Derived.Test.YtacacoklddogmaaGreatDoorKJAE
import Derived.Test.YtacacoklddogmaaGreatDoorKFramedX
import Derived.Test.YtacacoklddogmaaGreatDoorKJAS
import Derived.BigRegion
namespace Go.Proofs.YtacacoklddogmaaGreatDoor
set_option maxHeartbeats 4000000
open Go.ChangeShapes Go.WideShapes Go.ChangeAt Go.RowKit
set_option maxRecDepth 100000
abbrev LI_:=List (Int × Int)
def gM (j:Bool):LI_->Int->Int->Int->Int
 | [],_,_,u=>u
 | x :: l,y,z,u=>
  if x.1=2 then gM j l y z (if z<y∨(z=y∧j=true)then u+1 else u)
  else gM j l y (z+1) (if x.1=1∧z<y then u+1 else u)
theorem gC(j:Bool)(x:Int × Int)(l:LI_)(y z u:Int):gM j (x :: l) y z u=
 if x.1=2 then gM j l y z (if z<y∨(z=y∧j=true)then u+1 else u)else gM j l y (z+1) (if x.1=1∧z<y then u+1 else u):=rfl
theorem gP(j:Bool): ∀(l:LI_) (y z u:Int),y<z->gM j l y z u=u
 | [],_,_,_,_=>rfl
 | x :: l,y,z,u,h=>by
  unfold gM;by_cases hx:x.1=2
  · rw [if_pos hx,if_neg (by omega),gP j l _ _ _ h]
  · rw [if_neg hx,if_neg (by omega),gP j l _ _ _ (by omega)]
theorem gS: ∀(l:LI_) (y u:Int),gM false l y y u=u
 | [],_,_=>rfl
 | x :: l,y,u=>by
  unfold gM;by_cases hx:x.1=2
  · rw [if_pos hx,if_neg (by simp),gS l]
  · rw [if_neg hx,if_neg (by omega),gP false l _ _ _ (by omega)]
theorem gI(j:Bool)(l:LI_): ∀(rs:List Int) (y z u:Int),(z<y∨(z=y∧j=true))->gM j (rs.map (fun r=>((2:Int),r))++l) y z u=gM j l y z (u+rs.length)
 | [],_,_,_,_=>by simp
 | r :: rs,y,z,u,h=>by
  rw [List.map_cons,List.cons_append];rw [gC,if_pos rfl,if_pos h,gI j l rs _ _ _ h];congr 1;simp only [List.length_cons];omega
theorem gK(j:Bool)(l:LI_): ∀(n:Nat) (y z u:Int),z<=y->
 gM j (List.replicate n ((1:Int),(0:Int))++l) y z u=if y<z+n then u+y - z else gM j l y (z+n) (u+n)
 | 0,y,z,u,h=>by
  rw [if_neg (by omega)];simp
 | n+1,y,z,u,h=>by
  rw [List.replicate_succ,List.cons_append];rw [gC,if_neg (by decide)];by_cases hlt:z<y
  · rw [if_pos ⟨rfl,hlt⟩,gK j l n _ _ _ (by omega)]
    have e1:z+1+(n:Int)=z+(n+1:Nat):=(by omega);have e2:u+1+(n:Int)=u+(n+1:Nat):=(by omega);have e3:u+1+y - (z+1)=u+y - z:=(by omega);rw [e1,e2,e3]
  · rw [if_neg (by omega),if_pos (by omega),gP j _ _ _ _ (by omega)]
    omega
theorem gD(j:Bool)(k:Int)(h1:k≠1)(h2:k≠2)(l:LI_): ∀(n:Nat) (y z u:Int),
 gM j (List.replicate n (k,(0:Int))++l) y z u=gM j l y (z+n) u
 | 0,y,z,u=>by simp
 | n+1,y,z,u=>by
  rw [List.replicate_succ,List.cons_append];rw [gC,if_neg h2,if_neg (fun h=>h1 h.1),gD j k h1 h2 l n];congr 1;omega
theorem hW(j:Bool): ∀(ps:LP_) (y z u:Int),okParts ps->z<=y->moveGo j ps y z u=gM j (stepsOf ps) y z u
 | [],_,_,_,_,_=>rfl
 | p :: ps,y,z,u,⟨hp,hc,hps⟩,hle=>by
  rw [fx_];unfold moveGo partSteps;by_cases h2:p.kind=2
  · rw [if_pos h2,if_pos h2]
    by_cases hs:y<z∨(z=y∧j=false)
    · rw [if_pos hs]
      have e:z=y∧j=false:=by
       rcases hs with q | q
       · omega
       · exact q
      obtain⟨rfl,rfl⟩:=e;rw [gS];omega
    · rw [if_neg hs,gI j _ _ _ _ _ (by cases j <;> simp at hs⊢ <;> omega),bo_]
      exact hW j ps _ _ _ hps hle
  · obtain⟨hk,hn1,hn2,_⟩:=di_ hp h2
    rw [if_neg h2,if_neg h2];have hnn:((p.n.toNat:Nat):Int)=p.n:=(by omega);by_cases h1:p.kind=1
    · rw [if_pos h1,h1,gK j _ _ _ _ _ hle,hnn]
      by_cases hs:y<z+p.n
      · rw [if_pos hs,if_pos hs]
      · rw [if_neg hs,if_neg hs]
        exact hW j ps _ _ _ hps (by omega)
    · have h3:p.kind=3:=by omega
      rw [if_neg h1,gD j _ h1 h2,hnn];by_cases hs:y<z+p.n
      · rw [if_pos hs,gP j _ _ _ _ hs]
        rcases ps with _ | ⟨q,r⟩
        · rfl
        · obtain⟨hq,_,_⟩:=hps
          have hcl:=hc q rfl;unfold moveGo;have hq2:q.kind≠2:=by
           intro e;simp [clash,h3,e]at hcl
          have hq3:q.kind≠3:=by
           intro e;simp [clash,h3,e]at hcl
          obtain⟨hk',hn1',_,_⟩:=di_ hq hq2;rw [if_neg hq2,if_pos (by omega),if_pos (by omega)];omega
      · rw [if_neg hs]
        exact hW j ps _ _ _ hps (by omega)
theorem hI{j:Bool}{r:Int}{l:LI_}{y z u R:Int}(h:gM j ((2,r) :: l) y z u=R):(¬(z<y∨(z=y∧j=true))->gM j l y z u=R)∧((z<y∨(z=y∧j=true))->gM j l y z (u+1)=R):=by
 unfold gM at h;rw [if_pos rfl]at h;exact⟨fun q=>by rwa [if_neg q]at h,fun q=>by rwa [if_pos q]at h⟩
theorem hO{j:Bool}{k r:Int}{l:LI_}{y z u R:Int}(h2:k≠2)(h:gM j ((k,r) :: l) y z u=R):(¬(k=1∧z<y)->gM j l y (z+1) u=R)∧((k=1∧z<y)->gM j l y (z+1) (u+1)=R):=by
 unfold gM at h;rw [if_neg h2]at h;exact⟨fun q=>by rwa [if_neg q]at h,fun q=>by rwa [if_pos q]at h⟩
theorem zz1_{P:Prop}(h:P:=by
 go_wp2_with fail
 go_round
 case rel=>first|exact⟨k+1,o',n',by omega,by go_num,rfl,rfl,by omega,by omega,HR⟩|exact⟨k+1,o',n'+1,by omega,by go_num,rfl,by go_num,by omega,by omega,HR⟩|exact⟨k+1,o'+1,n'+1,by omega,by go_num,by go_num,by go_num,by omega,by omega,HR⟩|exact⟨k+1,o'+1,n',by omega,by go_num,by go_num,rfl,by omega,by omega,HR⟩
 case measure=>simp [intOf];omega):P:=h
section
variable(w:World) (y:Int) (j:Bool) (A:OA_) (c:Nat) (ps:LP_) (hT:Tabs w) (hs:OpIn (· <w.heap.size) w A ps) (hm:ps.length<=1048576) (ht: ∀p∈ps,p.text.size<=1048576)
include w y j A c ps hT hs hm ht
theorem hL(hf:opFault ps=0)(h1:0<=y)(h2:y<=(lens ps).1):
 Calls Tryz.prog 108 #[.int .i64 y,.slice A ps.length c,.bool j] w (R_ w (.tuple #[.int .i64 (gM j (stepsOf ps) y 0 0),.int .i64 0])):=by
 obtain⟨h8,hok,h3,_⟩:=cr_ hf;obtain⟨x1,x2,n1,n2⟩:=gc_ hf;have hsl:=do_ hok;have hC:=bk_ w A c ps hT hs hm ht;rw [hf]at hC;have HC:=h_ hC;have HTX:=h_ ht;have HD0:=h_ (show gM j ((stepsOf ps).drop 0) y 0 0=gM j (stepsOf ps) y 0 0 by simp);have HLn:=h_ (fun W hW=>bq_ W A c ps hW hm HTX.o);have HSt:=h_ (fun W hW=>ra_ W A c ps hW hm HTX.o (by omega));have hl8:(stepsOf ps).length<=8000:=by omega
 have h4:y<=4000:=by omega
 generalize hR:gM j (stepsOf ps) y 0 0=R at*;generalize lens ps=L at*;generalize stepsOf ps=l at*;obtain⟨L1,L2⟩:=L;dsimp only at*;have HIn:=h_ (And.intro h1 h2);clear hR hC hf hok ht hT h3 n1 n2 hsl h1 h2 x1 x2;go_enter Tryz.func108,Tryz.ntmps108
 go_wp2_with fail
 refine HC.o.mono ?_;rintro e w1 ⟨rfl,hb1⟩;have HS1:=h_ (Sl.la hs hb1);go_wp2_with fail
 refine(HLn.o _ HS1.o).mono ?_;rintro e w2 ⟨rfl,hb2⟩;have HS2:=h_ (Sl.la HS1.o hb2);have hb3:=bThen hb1 hb2;clear hb1 hb2 HS1;go_wp2_with fail
 refine(m_ _ _ _ _ HIn.o.1 HIn.o.2).mono ?_;rintro e w' ⟨rfl,hw⟩;rw [<-hw];clear hw;go_wp2_with fail
 refine(HSt.o _ HS2.o).mono ?_;rintro e w5 ⟨A5,c5,rfl,hown5,hb5⟩;have HB5:=h_ (bThen hb3 hb5);have HS5:=Sl.of_own _ hown5;clear hb5 HS2 hb3 hown5;go_wp2_with fail
 go_loop [12,13,14] (fun o n i=> ∃(k:Nat) (o' n':Int),k<=l.length∧i= .int .i64 k∧o= .int .i64 o'∧n= .int .i64 n'∧(0<=o'∧o'<=k)∧(0<=n'∧n'<=k)∧Hid (gM j (l.drop k) y o' n'=R))
  (fun _ _ i=>l.length - (intOf i).toNat)
 case atStart=>exact⟨0,0,0,Nat.zero_le _,rfl,rfl,rfl,by omega,by omega,HD0⟩
 case round=>
  obtain⟨k,o',n',hk,rfl,rfl,rfl,⟨ho1,ho2⟩,⟨hn1,hn2⟩,hd⟩:=hrel;have ob:o'<=8000:=by omega
  have nb:n'<=8000:=by omega
  by_cases hlt:k<l.length
  · obtain⟨b,o,rfl,hbs,g0,g1⟩:=StepsIn.at_ HS5 hlt
    have HD:=h_ (show gM j (l[k] :: l.drop (k+1)) y o' n'=R by rw [<-List.drop_eq_getElem_cons hlt];exact hd.o);clear hd;generalize l[k]=x at*;obtain⟨kd,rr⟩:=x;dsimp only at*;by_cases hk2:kd=2
    · subst hk2
      have HM:=h_ (hI HD.o);by_cases hoa:o'<y
      · have HR:=h_ (HM.o.2 (.inl hoa))
        exact zz1_
      · have z1:decide (o'<y)=false:=by simpa using hoa
        by_cases hoe:o'=y
        · subst hoe
          cases j
          · have HR:=h_ (HM.o.1 (by simp))
            exact zz1_
          · have HR:=h_ (HM.o.2 (by simp))
            exact zz1_
        · have z2:(o'==y)=false:=by simpa using hoe
          have HR:=h_ (HM.o.1 (by omega));clear hoe;exact zz1_
    · have q2:(kd==2)=false:=by simpa using hk2
      have HM:=h_ (hO hk2 HD.o);clear hk2;by_cases hk1:kd=1
      · subst hk1
        by_cases hoa:o'<y
        · have HR:=h_ (HM.o.2 ⟨rfl,hoa⟩)
          exact zz1_
        · have z1:decide (o'<y)=false:=by simpa using hoa
          have HR:=h_ (HM.o.1 (fun q=>hoa q.2));exact zz1_
      · have q1:(kd==1)=false:=by simpa using hk1
        have HR:=h_ (HM.o.1 (fun q=>hk1 q.1));clear hk1;exact zz1_
  · obtain rfl:k=l.length:=by omega
    have HR:=h_ (show n'=R by have:=hd.o;rwa [List.drop_length]at this);clear hd;go_wp2_with fail
    go_ret2
    exact⟨(by rw [HR.o];first | done | rfl),HB5.o⟩
theorem Moved_c:
 Calls Tryz.prog 108 #[.int .i64 y,.slice A ps.length c,.bool j] w (R_ w (.tuple #[.int .i64 (if moveErr y ps=0 then moveGo j ps y 0 0 else 0),.int .i64 (moveErr y ps)])):=by
 have hC:=bk_ w A c ps hT hs hm ht;have HLn:=h_ (fun W hW=>bq_ W A c ps hW hm ht);by_cases hf:opFault ps=0
 · by_cases h1:y<0∨(lens ps).1<y
   · rw [show moveErr y ps=2 by simp [moveErr,hf,h1],if_neg (by decide)]
     rw [hf]at hC;have HC:=h_ hC;clear hC hf ht hT;generalize lens ps=L at*;obtain⟨L1,L2⟩:=L;dsimp only at*;have H1:=h_ h1;clear h1;go_enter Tryz.func108,Tryz.ntmps108
     go_wp2_with fail
     refine HC.o.mono ?_;rintro e w1 ⟨rfl,hb1⟩;have HS1:=h_ (Sl.la hs hb1);obtain⟨⟨d1,os1⟩,rfl⟩:=e_ hb1;go_wp2_with fail
     refine(HLn.o _ HS1.o).mono ?_;rintro e w2 ⟨rfl,hb2⟩;obtain⟨⟨d2,os2⟩,rfl⟩:=e_ hb2;go_wp2_with fail
     refine(In_no _ _ _ _ H1.o).mono ?_;rintro e w' ⟨rfl,rfl⟩;go_wp2_with fail
     go_ret2
     exact⟨rfl,bz_⟩
   · rw [show moveErr y ps=0 by simp [moveErr,hf,h1],if_pos rfl,hW j ps y 0 0 (cr_ hf).2.1 (by omega)]
     exact hL w y j A c ps hT hs hm ht hf (by omega) (by omega)
 · rw [show moveErr y ps=opFault ps by simp [moveErr,hf],if_neg hf]
   have hb0:(opFault ps==0)=false:=(by simpa using hf);generalize opFault ps=x at*;generalize lens ps=L at*;obtain⟨L1,L2⟩:=L;dsimp only at*;have HC:=h_ hC;clear hC hf;go_enter Tryz.func108,Tryz.ntmps108
   go_wp2_with fail
   refine HC.o.mono ?_;rintro e w1 ⟨rfl,hb1⟩;have HS1:=h_ (Sl.la hs hb1);obtain⟨⟨d1,os1⟩,rfl⟩:=e_ hb1;go_wp2_with fail
   refine(HLn.o _ HS1.o).mono ?_;rintro e w2 ⟨rfl,hb2⟩;obtain⟨⟨d2,os2⟩,rfl⟩:=e_ hb2;go_wp2_with fail
   go_ret2
   exact⟨rfl,bz_⟩
end
theorem m19_{P:Prop}(h:P:=by
 first
 |guard_hyp vAE
  have HMV:Hid (∀(W:World) (a:Int),Tabs W->OpIn (· <W.heap.size) W pA ps->Calls Tryz.prog 108 #[.int .i64 a,.slice pA ps.length pc,.bool push] W fun e w'=> ∃er,e= .returned (.tuple #[.int .i64 (mvI push ps a),.int .i64 er])∧Below W.heap.size W w'):=h_ (fun W a hT hs=>(Moved_c W a push pA pc ps hT hs hm ht).mono fun e w' h=>⟨_,h.1,h.2⟩)
 |have HMV:Hid (∀(W:World) (a:Int),Tabs W->OpIn (· <W.heap.size) W pA ps->Calls Tryz.prog 99 #[.int .i64 a,.slice pA ps.length pc,.bool push] W fun e w'=> ∃er,e= .returned (.tuple #[.int .i64 (mvI push ps a),.int .i64 er])∧Below W.heap.size W w'):=h_ (fun W a hT hs=>(bhl_ W a push pA pc ps hT hs hm ht).mono fun e w' h=>⟨_,h.1,h.2⟩)
 have HT:=h_ hT;have HB:=h_ h;have HOP:=h_ hop;have hbw:=h.base_le;clear hT h hop hm ht;obtain⟨x0,x1,x2,x3,x4,x5,x6,x7,x8,x9,xz⟩:=j_ HB.o.busy.blk;first
 |guard_hyp vAE
  go_enter Tryz.func65,Tryz.ntmps65
 |go_enter Tryz.func52,Tryz.ntmps52
 go_wp2_with fail
 first
 |guard_hyp vAE
  go_loopw [6] (fun i wr=> ∃(k:Nat),k<=s.n.M.length∧i= .int .i64 k∧Hid (EdAt 35 wr base X (s.withM s.n.mA s.n.mc (mvK push ps s.n.M k)))∧Hid (Below base w wr)∧Hid (Stay w X s wr (s.withM s.n.mA s.n.mc (mvK push ps s.n.M k)))) (fun i _=>s.n.M.length - (intOf i).toNat)
 |refine(cm_ _ X).mono ?_;rintro r w1 ⟨rfl,rfl⟩;go_wp2_with fail
  go_loopw [20] (fun i wr=> ∃(k:Nat),k<=s.n.M.length∧i= .int .i64 k∧Hid (EdAt 71 wr base X (s.withM s.n.mA s.n.mc (mvK push ps s.n.M k)))∧Hid (Below base w wr)∧Hid (Stay w X s wr (s.withM s.n.mA s.n.mc (mvK push ps s.n.M k)))) (fun i _=>s.n.M.length - (intOf i).toNat)
 case atStart=>exact⟨0,Nat.zero_le _,rfl,h_ (by rw [ji_];exact HB.o),h_ (Below.refl _ _),h_ (by rw [ji_];exact Stay.refl w X s)⟩
 case round=>
  obtain⟨k,hk,rfl,HR,HBW,HST⟩:=hrel
  (try clear x0 x1 x2 x3 x4 x5 x6 x7 x8 x9 xz)
  obtain⟨x0,x1,x2,x3,x4,x5,x6,x7,x8,x9,xz⟩:=j_ HR.o.busy.blk;have hML:=yo_ push ps s.n.M k;replace x7:wr.cell? ⟨X,7,none⟩=some (.slice s.n.mA s.n.M.length s.n.mc):=by rw [<-hML];exact x7
  have HL:=h_ hML;by_cases hlt:k<s.n.M.length
  ·obtain⟨g,hg⟩: ∃g,s.n.mA=some ⟨g,0,none⟩:=by
    obtain⟨g,cap,hv,_,_⟩:=HB.o.mrow.form (by omega);exact⟨g,by injection hv⟩
   have hr:=HR.o.mrow;have hrl:=hr;rw [hg]at x7;rw [hg];have HG:=h_ hg;have hMk:(mvK push ps s.n.M k)[k]?=some s.n.M[k]:=bcp_ hlt;have hcs: ∀j u,(markCells s.n.M[k])[j]?=some u->wr.cell? ⟨g,k*2+j,none⟩=some u:=fun j u hu=>by
    have hq:wr.ownsRow base 53 2 (.slice s.n.mA (mvK push ps s.n.M k).length s.n.mc) (mvK push ps s.n.M k).length ((mvK push ps s.n.M k).flatMap markCells):=hr;rw [hg]at hq;have hj:j<2:=(List.getElem?_eq_some_iff.1 hu).1;have hk2:k<(mvK push ps s.n.M k).length:=(by omega);rw [hq.cellAt (k*2+j) (by omega),bx_ markCells 2 bp_ _ k j hk2 hj];rw [List.getElem?_eq_getElem hk2]at hMk;rw [Option.some.inj hMk];exact hu
   have c0:wr.cell? ⟨g,k*2,none⟩=some (.int .i64 s.n.M[k].1):=hcs 0 _ rfl;have c1:wr.cell? ⟨g,k*2+1,none⟩=some (.int .i64 s.n.M[k].2):=hcs 1 _ rfl;have hgl:base<=g∧g<wr.heap.size:=hr.lt g (by show(Value.slice s.n.mA _ _).ownBlock=some g;rw [hg];rfl);first
   |guard_hyp vAE
    have HSET:=h_ (fun(W:World) (hW:Below wr.heap.size wr W)=>EdAt.setMark (k:=k) bn_ (HR.o.la hW) (by rw [show(s.withM s.n.mA s.n.mc (mvK push ps s.n.M k)).n.M=mvK push ps s.n.M k from rfl,HL.o];exact hlt) HG.o (mvI push ps s.n.M[k].1) (mvI push ps s.n.M[k].2))
   |have HSET:=h_ (fun(W:World) (hW:Below wr.heap.size wr W)=>EdAt.setMark (k:=k) bi_ (HR.o.la hW) (by rw [show(s.withM s.n.mA s.n.mc (mvK push ps s.n.M k)).n.M=mvK push ps s.n.M k from rfl,HL.o];exact hlt) HG.o (mvI push ps s.n.M[k].1) (mvI push ps s.n.M[k].2))
   have HSU:=h_ (vm_ (push:=push) (ps:=ps) hlt);have HLT:=h_ hlt;have hki:(k:Int)<(s.n.M.length:Int):=(by omega);have HOK:=h_ (HOP.o.mv fun b hb=>HST.o b hb);clear hcs hMk hr hrl hML hg;generalize s.n.M[k]=m at*;obtain⟨m1,m2⟩:=m;dsimp only at c0 c1;have HSU:=h_ (show(mvK push ps s.n.M k).set k (mvI push ps m1,mvI push ps m2)=mvK push ps s.n.M (k+1)from HSU.o);go_wp2_with fail
   first
   |guard_hyp vAE
   |obtain⟨WX,hWX⟩:=q2_ (wr.alloc (.cells #[.int .i64 m1,.int .i64 m2] 53));have hbx:Below wr.heap.size wr WX:=(by rw [hWX];exact bA_);have hF:WX.heap[wr.heap.size]?=some (.cells #[.int .i64 m1,.int .i64 m2] 53 (0,0)):=(by rw [hWX];exact World.alloc_heap_new _ _);obtain⟨B,hB⟩:=q2_ (wr.heap.size);rw [<-hB]at hF;rw [<-hWX,<-hB];have hBz:B<WX.heap.size:=(Array.getElem?_eq_some_iff.1 hF).1;have hgB: ¬g=B:=(by omega);have hBg: ¬B=g:=by omega
   have hbw2:=HBW.o.size;have hwb:base<=wr.heap.size:=(by omega);first
   |guard_hyp vAE
    refine(HMV.o wr _ (HT.o _ HBW.o) (HOK.o.mv fun b hb=>⟨hb.lt,rfl⟩)).mono ?_
   |refine(HMV.o WX _ (HT.o _ (HBW.o.trans (hbx.mono hwb))) ((HOK.o.mv fun b hb=>⟨hb.lt,rfl⟩).la hbx)).mono ?_
   rintro r w2 ⟨er,rfl,hb2⟩;first
   |guard_hyp vAE
    have HB2:=h_ hb2;have b1:=(World.cell?_of_block (a:=⟨g,k*2+1,none⟩) (hb2.block g hgl.2)).trans c1;have b7:=(World.cell?_of_block (a:=⟨X,7,none⟩) (hb2.block X xz)).trans x7;clear hb2 c0 c1 x0 x1 x2 x3 x4 x5 x6 x7 x8 x9 xz
   |have HB2:=h_ (bThen hbx hb2);have hF2:=(hb2.block B hBz).trans hF;obtain⟨b0,b1,_,_,bz⟩:=bfw_ hF2;clear hWX hB hF hbx hb2 c0 c1 x0 x1 x2 x3 x4 x5 x6 x7 x8 x9 xz
   go_wp2_with fail
   refine(HMV.o w2 _ (HT.o _ (HBW.o.trans (HB2.o.mono hwb))) ((HOK.o.mv fun b hb=>⟨hb.lt,rfl⟩).la HB2.o)).mono ?_;rintro r w3 ⟨er2,rfl,hb3⟩;have HB3:=h_ (bThen HB2.o hb3);obtain⟨p1,p2,p3,p4⟩:=HSET.o w3 HB3.o;have hq:=(HR.o.la HB3.o).mrow;have hq:w3.ownsRow base 53 2 (.slice s.n.mA (mvK push ps s.n.M k).length s.n.mc) (mvK push ps s.n.M k).length ((mvK push ps s.n.M k).flatMap markCells):=hq;rw [HG.o]at hq;have hlen:((mvK push ps s.n.M k).flatMap markCells).length=(mvK push ps s.n.M k).length*2:=hq.1;have hkl:k<(mvK push ps s.n.M k).length:=(by rw [HL.o];exact HLT.o);have e0: ∃v,w3.cell? ⟨g,k*2,none⟩=some v:=⟨_,by rw [hq.cellAt (k*2) (by omega)];exact List.getElem?_eq_getElem (by omega)⟩
   have e1: ∃v,w3.cell? ⟨g,k*2+1,none⟩=some v:=⟨_,by rw [hq.cellAt (k*2+1) (by omega)];exact List.getElem?_eq_getElem (by omega)⟩
   obtain⟨v0,e0⟩:=e0;obtain⟨v1,e1⟩:=e1;have fr:=hq.frozenAt;have f0:=fr (k*2);have f1:=fr (k*2+1);obtain⟨x0,x1,x2,x3,x4,x5,x6,x7,x8,x9,xz⟩:=j_ (HR.o.la HB3.o).busy.blk;replace x7:w3.cell? ⟨X,7,none⟩=some (.slice (some ⟨g,0,none⟩) s.n.M.length s.n.mc):=by rw [<-HL.o,<-HG.o];exact x7
   first
   |guard_hyp vAE
    have HP1:=h_ (show EdAt 35 ((w3.setCell ⟨g,k*2,none⟩ (.int .i64 (mvI push ps m1))).setCell ⟨g,k*2+1,none⟩ (.int .i64 (mvI push ps m2))) base X (s.withM s.n.mA s.n.mc ((mvK push ps s.n.M k).set k (mvI push ps m1,mvI push ps m2)))from p1)
   |have HP1:=h_ (show EdAt 71 ((w3.setCell ⟨g,k*2,none⟩ (.int .i64 (mvI push ps m1))).setCell ⟨g,k*2+1,none⟩ (.int .i64 (mvI push ps m2))) base X (s.withM s.n.mA s.n.mc ((mvK push ps s.n.M k).set k (mvI push ps m1,mvI push ps m2)))from p1)
   have HP3:=h_ p3;have HPS:=h_ (show Stay w X s ((w3.setCell ⟨g,k*2,none⟩ (.int .i64 (mvI push ps m1))).setCell ⟨g,k*2+1,none⟩ (.int .i64 (mvI push ps m2))) (s.withM s.n.mA s.n.mc ((mvK push ps s.n.M k).set k (mvI push ps m1,mvI push ps m2)))from HST.o.trans ((Stay.of_below HB3.o).trans p4));have HPB:=h_ ((HBW.o.trans (HB3.o.mono hwb)).trans (p2.below p3 (by have:=HB3.o.size;omega)));first
   |guard_hyp vAE
    clear p1 p2 p3 p4 hq hlen hkl fr hb3 b1 b7
   |clear p1 p2 p3 p4 hq hlen hkl fr hb3 b0 b1 bz hF2
   go_wp2_with fail
   rw [HSU.o,HG.o]at HP1 HPS;go_roundw
   case rel=>exact⟨k+1,by have:=HLT.o;omega,by go_num,HP1,HPB,HPS⟩
   case measure=>have:=HLT.o;simp [intOf];omega
  ·obtain rfl:k=s.n.M.length:=(by omega);rw [vl_]at HR HST;go_wp2_with fail
   exact bodyPost_end (results_none rfl _ _ _) rfl ⟨rfl,_,HR.o,rfl,HBW.o,HST.o⟩):P:=h
theorem m43_{P:Prop}(h:P:=by
 obtain⟨d1,d2,d3⟩:=nn_ s i f.d;have hg:s.n.S.getD i default=s.n.S[i]:=by rw [List.getD_eq_getElem?_getD,List.getElem?_eq_getElem hi];rfl
 have hbw:base<=w.heap.size:=h.base_le;by_cases hE:sendE s.n.S[i].k f.d=0
 ·have h1:=hE;unfold sendE at h1;split at h1
  ·cases h1
  rename_i c1;split at h1
  ·cases h1
  rename_i c2;split at h1
  ·rename_i c3;exact absurd h1 c3
  rename_i c3;split at h1
  ·cases h1
  rename_i c4;first
  |guard_hyp vBK
   refine(or_ w base X s.n s.A s.c s.L (.slice s.RA s.RL.length s.rc) _ i hi f hT h.busy hm hf hfm (by simpa using c1) c2 (by simpa using c3) c4 hl).mono ?_
  |refine(wk_ w base X s.n s.A s.c s.L (.slice s.RA s.RL.length s.rc) _ i hi f hT h.busy hm hf hfm (by simpa using c1) c2 (by simpa using c3) c4 hl).mono ?_
  rintro e w' ⟨rfl,l',A',c',L',hB,hd,hP,hb,ht⟩;have hso:(s.n.link i l').sOwn=s.n.sOwn:=by simp [NodeV.sOwn,NodeV.link]
  refine⟨rfl,⟨s.n.link i l',A',c',L',s.RA,s.rc,s.RL⟩,EditAt.touched h ⟨rfl,rfl,rfl⟩ ⟨rfl,rfl,rfl⟩ hso hB ht,EdD.ext' (d1.trans ?_).symm (d2.trans ?_).symm d3.symm,hb,Stay.touch (s:=s) (s':=⟨s.n.link i l',A',c',L',s.RA,s.rc,s.RL⟩) hso rfl rfl rfl ht⟩
  ·show _=(s.n.link i l').d;unfold sentD;rw [ki_,hd,hg,if_pos hE]
  ·show _=L'.map PostV.d;unfold sentP;rw [hP,hg,if_pos hE]
 ·first
  |guard_hyp vBK
   refine(oq_ w base X s.n s.A s.c s.L (.slice s.RA s.RL.length s.rc) _ i hi f hT h.busy hm hf hfm hE).mono ?_
  |refine(wj_ w base X s.n s.A s.c s.L (.slice s.RA s.RL.length s.rc) _ i hi f hT h.busy hm hf hfm hE).mono ?_
  rintro e w' ⟨rfl,hb⟩;refine⟨rfl,s,h.la hb,EdD.ext' (d1.trans ?_).symm (d2.trans ?_).symm d3.symm,hb.mono hbw,Stay.of_below hb⟩
  ·unfold sentD;rw [hg,if_neg hE]
  ·unfold sentP;rw [hg,if_neg hE];simp):P:=h
theorem m235_{P:Prop}(h:P:=by
 show(s'.n.S.map SideV.d).getD k default=_;rw [ci_,List.getD_eq_getElem?_getD,List.getElem?_eq_getElem hk];rfl):P:=h
theorem m256_{P:Prop}(h:P:=by
 unfold packetFault at he;by_cases g:(p.epoch<0∨1048576<p.epoch)∨(p.number<0∨1048576<p.number)∨(p.ack<0∨1048576<p.ack)
 ·rw [if_pos g]at he;cases he
 ·omega):P:=h
theorem xh_(w:World)(base X:Nat)(n:NodeV)(A RA:OA_)(c rc:Nat)(L:List PostV)(RL:List RecV)(s:Nat)(hs:s<n.S.length)(f:FrameV)(hT:Tabs w)(h:EditAt 35 w base X n A c L RA rc RL)(hm:n.S[s].k.Small)(hf:OpIn (· <w.heap.size) w f.o.A f.o.ps)(hfm:f.Small)(hl:L.length<=1099511000000):
 Calls Tryz.prog 41 #[.pointer (some ⟨X,0,none⟩),.int .i64 s,frameV f.k f.h f.e f.o.A f.o.ps.length f.o.c f.s] w fun e w'=>e= .returned (.tuple #[])∧ ∃n' A' c' L',EditAt 35 w' base X n' A' c' L' RA rc RL∧n'.d=sentD n s f.d∧L'.map PostV.d=L.map PostV.d++sentP n s f.d∧Below base w w':=by
 exact m128_
instance:Inhabited SideD:=⟨(default:SideV).d⟩
structure EdV where
 n:NodeV
 A:Option Addr
 c:Nat
 L:List PostV
 RA:Option Addr
 rc:Nat
 RL:List RecV
structure EdD where
 n:NodeD
 L:List PostD
 R:List (Int × List PartD)
abbrev EdV.d (s:EdV):EdD:=⟨s.n.d,s.L.map PostV.d,s.RL.map RecV.key⟩
abbrev EdAt (T:TypeId) (W:World) (base X:Nat) (s:EdV):Prop:=EditAt T W base X s.n s.A s.c s.L s.RA s.rc s.RL
def Off (W:World) (X:Nat) (s:EdV) (b:Nat):Prop:=FreeX W 0 X (Value.slice s.A s.L.length s.c).ownBlock s.n.sOwn [s.n.mOwn,s.n.uOwn,(Value.slice s.RA s.RL.length s.rc).ownBlock] b
def Stay (w:World) (X:Nat) (s:EdV) (w':World) (s':EdV):Prop:= ∀b,Off w X s b->Off w' X s' b∧w'.heap[b]?=w.heap[b]?
theorem Stay.trans{w w1 w2:World}{X:Nat}{s s1 s2:EdV}(h:Stay w X s w1 s1)(k:Stay w1 X s1 w2 s2):Stay w X s w2 s2:=fun b hb=>⟨(k b (h b hb).1).1,(k b (h b hb).1).2.trans (h b hb).2⟩
theorem Stay.of_below{w w':World}{X:Nat}{s:EdV}(hb:Below w.heap.size w w'):Stay w X s w' s:=fun b h=>⟨⟨⟨h.1.1,Nat.lt_of_lt_of_le h.1.2 hb.size⟩,h.2⟩,hb.block b h.1.2⟩
theorem Stay.refl(w:World)(X:Nat)(s:EdV):Stay w X s w s:=Stay.of_below (Below.refl _ _)
theorem EdAt.off{T:TypeId}{W:World}{base X:Nat}{s:EdV}(h:EdAt T W base X s){b:Nat}(hb:b<base):Off W X s b:=by
 have hlo:=h.busy.lo;have hlt:=h.busy.lt;refine⟨⟨Nat.zero_le _,by omega⟩,by omega,fun e=>by have:=(h.busy.prow.lt b e).1;omega,fun e=>by have:=(h.busy.srow.lt b e).1;omega,fun r hr e=>?_⟩;simp only [List.mem_cons,List.not_mem_nil,or_false]at hr;rcases hr with rfl | rfl | rfl
 ·have:=(h.mrow.lt b e).1;omega
 ·have:=(h.urow.lt b e).1;omega
 ·have:=(h.rrow.lt b e).1;omega
theorem Off.lt{W:World}{X:Nat}{s:EdV}{b:Nat}(h:Off W X s b):b<W.heap.size:=h.1.2
theorem bez_{W:World}{base X:Nat}{s:EdV}{b:Nat}(h:FreeX W base X (Value.slice s.A s.L.length s.c).ownBlock s.n.sOwn [s.n.mOwn,s.n.uOwn,(Value.slice s.RA s.RL.length s.rc).ownBlock] b):Off W X s b:=⟨⟨Nat.zero_le _,h.1.2⟩,h.2⟩
section
variable {T:TypeId}{w W:World}{base X:Nat}{s:EdV}(h:EdAt T w base X s)
include T w W base X s h
theorem EdAt.fresh{b:Nat}(h1:w.heap.size<=b)(h2:b<W.heap.size):Off W X s b:=by
 have hlt:=h.busy.lt;refine⟨⟨Nat.zero_le _,h2⟩,by omega,fun e=>by have:=(h.busy.prow.lt b e).2;omega,fun e=>by have:=(h.busy.srow.lt b e).2;omega,fun r hr e=>by have:=(h.busy.exl r hr b e).1.1;omega⟩
theorem EdAt.la(hb:Below w.heap.size w W):EdAt T W base X s:=EditAt.la h hb
end
theorem EdAt.base_le{T:TypeId}{w:World}{base X:Nat}{s:EdV}(h:EdAt T w base X s):base<=w.heap.size:=by
 have:=h.busy.lo;have:=h.busy.lt;omega
def Goes (T:TypeId) (base X:Nat) (w:World) (s:EdV) (D:EdD) (e:Ending) (w':World):Prop:=e= .returned (.tuple #[])∧ ∃s',EdAt T w' base X s'∧s'.d=D∧Below base w w'∧Stay w X s w' s'
theorem Stay.touch{w w':World}{X:Nat}{s s':EdV}(hs:s'.n.sOwn=s.n.sOwn)(hm:s'.n.mOwn=s.n.mOwn)(hu:s'.n.uOwn=s.n.uOwn)(hr:(Value.slice s'.RA s'.RL.length s'.rc).ownBlock=(Value.slice s.RA s.RL.length s.rc).ownBlock)
 (ht:Touch w w' X (Value.slice s.A s.L.length s.c).ownBlock s.n.sOwn (Value.slice s'.A s'.L.length s'.c).ownBlock):Stay w X s w' s':=fun b k=>by
 unfold Off at k⊢;rw [hs,hm,hu,hr];refine⟨⟨⟨k.1.1,Nat.lt_of_lt_of_le k.1.2 ht.size⟩,k.2.1,fun e=>?_,k.2.2.2⟩,ht.block b k.1.2 k.2.1 k.2.2.1 k.2.2.2.1⟩;rcases ht.own with e1 | e1
 · exact k.2.2.1 (e1.symm.trans e)
 · have:=e1 b e
   have:=k.1.2;omega
def FrameD.v (f:FrameD):FrameV:=⟨f.kind,f.heard,f.epoch,⟨none,0,f.op⟩,f.text⟩
def LinkD.v (l:LinkD):LinkV:=⟨l.e,l.n,none,0,l.s.map FrameD.v,none,0,l.q.map FrameD.v,l.h⟩
theorem bey_(L:List FrameD):(L.map FrameD.v).map FrameV.d=L:=by
 rw [List.map_map];exact List.map_id'' (fun _=>rfl) L
theorem LinkD.vd(l:LinkD):l.v.d=l:=by
 obtain⟨e,n,s,q,h⟩:=l;simp only [LinkV.d,LinkD.v,bey_]
theorem bhh_{l l':LinkV}(h:l'.d=l.d)(f:FrameD):sendE l' f=sendE l f:=by
 have h1:linkMay l'↔linkMay l:=⟨fun k=>gt_ h.symm k,fun k=>gt_ h k⟩
 have h2:l'.e=l.e:=congrArg LinkD.e h;have h3:l'.n=l.n:=congrArg LinkD.n h;unfold sendE;rw [h2,h3];simp only [h1]
def sendED (l:LinkD) (f:FrameD):Int:=sendE l.v f
theorem bfs_(l:LinkV)(f:FrameD):sendED l.d f=sendE l f:=bhh_ (LinkD.vd l.d) f
def opsV (L:List (List PartD)):List OpV:=L.map fun p=>⟨none,0,p⟩
theorem qw_(L:List (List PartD)):(opsV L).map OpV.ps=L:=by
 unfold opsV;rw [List.map_map];exact List.map_id'' (fun _=>rfl) L
theorem bbv_{L L':List OpV}(h:L'.map OpV.ps=L.map OpV.ps)(ps:LP_):badLast L' ps=badLast L ps:=by
 have h1:=congrArg List.getLast? h;rw [List.getLast?_map,List.getLast?_map]at h1;unfold badLast;rcases hq:L.getLast? with _ | q <;> rcases hq':L'.getLast? with _ | q' <;> rw [hq,hq']at h1
 ·cases h1
 ·cases h1
 ·simp only [Option.map_some,Option.some.injEq]at h1;dsimp only;rw [h1]
theorem bdg_{s h:Int}{L L':List OpV}(hd:L'.map OpV.ps=L.map OpV.ps)(ps:LP_):sendErr s h L' ps=sendErr s h L ps:=by
 have h1:edgeMay s h L'↔edgeMay s h L:=⟨fun k=>gr_ hd.symm k,fun k=>gr_ hd k⟩
 unfold sendErr;rw [bbv_ hd];simp only [h1]
def sendErrD (s h:Int) (L:List (List PartD)) (ps:LP_):Int:=sendErr s h (opsV L) ps
theorem po_(s h:Int)(L:List OpV)(ps:LP_):sendErrD s h (L.map OpV.ps) ps=sendErr s h L ps:=bdg_ (qw_ _) ps
def sendDD (D:EdD) (i:Nat) (f:FrameD):EdD:=
 if sendED (D.n.S.getD i default).k f=0 then
  ⟨⟨D.n.me,D.n.ep,D.n.up,D.n.rd,D.n.t,D.n.S.set i ⟨(D.n.S.getD i default).p,(D.n.S.getD i default).j,(D.n.S.getD i default).s,(D.n.S.getD i default).h,(D.n.S.getD i default).L,fillL (waitL (D.n.S.getD i default).k f)⟩,D.n.U,D.n.M⟩,
   D.L++(fillP (waitL (D.n.S.getD i default).k f)).map (PostD.mk (D.n.S.getD i default).p),D.R⟩
 else D
theorem ci_(L:List SideV)(i:Nat):(L.map SideV.d).getD i default=(L.getD i default).d:=by
 rw [List.getD_eq_getElem?_getD,List.getD_eq_getElem?_getD,List.getElem?_map];cases L[i]? <;> rfl
theorem nn_(s:EdV)(i:Nat)(f:FrameD):(sendDD s.d i f).n=sentD s.n i f∧(sendDD s.d i f).L=s.L.map PostV.d++sentP s.n i f∧(sendDD s.d i f).R=s.RL.map RecV.key:=by
 unfold sendDD sentD sentP;simp only [EdV.d,NodeV.d,ci_,bfs_];by_cases h:sendE (s.n.S.getD i default).k f=0
 ·rw [if_pos h,if_pos h,if_pos h];exact⟨rfl,rfl,rfl⟩
 ·rw [if_neg h,if_neg h,if_neg h];exact⟨rfl,by simp,rfl⟩
def edgeDD (D:EdD) (i:Nat) (es:Int) (L:List (List PartD)):EdD:=
 ⟨⟨D.n.me,D.n.ep,D.n.up,D.n.rd,D.n.t,D.n.S.set i ⟨(D.n.S.getD i default).p,(D.n.S.getD i default).j,es,(D.n.S.getD i default).h,L,(D.n.S.getD i default).k⟩,D.n.U,D.n.M⟩,D.L,D.R⟩
def passD (ps:LP_) (but:Int) (D:EdD) (i:Nat):EdD:=
 if(i:Int)=but∨(D.n.S.getD i default).j=false then D
 else if sendErrD (D.n.S.getD i default).s (D.n.S.getD i default).h (D.n.S.getD i default).L ps=0 then
  sendDD (edgeDD D i ((D.n.S.getD i default).s+1) ((D.n.S.getD i default).L++ [ps])) i ⟨1,(D.n.S.getD i default).h,0,ps,⟨#[]⟩⟩
 else D
def recDD (ps:LP_) (D:EdD):EdD:=if D.n.me=0 then⟨D.n,D.L,D.R++ [(0,ps)]⟩else D
def passesD (ps:LP_) (but:Int) (D:EdD) (k:Nat):EdD:=(List.range k).foldl (passD ps but) D
theorem db_(ps:LP_)(but:Int)(D:EdD)(k:Nat):passesD ps but D (k+1)=passD ps but (passesD ps but D k) k:=by
 unfold passesD;rw [List.range_succ,List.foldl_append];rfl
def spreadD (ps:LP_) (but:Int) (D:EdD):EdD:=passesD ps but (recDD ps D) D.n.S.length
theorem wi_(D:EdD)(i:Nat)(f:FrameD):(sendDD D i f).n.S.length=D.n.S.length∧(∀j,j≠i->(sendDD D i f).n.S[j]?=D.n.S[j]?)∧(sendDD D i f).L.length<=D.L.length+8:=by
 unfold sendDD;split
 ·refine⟨by simp,fun j hj=>List.getElem?_set_ne (by omega),?_⟩;have:=gl_ (waitL (D.n.S.getD i default).k f);rw [List.length_append,List.length_map];omega
 ·exact⟨rfl,fun _ _=>rfl,by omega⟩
theorem ma_(ps:LP_)(but:Int)(D:EdD)(i:Nat):(passD ps but D i).n.S.length=D.n.S.length∧(∀j,j≠i->(passD ps but D i).n.S[j]?=D.n.S[j]?)∧(passD ps but D i).L.length<=D.L.length+8:=by
 unfold passD;split
 ·exact⟨rfl,fun _ _=>rfl,by omega⟩
 ·split
  ·obtain⟨h1,h2,h3⟩:=wi_ (edgeDD D i ((D.n.S.getD i default).s+1) ((D.n.S.getD i default).L++ [ps])) i ⟨1,(D.n.S.getD i default).h,0,ps,⟨#[]⟩⟩;refine⟨h1.trans (by simp [edgeDD]),fun j hj=>(h2 j hj).trans ?_,h3⟩;unfold edgeDD;exact List.getElem?_set_ne (by omega)
  ·exact⟨rfl,fun _ _=>rfl,by omega⟩
theorem ef_(ps:LP_)(but:Int)(D:EdD)(k:Nat):(passesD ps but D k).n.S.length=D.n.S.length∧(∀j,k<=j->(passesD ps but D k).n.S[j]?=D.n.S[j]?)∧(passesD ps but D k).L.length<=D.L.length+8*k:=by
 induction k with
 | zero=>exact⟨rfl,fun _ _=>rfl,by simp [passesD]⟩
 | succ k ih=>
  obtain⟨h1,h2,h3⟩:=ma_ ps but (passesD ps but D k) k;rw [db_];exact⟨h1.trans ih.1,fun j hj=>(h2 j (by omega)).trans (ih.2.1 j (by omega)),by have:=ih.2.2;omega⟩
theorem iu_(ps:LP_)(D:EdD):(recDD ps D).n=D.n∧(recDD ps D).L=D.L:=by
 unfold recDD;split <;> exact⟨rfl,rfl⟩
abbrev EdV.withM (s:EdV) (mA:OA_) (mc:Nat) (M:List (Int × Int)):EdV:=⟨s.n.withM mA mc M,s.A,s.c,s.L,s.RA,s.rc,s.RL⟩
theorem EdAt.setMark{T:TypeId}{W:World}{base X:Nat}{s:EdV}(hT:TurnT T)(h:EdAt T W base X s){k:Nat}(hk:k<s.n.M.length){g:Nat}(hg:s.n.mA=some ⟨g,0,none⟩)(a b:Int):
 EdAt T ((W.setCell ⟨g,k*2,none⟩ (.int .i64 a)).setCell ⟨g,k*2+1,none⟩ (.int .i64 b)) base X (s.withM s.n.mA s.n.mc (s.n.M.set k (a,b)))∧Only g W ((W.setCell ⟨g,k*2,none⟩ (.int .i64 a)).setCell ⟨g,k*2+1,none⟩ (.int .i64 b))∧
  base<=g∧Stay W X s ((W.setCell ⟨g,k*2,none⟩ (.int .i64 a)).setCell ⟨g,k*2+1,none⟩ (.int .i64 b)) (s.withM s.n.mA s.n.mc (s.n.M.set k (a,b))):=by
 have hQ:s.n.mOwn=some g:=by rw [NodeV.mOwn,hg];rfl
 have hr:=h.mrow;have hgl:=hr.lt g hQ;rw [hg]at hr;obtain⟨r1,t1⟩:=hr.stored (k*2) (.int .i64 a);obtain⟨r2,t2⟩:=r1.stored (k*2+1) (.int .i64 b);have hO:Only g W ((W.setCell ⟨g,k*2,none⟩ (.int .i64 a)).setCell ⟨g,k*2+1,none⟩ (.int .i64 b)):=q5_.trans q5_;have hz:((W.setCell ⟨g,k*2,none⟩ (.int .i64 a)).setCell ⟨g,k*2+1,none⟩ (.int .i64 b)).heap.size=W.heap.size:=by simp [World.setCell]
 generalize(W.setCell ⟨g,k*2,none⟩ (.int .i64 a)).setCell ⟨g,k*2+1,none⟩ (.int .i64 b)=W5 at*;have hgX:g≠X:=fun e=>s_ h.mrow h.busy.blk hT.m (by rw [<-e];exact hQ);have hlen:(s.n.M.set k (a,b)).length=s.n.M.length:=by simp
 have hmo:(Value.slice s.n.mA (s.n.M.set k (a,b)).length s.n.mc).ownBlock=s.n.mOwn:=by rw [hlen]
 have hrow:W5.ownsRow base 53 2 (.slice s.n.mA (s.n.M.set k (a,b)).length s.n.mc) (s.n.M.set k (a,b)).length ((s.n.M.set k (a,b)).flatMap markCells):=by
  rw [hlen,hg];have e:((s.n.M.flatMap markCells).set (k*2) (.int .i64 a)).set (k*2+1) (.int .i64 b)=(s.n.M.set k (a,b)).flatMap markCells:=by
   have hM: ∀r∈s.n.M.map markCells,r.length=2:=fun r hr=>by
    obtain⟨x,_,rfl⟩:=List.mem_map.1 hr;exact bp_ x
   have hsM:k<(s.n.M.map markCells).length:=(by simpa using hk);have h0:k*2=k*2+0:=rfl;rw [List.flatMap_def,List.flatMap_def,h0,fg_ 2 _ _ hM k 0 hsM (by omega),ce_ 2 _ _ hM k 1 hsM (by omega) _ (by simp [bp_])];rw [List.map_set];congr 2;rw [List.getElem_map];rfl
  rw [<-e];exact r2
 refine⟨EditAt.markRow hT h (Below.refl _ _) (w3:=W5) ⟨hO.os,hO.tape,hO.output,hO.size,fun x h1 h2=>hO.block x h1 (fun e=>h2 (by rw [hQ,e]))⟩ hrow (.inl hmo) rfl (fun _ _=>rfl) ?_,hO,hgl.1,fun y hb=>?_⟩
 ·have:=(hO.block X h.busy.lt (fun e=>hgX e.symm)).trans h.busy.blk;rw [show turnCells (s.n.withM s.n.mA s.n.mc (s.n.M.set k (a,b))) (.slice s.A s.L.length s.c) (.slice s.RA s.RL.length s.rc)=turnCells s.n (.slice s.A s.L.length s.c) (.slice s.RA s.RL.length s.rc) by simp only [turnCells,NodeV.withM,hlen]];exact this
 ·have hne:y≠g:=fun e=>hb.2.2.2.2 s.n.mOwn (by simp) (by rw [hQ,e]);refine⟨?_,hO.block y hb.1.2 hne⟩;have hmo':(s.n.withM s.n.mA s.n.mc (s.n.M.set k (a,b))).mOwn=s.n.mOwn:=hmo;unfold Off;rw [hmo'];exact⟨⟨hb.1.1,by rw [hz];exact hb.1.2⟩,hb.2⟩
def mvI (push:Bool) (ps:LP_) (a:Int):Int:=if moveErr a ps=0 then moveGo push ps a 0 0 else 0
def mvM (push:Bool) (ps:LP_) (m:Int × Int):Int × Int:=(mvI push ps m.1,mvI push ps m.2)
def shiftD (push:Bool) (ps:LP_) (D:EdD):EdD:=⟨⟨D.n.me,D.n.ep,D.n.up,D.n.rd,D.n.t,D.n.S,D.n.U,D.n.M.map (mvM push ps)⟩,D.L,D.R⟩
def mvK (push:Bool) (ps:LP_) (M:List (Int × Int)) (k:Nat):List (Int × Int):=(M.take k).map (mvM push ps)++M.drop k
theorem yo_(push:Bool)(ps:LP_)(M:List (Int × Int))(k:Nat):(mvK push ps M k).length=M.length:=by
 simp [mvK];omega
section
variable {push:Bool}{ps:List PartD}{M:List (Int × Int)}{k:Nat}(hk:k<M.length)
include push ps M k hk
theorem bcp_:(mvK push ps M k)[k]?=some M[k]:=by
 unfold mvK;rw [List.getElem?_append_right (by simp;omega)];simp [Nat.min_eq_left (Nat.le_of_lt hk),List.getElem?_drop,List.getElem?_eq_getElem hk]
theorem vm_:(mvK push ps M k).set k (mvM push ps M[k])=mvK push ps M (k+1):=by
 unfold mvK;rw [List.set_append_right _ _ (by simp;omega),List.take_succ_eq_append_getElem hk,List.map_append,List.append_assoc];congr 1;have:k - ((M.take k).map (mvM push ps)).length=0:=by simp [Nat.min_eq_left (Nat.le_of_lt hk)]
 rw [this,List.drop_eq_getElem_cons hk];rfl
end
section
variable(push:Bool) (ps:LP_) (M:List (Int × Int))
include push ps M
theorem ji_:mvK push ps M 0=M:=by simp [mvK]
theorem vl_:mvK push ps M M.length=M.map (mvM push ps):=by simp [mvK]
end
theorem EdD.ext'{a b:EdD}(h1:a.n=b.n)(h2:a.L=b.L)(h3:a.R=b.R):a=b:=by
 obtain⟨x,y,z⟩:=a;obtain⟨x',y',z'⟩:=b;obtain rfl:x=x':=h1;obtain rfl:y=y':=h2;obtain rfl:z=z':=h3;rfl
section
variable(w:World) (base X:Nat) (s:EdV) (i:Nat) (hi:i<s.n.S.length) (f:FrameV) (hT:Tabs w)
include w base X s i hi f hT
theorem wl_(h:EdAt 71 w base X s)(hm:s.n.S[i].k.Small)(hf:OpIn (· <w.heap.size) w f.o.A f.o.ps)(hfm:f.Small)(hl:s.L.length<=1099511000000):
 Calls Tryz.prog 77 #[.pointer (some ⟨X,0,none⟩),.int .i64 i,frameV f.k f.h f.e f.o.A f.o.ps.length f.o.c f.s] w (Goes 71 base X w s (sendDD s.d i f.d)):=by
 exact m43_
theorem nd_(h:EdAt 35 w base X s)(hm:s.n.S[i].k.Small)(hf:OpIn (· <w.heap.size) w f.o.A f.o.ps)(hfm:f.Small)(hl:s.L.length<=1099511000000):
 Calls Tryz.prog 41 #[.pointer (some ⟨X,0,none⟩),.int .i64 i,frameV f.k f.h f.e f.o.A f.o.ps.length f.o.c f.s] w (Goes 35 base X w s (sendDD s.d i f.d)):=by
 have vBK:=h_ trivial;exact m43_
end
section
variable {T:TypeId}{w W W':World}{base X:Nat}{s s':EdV}
theorem Stay.below(h:EdAt T w base X s)(k:Stay w X s W s')(h1:W.os=w.os)(h2:W.tape=w.tape)(h3:W.output=w.output)(h4:w.heap.size<=W.heap.size):Below base w W:=
 ⟨h1,h2,h3,h4,fun b hb=>(k b (h.off hb)).2⟩
theorem EdAt.freshX(h:EdAt T w base X s){b:Nat}(h1:w.heap.size<=b)(h2:b<W.heap.size):FreeX W base X (Value.slice s.A s.L.length s.c).ownBlock s.n.sOwn [s.n.mOwn,s.n.uOwn,(Value.slice s.RA s.RL.length s.rc).ownBlock] b:=by
 have hlt:=h.busy.lt;have hlo:=h.busy.lo;exact⟨⟨by omega,h2⟩,by omega,fun e=>by have:=(h.busy.prow.lt b e).2;omega,fun e=>by have:=(h.busy.srow.lt b e).2;omega,fun r hr e=>by have:=(h.busy.exl r hr b e).1.1;omega⟩
abbrev EdV.edge (s:EdV) (i:Nat) (es eh:Int) (eA:OA_) (ec:Nat) (eL:List OpV):EdV:=⟨s.n.edge i es eh eA ec eL,s.A,s.c,s.L,s.RA,s.rc,s.RL⟩
theorem EdAt.setEdge(hT:TurnT T)(h:EdAt T W base X s){i:Nat}(hi:i<s.n.S.length){g:Nat}(hg:s.n.sA=some ⟨g,0,none⟩)(es eh:Int)(eA:OA_)(ec:Nat)(eL:List OpV)
 (hl:OpsS (FreeX W base X (Value.slice s.A s.L.length s.c).ownBlock s.n.sOwn [s.n.mOwn,s.n.uOwn,(Value.slice s.RA s.RL.length s.rc).ownBlock]) W eA eL):
 EdAt T (((W.setCell ⟨g,i*10+2,none⟩ (.int .i64 es)).setCell ⟨g,i*10+3,none⟩ (.int .i64 eh)).setCell ⟨g,i*10+4,none⟩ (.slice eA eL.length ec)) base X (s.edge i es eh eA ec eL)∧
  Only g W (((W.setCell ⟨g,i*10+2,none⟩ (.int .i64 es)).setCell ⟨g,i*10+3,none⟩ (.int .i64 eh)).setCell ⟨g,i*10+4,none⟩ (.slice eA eL.length ec))∧
  Stay W X s (((W.setCell ⟨g,i*10+2,none⟩ (.int .i64 es)).setCell ⟨g,i*10+3,none⟩ (.int .i64 eh)).setCell ⟨g,i*10+4,none⟩ (.slice eA eL.length ec)) (s.edge i es eh eA ec eL):=by
 have hB:=h.busy.setEdge hT.s hi hg es eh eA ec eL hl;have hO:Only g W (((W.setCell ⟨g,i*10+2,none⟩ (.int .i64 es)).setCell ⟨g,i*10+3,none⟩ (.int .i64 eh)).setCell ⟨g,i*10+4,none⟩ (.slice eA eL.length ec)):=(q5_.trans q5_).trans q5_;generalize(((W.setCell ⟨g,i*10+2,none⟩ (.int .i64 es)).setCell ⟨g,i*10+3,none⟩ (.int .i64 eh)).setCell ⟨g,i*10+4,none⟩ (.slice eA eL.length ec))=W5 at*;have hso:(s.n.edge i es eh eA ec eL).sOwn=s.n.sOwn:=by simp [NodeV.sOwn,NodeV.edge]
 have ht:Touch W W5 X (Value.slice s.A s.L.length s.c).ownBlock s.n.sOwn (Value.slice s.A s.L.length s.c).ownBlock:=fy_ hO (by rw [NodeV.sOwn,hg];rfl);exact⟨EditAt.touched h ⟨rfl,rfl,rfl⟩ ⟨rfl,rfl,rfl⟩ hso hB ht,hO,Stay.touch (s:=s) (s':=s.edge i es eh eA ec eL) hso rfl rfl rfl ht⟩
theorem on_(s:EdV)(i:Nat)(es eh:Int)(eA:OA_)(ec:Nat)(eL:List OpV)(hh:eh=(s.d.n.S.getD i default).h):(s.edge i es eh eA ec eL).d=edgeDD s.d i es (eL.map OpV.ps):=by
 subst hh;unfold edgeDD;refine EdD.ext' ?_ rfl rfl;simp only [NodeV.d,NodeV.edge,ci_,List.map_set]
theorem EdAt.record(hT:TurnT T){W2 w3:World}{RA':Option Addr}{rc':Nat}{x:RecV}(h:EdAt T w base X s)(hW:Below w.heap.size w W2)(hx:OpIn (fun b=>w.heap.size<=b∧b<W2.heap.size) W2 x.o.A x.o.ps)(hg:W2.grownBy w3 (Value.slice s.RA s.RL.length s.rc).ownBlock)
 (hown:w3.ownsRow (X+1) 119 2 (.slice RA' (s.RL.length+1) rc') (s.RL.length+1) (s.RL.flatMap RecV.cells++x.cells))
 (hat:(Value.slice RA' (s.RL.length+1) rc').ownBlock=(Value.slice s.RA s.RL.length s.rc).ownBlock∨(Value.slice RA' (s.RL.length+1) rc').ownBlock=some W2.heap.size):
 EdAt T (w3.setCell ⟨X,9,none⟩ (.slice RA' (s.RL.length+1) rc')) base X ⟨s.n,s.A,s.c,s.L,RA',rc',s.RL++ [x]⟩∧Below base w (w3.setCell ⟨X,9,none⟩ (.slice RA' (s.RL.length+1) rc'))∧Stay w X s (w3.setCell ⟨X,9,none⟩ (.slice RA' (s.RL.length+1) rc')) ⟨s.n,s.A,s.c,s.L,RA',rc',s.RL++ [x]⟩:=by
 obtain⟨h1,h2⟩:=EditAt.record hT h hW hx hg hown hat;generalize w3.setCell ⟨X,9,none⟩ (.slice RA' (s.RL.length+1) rc')=W4 at*;have hst:Stay w X s W4 ⟨s.n,s.A,s.c,s.L,RA',rc',s.RL++ [x]⟩:=fun b k=>by
  have hr:(Value.slice s.RA s.RL.length s.rc).ownBlock≠some b:=k.2.2.2.2 _ (by simp);refine⟨⟨⟨k.1.1,Nat.lt_of_lt_of_le k.1.2 h2.size⟩,k.2.1,k.2.2.1,k.2.2.2.1,fun r hr'=>?_⟩,h2.block b k.1.2 k.2.1 hr (by simp)⟩;simp only [List.mem_cons,List.not_mem_nil,or_false]at hr';rcases hr' with rfl | rfl | rfl
  ·exact k.2.2.2.2 _ (by simp)
  ·exact k.2.2.2.2 _ (by simp)
  ·rw [show(s.RL++ [x]).length=s.RL.length+1 by simp];rcases h2.own with e | e
   ·rw [e];exact hr
   ·intro q;have:=e b q;have:=k.1.2;omega
 exact⟨h1,hst.below h h2.os h2.tape h2.output h2.size,hst⟩
theorem EdAt.plain(hT:TurnT T)(h:EdAt T W base X s)(hO:Only X W W'){n':NodeV}(hn:n'.sA=s.n.sA∧n'.sc=s.n.sc∧n'.S=s.n.S)(hm:n'.mA=s.n.mA∧n'.mc=s.n.mc∧n'.M=s.n.M)(hu:n'.uA=s.n.uA∧n'.uc=s.n.uc∧n'.U=s.n.U)
 (hb:W'.heap[X]?=some (.cells (turnCells n' (.slice s.A s.L.length s.c) (.slice s.RA s.RL.length s.rc)) T (0,0))):EdAt T W' base X ⟨n',s.A,s.c,s.L,s.RA,s.rc,s.RL⟩∧Stay W X s W' ⟨n',s.A,s.c,s.L,s.RA,s.rc,s.RL⟩:=by
 refine⟨EditAt.turn hT h hO hn hm hu hb,fun b k=>?_⟩;have hmo:n'.mOwn=s.n.mOwn:=by unfold NodeV.mOwn;rw [hm.1,hm.2.1,hm.2.2]
 have huo:n'.uOwn=s.n.uOwn:=by unfold NodeV.uOwn;rw [hu.1,hu.2.1,hu.2.2]
 have hso:n'.sOwn=s.n.sOwn:=by unfold NodeV.sOwn;rw [hn.1,hn.2.1,hn.2.2]
 unfold Off at k⊢;rw [hmo,huo,hso];exact⟨⟨⟨k.1.1,Nat.lt_of_lt_of_le k.1.2 hO.size⟩,k.2⟩,hO.block b k.1.2 k.2.1⟩
end
def textD (D:EdD) (t:ByteArray):EdD:=⟨⟨D.n.me,D.n.ep,D.n.up,D.n.rd,t,D.n.S,D.n.U,D.n.M⟩,D.L,D.R⟩
theorem bfr_(D:EdD)(i:Nat)(f:FrameD):(sendDD D i f).n.U=D.n.U:=by
 unfold sendDD;split <;> rfl
section
variable(ps:LP_) (but:Int) (D:EdD)
include ps but D
theorem bhe_(i:Nat):(passD ps but D i).n.U=D.n.U:=by
 unfold passD;split
 ·rfl
 ·split
  ·rw [bfr_];rfl
  ·rfl
theorem bda_(k:Nat):(passesD ps but D k).n.U=D.n.U:=by
 induction k with
 | zero=>rfl
 | succ k ih=>rw [db_,bhe_,ih]
theorem bdr_:(spreadD ps but D).n.U=D.n.U:=by
 unfold spreadD;rw [bda_,(iu_ ps D).1]
end
abbrev EdV.withT (s:EdV) (t:ByteArray):EdV:=⟨⟨s.n.me,s.n.ep,s.n.up,s.n.rd,t,s.n.sA,s.n.sc,s.n.S,s.n.uA,s.n.uc,s.n.U,s.n.mA,s.n.mc,s.n.M⟩,s.A,s.c,s.L,s.RA,s.rc,s.RL⟩
theorem EdAt.setText{T:TypeId}{W:World}{base X:Nat}{s:EdV}(hT:TurnT T)(h:EdAt T W base X s)(t:ByteArray):EdAt T (W.setCell ⟨X,4,none⟩ (.string t)) base X (s.withT t)∧Below base W (W.setCell ⟨X,4,none⟩ (.string t))∧Stay W X s (W.setCell ⟨X,4,none⟩ (.string t)) (s.withT t):=by
 have hO:Only X W (W.setCell ⟨X,4,none⟩ (.string t)):=Only.set _ _ _;obtain⟨h1,h2⟩:=EdAt.plain (n':=(s.withT t).n) hT h hO ⟨rfl,rfl,rfl⟩ ⟨rfl,rfl,rfl⟩ ⟨rfl,rfl,rfl⟩ (f_ 4 _ h.busy.blk);exact⟨h1,hO.below h.busy.lo h.base_le,h2⟩
section
variable(w:World) (base X:Nat) (s:EdV) (pA:OA_) (pc:Nat) (ps:LP_) (push:Bool) (hT: ∀W,Below base w W->Tabs W)
include w base X s pA pc ps push hT
theorem bho_(h:EdAt 71 w base X s)(hop:OpIn (Off w X s) w pA ps)(hm:ps.length<=1048576)(ht: ∀p∈ps,p.text.size<=1048576)(hl:s.n.M.length<=1048576):
 Calls Tryz.prog 52 #[.pointer (some ⟨X,0,none⟩),.slice pA ps.length pc,.bool push] w (Goes 71 base X w s (shiftD push ps s.d)):=by
 exact m19_
theorem bdi_(h:EdAt 35 w base X s)(hop:OpIn (Off w X s) w pA ps)(hm:ps.length<=1048576)(ht: ∀p∈ps,p.text.size<=1048576)(hl:s.n.M.length<=1048576):
 Calls Tryz.prog 65 #[.pointer (some ⟨X,0,none⟩),.slice pA ps.length pc,.bool push] w (Goes 35 base X w s (shiftD push ps s.d)):=by
 have vAE:=h_ trivial;exact m19_
end
theorem md_{S S':List SideV}(h:S'.map SideV.d=S.map SideV.d)(hk: ∀x∈S,x.Small): ∀x∈S',x.Small:=fun x hx=>by
 have:x.d∈S.map SideV.d:=by rw [<-h];exact List.mem_map.2 ⟨x,hx,rfl⟩
 obtain⟨q,hq,e⟩:=List.mem_map.1 this;exact SideV.Small.of_d e.symm (hk q hq)
section
variable {s s':EdV}{ps:List PartD}{but:Int}{k:Nat}(hd:s'.d=passesD ps but (recDD ps s.d) k)
include s s' ps but k hd
theorem if_(hk:k<s.n.S.length)(hk':k<s'.n.S.length):s'.n.S[k].d=s.n.S[k].d:=by
 have h1:=(ef_ ps but (recDD ps s.d) k).2.1 k (Nat.le_refl _);rw [<-hd,(iu_ ps s.d).1]at h1;simpa [hk,hk']using h1
theorem fk_:s'.n.S.length=s.n.S.length:=by
 have h1:=(ef_ ps but (recDD ps s.d) k).1;rw [<-hd,(iu_ ps s.d).1]at h1;simpa using h1
theorem id_:s'.L.length<=s.L.length+8*k:=by
 have h1:=(ef_ ps but (recDD ps s.d) k).2.2;rw [<-hd,(iu_ ps s.d).2]at h1;simpa using h1
end
section
variable {s':EdV}{ps:List PartD}{but:Int}{k:Nat}(hk:k<s'.n.S.length)
include s' ps but k hk
theorem ic_(hs:(k:Int)=but∨s'.n.S[k].j=false):passD ps but s'.d k=s'.d:=by
 have hg:s'.d.n.S.getD k default=s'.n.S[k].d:=by
  exact m235_
 unfold passD;rw [hg,if_pos hs]
section
variable(hs: ¬((k:Int)=but∨s'.n.S[k].j=false))
include hs
theorem kz_(he:sendErr s'.n.S[k].s s'.n.S[k].h s'.n.S[k].L ps≠0):passD ps but s'.d k=s'.d:=by
 have hg:s'.d.n.S.getD k default=s'.n.S[k].d:=by
  exact m235_
 unfold passD;rw [hg,if_neg hs,if_neg];rw [po_];exact he
theorem jn_(he:sendErr s'.n.S[k].s s'.n.S[k].h s'.n.S[k].L ps=0):
 passD ps but s'.d k=sendDD (edgeDD s'.d k (s'.n.S[k].s+1) (s'.n.S[k].L.map OpV.ps++ [ps])) k ⟨1,s'.n.S[k].h,0,ps,⟨#[]⟩⟩:=by
 have hg:s'.d.n.S.getD k default=s'.n.S[k].d:=by
  exact m235_
 unfold passD;rw [hg,if_neg hs,if_pos];rw [po_];exact he
end
end
theorem wb_{s:EdV}{ps:List PartD}{RA:Option Addr}{rc:Nat}{x:RecV}(hme:s.n.me=0)(hx:x.key=(0,ps)):(⟨s.n,s.A,s.c,s.L,RA,rc,s.RL++ [x]⟩:EdV).d=recDD ps s.d:=by
 unfold recDD;rw [if_pos hme];refine EdD.ext' rfl rfl ?_;show(s.RL++ [x]).map RecV.key=s.RL.map RecV.key++ [(0,ps)];rw [List.map_append,<-hx];rfl
theorem wa_{s:EdV}{ps:List PartD}(hme:s.n.me≠0):s.d=recDD ps s.d:=by
 unfold recDD;rw [if_neg hme]
theorem PostedTo.touch{T:TypeId}{w w':World}{X:Nat}{n:NodeV}{A A':Option Addr}{k c c':Nat}{L:List PostV}{R:Value}(h:PostedTo T w X n A k c L R A' c' w')(Q:Option Nat):Touch w w' X (Value.slice A k c).ownBlock Q (Value.slice A' L.length c').ownBlock:=
 ⟨h.turned.os,h.turned.tape,h.turned.output,h.turned.size,fun b h1 h2 h3 _=>h.turned.block b h1 h2 (fun e=>h3 e.symm),h.own⟩
section
variable {T:TypeId}{w w':World}{base X:Nat}{n:NodeV}{A RA A' pA:Option Addr}{c rc c':Nat}{L:List PostV}{RL:List RecV}{K:List PacketV}{who:Int}
theorem EditAt.posted(hT:TurnT T)(h:EditAt T w base X n A c L RA rc RL)(hK:PksS (fun b=>X+1<=b∧FreeX w base X (Value.slice A L.length c).ownBlock n.sOwn [n.mOwn,n.uOwn,(Value.slice RA RL.length rc).ownBlock] b) w pA K)
 (hp:PostedTo T w X n A L.length c (L++K.map (PostV.mk who)) (.slice RA RL.length rc) A' c' w'):EditAt T w' base X n A' c' (L++K.map (PostV.mk who)) RA rc RL∧Below base w w':=by
 refine⟨h.touched ⟨rfl,rfl,rfl⟩ ⟨rfl,rfl,rfl⟩ rfl (h.busy.posted hT.s hp hK.each) (hp.touch n.sOwn),?_⟩;exact hp.turned.below h.busy.lo (fun y hy=>by have:=(h.busy.prow.lt y hy).1;have:=h.busy.lo;omega) (by have:=h.busy.lo;have:=h.busy.lt;omega)
end
theorem bgf_(w:World)(l:LinkV)(p:PacketV)(hT:Tabs w)(hi:l.In w)(hm:l.Small)(hf:OpIn (· <w.heap.size) w p.f.o.A p.f.o.ps)(hfm:p.f.Small)(hk:linkMay l)(he:packetFault p.d=0)(h0:l.e≠0)(h1:p.ep=l.e)(hA:p.ak<l.n - l.s.length)(hb:p.b=true):
 Calls Tryz.prog 73 #[l.val,packetV p.ep p.nu p.b p.ak p.f.k p.f.h p.f.e p.f.o.A p.f.o.ps.length p.f.o.c p.f.s] w (RetLHear w (fillL ⟨l.e,l.n,(l.s.map FrameV.d),l.q.map FrameV.d,l.h⟩) zeroF.d false (fillP ⟨l.e,l.n,(l.s.map FrameV.d),l.q.map FrameV.d,l.h⟩) 0):=by
 exact m10_
end Go.Proofs.YtacacoklddogmaaGreatDoor
