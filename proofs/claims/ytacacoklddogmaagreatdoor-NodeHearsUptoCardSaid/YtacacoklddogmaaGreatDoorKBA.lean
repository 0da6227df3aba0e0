/- Lemmas. -/
import Derived.WalkKit
import Derived.WalkSpells
import Derived.WalkLawsBesides
import Derived.ProofKit
import Derived.OpenShut
import Derived.BigQuiet
import Derived.Lib.QuietBelow
import Derived.Lib.Hide
import Derived.Deep.Draws
import Derived.Deep.AppendLies
import Derived.Laws.OwnMore
import Derived.ChangeSame
import Derived.Maps.AppendAt
import Derived.Laws.IdiomStrings
import Derived.Laws.BytesArg
import Derived.OwnWalk
import Derived.Deep.RegionHeld3
import Derived.Lib.SmallJoins
import Derived.Test.YtacacoklddogmaaGreatDoorRows
import Derived.JoinedCond
import Derived.Lib.RuneCount
import Derived.Deep.Slices
import Derived.Deep.Fields
import Derived.Test.YtacacoklddogmaaGreatDoorShelf
import Derived.Lib.AppendStr
namespace Go.Proofs.YtacacoklddogmaaGreatDoor
set_option maxHeartbeats 4000000
open Go.ChangeShapes Go.WideShapes Go.ChangeAt Go.RowKit Go.Sort
theorem m17_{P:Prop}(h:P:=by
 by_cases h8:8001<ps.length
 ·have HF:=h_ (hs_ h8);have hd:decide ((8001:Int)<(ps.length:Int))=true:=by simp;omega
  first
  |guard_hyp vAC
   go_enter Tryz.func60,Tryz.ntmps60
  |go_enter Tryz.func96,Tryz.ntmps96
  exact m118_
 have hd:decide ((8001:Int)<(ps.length:Int))=false:=by simp;omega
 have HTX:=h_ ht;have HT:=h_ hT;have HS:=h_ hs;clear ht hT;first
 |guard_hyp vAC
  go_enter Tryz.func60,Tryz.ntmps60
 |go_enter Tryz.func96,Tryz.ntmps96
 go_wp2_with fail
 first
 |guard_hyp vAC
  go_loopw [2,3] (fun r i wr=> ∃(k:Nat),k≤ps.length∧i= .int .i64 k∧r= .int .i64 0∧Hid (∀i,i<k→badAt ps i=0)∧Below w.heap.size w wr)
   (fun _ i _=>ps.length - (intOf i).toNat)
 |go_loopw [2,3,4,13] (fun r _ _ i wr=> ∃(k:Nat),k≤ps.length∧i= .int .i64 k∧r= .int .i64 0∧Hid (∀i,i<k→badAt ps i=0)∧Below w.heap.size w wr)
   (fun _ _ _ i _=>ps.length - (intOf i).toNat)
 case atStart=>exact⟨0,Nat.zero_le _,rfl,rfl,fun i hi=>absurd hi (by omega),Below.refl _ _⟩
 case round=>
  obtain⟨k,hk,rfl,rfl,hok,hbw⟩:=hrel;by_cases hlt:k<ps.length
  ·obtain⟨b,o,rfl,hbs,h0,h1,h2⟩:=OpIn.at_ (ps:=ps) (Sl.la hs hbw) hlt;have htx:ps[k].text.size≤1048576:=HTX.o _ (List.getElem_mem hlt);first
   |guard_hyp vAC
    have hpc:=xs_ ps[k].kind ps[k].n ps[k].text
   |have hpc:=bhq_ ps[k].kind ps[k].n ps[k].text
   by_cases hpf:partFault ps[k]=0
   ·have hpe:partFault ⟨ps[k].kind,ps[k].n,ps[k].text⟩=0:=hpf;rw [hpe]at hpc;have HP:=h_ hpc;clear hpe hpc;by_cases hk0:k=0
    ·subst hk0;have hr:Hid (∀i,i<0+1→badAt ps i=0):=fun i hi=>by
      obtain rfl:i=0:=(by omega);exact oi_ hlt hpf
     generalize ps[0]=p at*;obtain⟨kd,pn,tx⟩:=p;simp only [Nat.zero_mul,Nat.add_zero]at h0 h1 h2;dsimp only at*;clear hpf;have k180_:K_ (∀(P:Prop) (h:P:=by
     go_roundw
     case rel=>exact⟨1,by omega,by go_num,rfl,hr,bf_⟩
     case measure=>simp [intOf];omega
     ),P):=⟨@q6_⟩
     exact m180_
    ·obtain⟨j,rfl⟩: ∃j,k=j+1:=⟨k - 1,by omega⟩
     obtain⟨b',o',hbo,_,g0,_,_⟩:=OpIn.at_ (ps:=ps) (k:=j) (Sl.la hs hbw) (by omega);injection hbo with hbo
     injection hbo with e1 e2
     subst e1 e2;have hba:=jc_ hlt hpf;have hle:j+1≤1048576:=(by omega);by_cases hcl:clash ps[j] ps[j+1]=true
     ·rw [if_pos hcl]at hba;have HF:=h_ ((ez_ h8 hlt hok.o (by rw [hba];decide)).trans hba);clear hba;generalize ps[j]=q at*;generalize ps[j+1]=p at*;obtain⟨kd,pn,tx⟩:=p;obtain⟨kq,qn,tq⟩:=q;simp only [clash]at hcl;dsimp only at*;clear hpf;by_cases f1:kq=kd
      ·subst f1;clear hcl;have k180_:K_ (∀(P:Prop) (h:P:=by
       go_ret
       exact⟨by rw [HF.o];rfl,bf_⟩
       ),P):=⟨@q6_⟩
       exact m180_
      ·have h32:kq=3∧kd=2:=by
        have f1':(kq==kd)=false:=(by simpa using f1);rw [f1']at hcl;simpa using hcl
       obtain⟨rfl,rfl⟩:=h32;clear hcl f1;have k180_:K_ (∀(P:Prop) (h:P:=by
       go_ret
       exact⟨by rw [HF.o];rfl,bf_⟩
       ),P):=⟨@q6_⟩
       exact m180_
     ·rw [if_neg hcl]at hba;have hr:Hid (∀i,i<j+1+1→badAt ps i=0):=fun i hi=>by
       rcases Nat.lt_or_ge i (j+1)with h | h
       ·exact hok.o i h
       ·obtain rfl:i=j+1:=(by omega);exact hba
      clear hba;generalize ps[j]=q at*;generalize ps[j+1]=p at*;obtain⟨kd,pn,tx⟩:=p;obtain⟨kq,qn,tq⟩:=q;simp only [clash]at hcl;dsimp only at*;first
      |guard_hyp vAC
       have f0:(kq==kd)=false:=by revert hcl;cases(kq==kd) <;> simp
       have f1:(kd==kq)=false:=(by simp at f0⊢;omega);clear f0
      |have f1:(kq==kd)=false:=by revert hcl;cases(kq==kd) <;> simp
      clear hpf;first
      |guard_hyp vAC
       by_cases hq3:kd=2
      |by_cases hq3:kq=3
      ·subst hq3;first
       |guard_hyp vAC
        have f2:(kq==3)=false:=by revert hcl;cases(kq==3) <;> simp
       |have f2:(kd==2)=false:=by revert hcl;cases(kd==2) <;> simp
       clear hcl;exact m257_
      ·first
       |guard_hyp vAC
        have f3:(kd==2)=false:=by simpa using hq3
       |have f3:(kq==3)=false:=by simpa using hq3
       clear hcl hq3;exact m257_
   ·have HF:=h_ ((ez_ h8 hlt hok.o (by rw [eq_ hlt hpf];exact hpf)).trans (eq_ hlt hpf));have hpe:partFault ⟨ps[k].kind,ps[k].n,ps[k].text⟩=partFault ps[k]:=rfl;rw [hpe]at hpc;have hb0:(partFault ps[k] !=0)=true:=(by simpa using hpf);clear hpe;generalize partFault ps[k]=x at*;generalize ps[k]=p at*;obtain⟨kd,pn,tx⟩:=p;dsimp only at*;have HP:=h_ hpc;clear hpc hpf;go_wp2_with fail
    refine(HP.o _ (HT.o.la bf_) htx).mono ?_;rintro e w1 ⟨rfl,hb1⟩;obtain⟨⟨d1,os1⟩,rfl⟩:=e_ hb1;go_wp2_with fail
    go_ret
    exact⟨by rw [HF.o];rfl,bf_⟩
  ·obtain rfl:k=ps.length:=(by omega);have HG:=h_ (hr_ h8 hok.o);first
   |guard_hyp vAC
    have HL:=h_ (bq_ wr A c ps (Sl.la hs hbw) hm HTX.o)
   |have HL:=h_ (cs_ wr A c ps (Sl.la hs hbw) hm HTX.o)
   clear hd;go_wp2_with fail
   refine HL.o.mono ?_;rintro e w1 ⟨rfl,hb1⟩;obtain⟨⟨d1,os1⟩,rfl⟩:=e_ hb1;by_cases hf:4000<(lens ps).1
   ·have HF:=h_ (HG.o.trans (if_pos (.inl hf)));generalize lens ps=l at*;obtain⟨f,t⟩:=l;dsimp only at*;have hd1:decide (4000<f)=true:=(by simpa using hf);go_wp2_with fail
    go_ret
    exact⟨by rw [HF.o];rfl,bf_⟩
   ·by_cases hg:4000<(lens ps).2
    ·have HF:=h_ (HG.o.trans (if_pos (.inr hg)));generalize lens ps=l at*;obtain⟨f,t⟩:=l;dsimp only at*;have hd1:decide (4000<f)=false:=(by simpa using hf);have hd2:decide (4000<t)=true:=(by simpa using hg);go_wp2_with fail
     go_ret
     exact⟨by rw [HF.o];rfl,bf_⟩
    ·have HF:=h_ (HG.o.trans (if_neg (by omega)));generalize lens ps=l at*;obtain⟨f,t⟩:=l;dsimp only at*;have hd1:decide (4000<f)=false:=(by simpa using hf);have hd2:decide (4000<t)=false:=(by simpa using hg);go_wp2_with fail
     go_ret
     exact⟨by rw [HF.o];rfl,bf_⟩):P:=h
theorem m38_{P:Prop}(h:P:=by
 have HT:=h_ ht;clear ht;first
 |guard_hyp vBD
  go_enter Tryz.func59,Tryz.ntmps59
 |go_enter Tryz.func46,Tryz.ntmps46
 go_wp2
 first
 |guard_hyp vBD
  go_loopw [4,5,6] (fun f t i wr=> ∃(k:Nat),k≤ps.length∧i= .int .i64 k∧f= .int .i64 (lens (ps.take k)).1∧t= .int .i64 (lens (ps.take k)).2∧Below w.heap.size w wr)
   (fun _ _ i _=>ps.length - (intOf i).toNat)
 |go_loopw [2,3,8] (fun f t i wr=> ∃(k:Nat),k≤ps.length∧i= .int .i64 k∧f= .int .i64 (lens (ps.take k)).1∧t= .int .i64 (lens (ps.take k)).2∧Below w.heap.size w wr)
   (fun _ _ i _=>ps.length - (intOf i).toNat)
 case atStart=>exact⟨0,Nat.zero_le _,rfl,rfl,rfl,Below.refl _ _⟩
 case round=>
  obtain⟨k,hk,rfl,rfl,rfl,hbw⟩:=hrel;by_cases hlt:k<ps.length
  ·obtain⟨b,o,rfl,hbs,h0,h1,h2⟩:=OpIn.at_ (ps:=ps) (Sl.la hs hbw) hlt;have HL:=h_ (rw_ ps k hlt);have htx:ps[k].text.size≤1048576:=HT.o _ (List.getElem_mem hlt);generalize ps[k]=p at*;generalize lens (ps.take k)=a at*;obtain⟨f,t⟩:=a;obtain⟨kd,pn,tx⟩:=p;dsimp only at*;by_cases hk1:kd=1
   ·subst hk1;first
    |guard_hyp vBD
    |go_wp2_with fail
     go_quiet (fail)
    exact m195_
   have e1:(kd==1)=false:=(by simpa using hk1);by_cases hk2:kd=2
   ·subst hk2;first
    |guard_hyp vBD
     have hcv:=fun wx=>convRunes (w:=wx) htx
    |go_wp2_with fail
     refine(dx_ tx _ htx).mono ?_;rintro e w1 ⟨rfl,hb1⟩;obtain⟨⟨d1,os1⟩,rfl⟩:=e_ hb1
    exact m195_
   have e2:(kd==2)=false:=(by simpa using hk2);by_cases hk3:kd=3
   ·subst hk3;exact m195_
   have e3:(kd==3)=false:=(by simpa using hk3);have HN:=h_ (show lenStep (f,t) { kind:=kd,n:=pn,text:=tx } =(f,t) by simp [lenStep,hk1,hk2,hk3]);go_wp2_with fail
   go_roundw
   case rel=>exact⟨k+1,by omega,by go_num,by rw [HL.o,HN.o],by rw [HL.o,HN.o],bf_⟩
   case measure=>simp [intOf];omega
  ·obtain rfl:k=ps.length:=(by omega);rw [List.take_length];go_wp2_with fail
   go_ret2
   exact⟨rfl,hbw⟩):P:=h
theorem m89_{P:Prop}(h:P:=by
 rintro e w1 ⟨rfl,hb1⟩;obtain⟨⟨d1,os1⟩,rfl⟩:=e_ hb1;exact m118_):P:=h
theorem m102_{P:Prop}(h:P:=by
 go_wp2_with fail
 go_ret
 exact⟨rfl,bz_⟩):P:=h
theorem m118_{P:Prop}(h:P:=by
 go_wp2_with fail
 go_ret
 exact⟨by rw [HF.o];rfl,bz_⟩):P:=h
theorem m134_{P:Prop}(h:P:=by
 go_enter Tryz.func103,Tryz.ntmps103
 go_wp2_with(go_at_call 55;refine(m_ _ _ _ _ (by omega) (by omega)).mono ?_;rintro e w' ⟨rfl,rfl⟩)
 refine(HC.o _ (hT.la bz_) hs).mono ?_;exact m89_):P:=h
theorem m175_{P:Prop}(h:P:=by
 rw [hV]at hv hl;rw [hd]at hl;have HC:=h_ hv;have HL:=h_ hl;clear hV hv hl hd hn;go_enter Tryz.func84,Tryz.ntmps84
 go_wp2_with fail
 refine(HC.o _ hT hs).mono ?_;rintro e w1 ⟨rfl,hb1⟩;obtain⟨⟨d1,os1⟩,rfl⟩:=e_ hb1;go_wp2_with fail
 refine(HL.o _ (hT.la bz_) hs).mono ?_;rintro e w2 ⟨rfl,hb2⟩;obtain⟨⟨d2,os2⟩,rfl⟩:=e_ hb2;exact m118_):P:=h
theorem m179_{P:Prop}(h:P:=by
 go_enter Tryz.func124,Tryz.ntmps124
 go_wp2_with fail
 refine(HC.o _ (hT.la bz_) hs).mono ?_;exact m89_):P:=h
theorem m180_{P:Prop}(h:P:=by
 go_wp2_with fail
 refine(HP.o _ (HT.o.la bf_) htx).mono ?_;rintro e w1 ⟨rfl,hb1⟩;obtain⟨⟨d1,os1⟩,rfl⟩:=e_ hb1;go_wp2_with fail
 go_quiet (fail)
 go_wp2_with fail
 exact k180_.o _):P:=h
theorem m181_{P:Prop}(h:P:=by
 rw [hV]at hv;have HC:=h_ hv;clear hV hv;go_enter Tryz.func56,Tryz.ntmps56
 go_wp2_with fail
 refine(HC.o _ hT hs).mono ?_;exact m89_):P:=h
theorem m192_{P:Prop}(h:P:=by
 obtain⟨v0,v1,v2,v3,v4,rfl⟩:=list5 hl;obtain⟨_,y0,hc0,hy0,ht0⟩:=hf 0 _ rfl;obtain⟨_,y1,hc1,hy1,ht1⟩:=hf 1 _ rfl;obtain⟨_,y2,hc2,hy2,ht2⟩:=hf 2 _ rfl;obtain⟨_,y3,hc3,hy3,ht3⟩:=hf 3 _ rfl;obtain⟨_,y4,hc4,hy4,ht4⟩:=hf 4 _ rfl;obtain rfl:=Option.some.inj hc0;obtain rfl:=Option.some.inj hc1;obtain rfl:=Option.some.inj hc2;obtain rfl:=Option.some.inj hc3;obtain rfl:=Option.some.inj hc4;exact k192_.o _):P:=h
theorem m194_{P:Prop}(h:P:=by
 obtain rfl:v= .slice (some a) len cap:=by simpa using hcs
 simp only [if_true]at hmm;subst hmm;unfold maxLen at hm;have hy1:y.1= .slice ((List.range len).map D) ((List.range (mm - len)).map fun j=>D (len+j)):=by rw [hx]
 rw [hy1,fp_]at hbulk;exact k194_.o _):P:=h
theorem m195_{P:Prop}(h:P:=by
 go_wp2_with fail
 go_roundw
 case rel=>exact⟨k+1,by omega,by go_num,by rw [HL.o];rfl,by rw [HL.o];rfl,bf_⟩
 case measure=>simp [intOf];omega):P:=h
theorem m201_{P:Prop}(h:P:=by
 clear hn hk13;go_enter Tryz.func103,Tryz.ntmps103
 go_wp2_with fail
 refine(m_ _ _ _ _ hk1 hk3).mono ?_;rintro e w' ⟨rfl,rfl⟩;go_wp2_with fail
 refine(m_ _ _ _ _ hn1 hn2).mono ?_;rintro e w' ⟨rfl,rfl⟩;exact m118_):P:=h
theorem m202_{P:Prop}(h:P:=by
 go_wp2
 go_ret
 exact⟨by rw [H.o];rfl,rfl⟩):P:=h
theorem m238_{P:Prop}(h:P:=by
 go_enter Tryz.func55,Tryz.ntmps55
 go_wp2
 go_ret
 exact⟨rfl,rfl⟩):P:=h
theorem m240_{P:Prop}(h:P:=by
 go_enter Tryz.func70,Tryz.ntmps70
 go_wp2
 go_ret
 exact⟨rfl,rfl⟩):P:=h
theorem m248_{P:Prop}(h:P:=by
 have:=ec_ (show D i∈(List.range len).map D from List.mem_map.2 ⟨i,List.mem_range.2 hil,rfl⟩);omega):P:=h
theorem m254_{P:Prop}(h:P:=by
 unfold Oper.wp execOp;simp only [ho,resolve,invoke,builtin,Sem.run_bind,Sem.run_pure,Result.andThen_ok,List.map_toArray,List.map_cons,List.map_nil,hs,hx,hrun];exact h A' c' w' h2 h3 h4):P:=h
theorem m257_{P:Prop}(h:P:=by
 have k180_:K_ (∀(P:Prop) (h:P:=by
 go_roundw
 case rel=>exact⟨j+1+1,by omega,by go_num,rfl,hr,bf_⟩
 case measure=>simp [intOf];omega
 ),P):=⟨@q6_⟩
 exact m180_):P:=h
theorem m263_{P:Prop}(h:P:=by
 clear hn;rcases hk13 with rfl | rfl
 all_goals
  go_enter Tryz.func124,Tryz.ntmps124
  go_wp2_with fail
  go_ret
  exact⟨by rw [HF.o];rfl,bz_⟩):P:=h
abbrev OA_:=Option Addr
theorem _root_.Go.RowKit.Hid.o{p:Prop}(h:Hid p):p:=h.out

theorem bDrewN{B:Nat}{a w:World}(h:Below B a w)(n:Nat):Below B a (w.drewN n):=⟨h.os,h.tape,h.output,h.size,h.block⟩
section
variable {a w:World}(h:Below a.heap.size a w)
include a w h
theorem bAlloc(o:Obj):Below a.heap.size a (w.alloc o):=h.alloc h.size o
theorem bIter(s:ByteArray)(pos:Nat):Below a.heap.size a (w.iter s pos):=h.alloc h.size _
theorem bSet{p:Addr}(hp:a.heap.size≤p.block)(u:Value):Below a.heap.size a (w.setCell p u):=h.setCell hp u
end
theorem bThen{a w w':World}(h:Below a.heap.size a w)(k:Below w.heap.size w w'):Below a.heap.size a w':=h.trans (k.mono h.size)
section
variable {H:Type}{enc:TypeId × Value→H}{P:Program}
theorem th_{f:Func}{s:ChangeSpec}{apart fresh handsOn again:Bool}{W W':World}{args:Array Value}{v:Value}{ds gs:List (DataW H)}{before pa pv:List MemPlace}
 (hW:DataW.Whole enc P f.params.toList s.vars apart W args.toList ds gs before)
 (hres: ∀(b:Nat) (sp:Nat→Bool) (hd:Bool),DataW.TrodAll enc P W' b sp hd f.resultTypes.toList (v.resultList f.resultTypes.size) (s.fn H (ds++gs)).results [])
 (hargs: ∀sp:Nat→Bool,(∀p∈before,sp p.block=true)→DataW.TrodAll enc P W' 0 sp true f.params.toList args.toList (s.fn H (ds++gs)).args pa)
 (hvars: ∀sp:Nat→Bool,(∀p∈before,sp p.block=true)→DataW.TrodVars enc P W' sp s.vars (s.fn H (ds++gs)).vars pv)
 (hps:before=pa++pv) (hb:Below W.heap.size W W')
 (hok: ∀(j:Nat) (t:TypeId) (r:Value),f.resultTypes[j]?=some t→(v.resultList f.resultTypes.size)[j]?=some r→Value.okWide P W' .any 0 t r):
 s.post enc P f apart fresh handsOn again W args v W':=by
 have hlt: ∀p∈before,p.block<W.heap.size:=fun p hp=>hW.lt p hp;have hold: ∀p∈before,(fun b=>decide (b<W.heap.size)) p.block=true:=fun p hp=>by simpa using hlt p hp
 refine⟨ds,gs,before,[],pa,pv,hW,hres _ _ _,hargs _ hold,hvars _ hold,World.keptBut_mono (fun p hp=>⟨hp,?_⟩) (hb.frame (· ∈before)),fun _=>?_⟩
 ·rw [hps,List.mem_append]at hp;exact Or.inr hp
 ·obtain⟨_,_,_,_,_,hz,hn⟩:=hW;refine⟨hok,_,_,([]++pa)++pv,⟨[]++pa,pv,trodAll_append (hargs _ (fun _ _=>rfl)) (hres _ _ _),hvars _ (fun _ _=>rfl),rfl,?_,?_⟩,?_⟩
  ·intro b off hp;have hin:MemPlace.cell b off∈before:=(by rw [hps];simpa using hp);rw [hb.frozen (hlt _ hin)];exact hz b off hin
  ·intro ha;have:=hn ha;rw [hps]at this;simpa using this
  ·intro p hp _;rw [hps];simpa using hp
end

theorem e_{W w1:World}(h:Below W.heap.size W w1): ∃p:Regrown,w1=grow (redrawn W p.d) p.os:=regrown_of_below h
@[simp,go_sem] theorem redrawn_heap (W:World) (d:Nat):(redrawn W d).heap=W.heap:=rfl
@[simp,go_sem] theorem eqSum1_0 (P:Nat):(P=P+1)=False:=eq_false (by omega)
@[simp,go_sem] theorem leSum2 (P x y:Nat):(P≤P+x+y)=True:=eq_true (by omega)
@[simp,go_sem] theorem ltSum2_0 (P y:Nat):(P<P+1+y)=True:=eq_true (by omega)
@[simp,go_sem] theorem ltSum2_1 (P x:Nat):(P<P+x+1)=True:=eq_true (by omega)
@[simp,go_sem] theorem leSum3 (P x y z:Nat):(P≤P+x+y+z)=True:=eq_true (by omega)
@[simp,go_sem] theorem ltSum3_1 (P x z:Nat):(P<P+x+1+z)=True:=eq_true (by omega)
@[simp,go_sem] theorem ltPast1 (b P x:Nat) (h:b<P):(b<P+x)=True:=eq_true (by omega)
@[simp,go_sem] theorem ltPast2 (b P x y:Nat) (h:b<P):(b<P+x+y)=True:=eq_true (by omega)
@[simp,go_sem] theorem ke_ (W:World) (d:Nat) (os:Array Obj):(grow (redrawn W d) os).heap.size=W.heap.size+os.size:=by simp [grow,redrawn]
@[simp,go_sem] theorem grow_cell (W:World) (d:Nat) (os:Array Obj) (b o:Nat) (h:b<W.heap.size):(grow (redrawn W d) os).cell? ⟨b,o,none⟩=W.cell? ⟨b,o,none⟩:=(below_regrown W d os).cell (p:=⟨b,o,none⟩) h
@[simp,go_sem] theorem grow_frozen (W:World) (d:Nat) (os:Array Obj) (b o:Nat) (h:b<W.heap.size):(grow (redrawn W d) os).frozen? ⟨b,o,none⟩=W.frozen? ⟨b,o,none⟩:=(below_regrown W d os).frozen (p:=⟨b,o,none⟩) h
@[simp,go_sem] theorem grow_setCell (W:World) (d:Nat) (os:Array Obj) (b o:Nat) (u:Value) (h:b<W.heap.size):(grow (redrawn W d) os).setCell ⟨b,o,none⟩ u=grow (redrawn (W.setCell ⟨b,o,none⟩ u) d) os:=by
 simp only [World.setCell,grow,redrawn];congr 1;exact modify_append_left _ _ _ _ h
@[simp,go_sem] theorem bcd_ (W:World) (d:Nat) (os:Array Obj):(grow (redrawn W d) os).drew=grow (redrawn W (d+1)) os:=rfl
@[simp,go_sem] theorem grow_drewN (W:World) (d n:Nat) (os:Array Obj):(grow (redrawn W d) os).drewN n=grow (redrawn W (d+n)) os:=rfl
@[simp,go_sem] theorem grow_redrawn_drew (W:World) (d:Nat) (os:Array Obj):grow (redrawn W.drew d) os=grow (redrawn W d) os:=rfl
@[simp,go_sem] theorem grow_redrawn_drewN (W:World) (d n:Nat) (os:Array Obj):grow (redrawn (W.drewN n) d) os=grow (redrawn W d) os:=rfl
theorem bGrow{a W:World}(h:Below a.heap.size a W)(d:Nat)(os:Array Obj):Below a.heap.size a (grow (redrawn W d) os):=bThen h (below_regrown W d os)

def Sl (S:Nat→Prop) (w:World) (size:Nat) (A:OA_) (n:Nat) (cs:List Value):Prop:=
 cs.length=n*size∧(0<n→ ∃b o,A=some ⟨b,o,none⟩∧S b∧ ∀j u,cs[j]?=some u→w.cell? ⟨b,o+j,none⟩=some u)

section
variable {S S':Nat→Prop}{w w':World}{size n:Nat}{A:Option Addr}{cs:List Value}
structure K_ (p:Prop):Prop where o:p
theorem q6_(P:Prop)(h:P):P:=h
theorem q2_{α:Sort _}(a:α): ∃x,x=a:=⟨_,rfl⟩
theorem q3_{α:Type _}{a b:α}{l:List α} :(a :: l).set 0 b=b :: l:=rfl
theorem q4_{α:Type _}{a b:α}{l:List α}{n:Nat} :(a :: l).set (n+1) b=a :: l.set n b:=rfl
theorem q1_{P:Prop}(h:P:=by repeat(first | with_reducible exact Below.refl _ _ | with_reducible exact HB2 | with_reducible exact hHeld | with_reducible apply bAlloc | with_reducible refine Below.drew ?_ | with_reducible refine bSet ?_ (Nat.le_refl _) _ | with_reducible refine bSet ?_ (Nat.le_add_right _ _) _)):P:=h
theorem bz_{B:Nat}{w w':World}(h:Below B w w':=by repeat(first | exact Below.refl _ _ | apply bGrow | apply bAlloc | apply Below.drew | apply bDrewN | apply bIter)):Below B w w':=h
theorem bf_{B:Nat}{w w':World}(h:Below B w w':=by repeat(first | assumption | exact Below.refl _ _ | apply bGrow | apply bAlloc | apply Below.drew | apply bDrewN | apply bIter)):Below B w w':=h
abbrev R_ (w:World) (v:Value):Ending→World→Prop:=fun e w'=>e= .returned v∧Below w.heap.size w w'
theorem h_{p:Prop}(h:p):Hid p:=h
theorem bA_{w:World}{o:Obj} :Below w.heap.size w (w.alloc o):=bAlloc (Below.refl _ _) _
theorem bH_{w:World}{a:Addr}{u:Value}{k:Nat}(h:k≠a.block):(w.setCell a u).heap[k]?=w.heap[k]?:=Below.heap_setCell w a u k h
theorem Sl.nil:Sl S w size A 0 []:=⟨by simp,fun h=>absurd h (by omega)⟩
theorem Sl.keep(h:Sl S w size A n cs)(hS: ∀b,S b→S' b)(hk: ∀b,S b→w'.heap[b]?=w.heap[b]?):Sl S' w' size A n cs:=
 ⟨h.1,fun hn=>by
  obtain⟨b,o,e,hb,hc⟩:=h.2 hn;exact⟨b,o,e,hS b hb,fun j u hu=>(World.cell?_of_block (w:=w) (a:=⟨b,o+j,none⟩) (hk b hb)).trans (hc j u hu)⟩⟩
theorem Sl.below{B B':Nat}(h:Sl (· <B) w size A n cs)(hb:Below B w w')(hB:B≤B'):Sl (· <B') w' size A n cs:=
 h.keep (fun _ hx=>Nat.lt_of_lt_of_le hx hB) (fun b hx=>hb.block b hx)
theorem Sl.la(h:Sl (· <w.heap.size) w size A n cs)(hb:Below w.heap.size w w'):Sl (· <w'.heap.size) w' size A n cs:=h.below hb hb.size
theorem Sl.open_(h:Sl S w size A n cs)(hn:0<n): ∃b o,A=some ⟨b,o,none⟩∧S b∧ ∀j u,cs[j]?=some u→w.cell? ⟨b,o+j,none⟩=some u:=h.2 hn
end

theorem cy_(zs:List Int)(k:Nat)(hk:k<zs.length):(zs.map (Value.int .i64))[k]?=some (.int .i64 (zs.getD k 0)):=by
 simp [List.getElem?_eq_getElem hk,List.getD_eq_getElem?_getD]

theorem Sl.new{S:Nat→Prop}(w:World)(cs:List Value)(t:TypeId)(size n:Nat)(h:cs.length=n*size)(hS:S w.heap.size):Sl S (w.alloc (.cells cs.toArray t)) size (some ⟨w.heap.size,0,none⟩) n cs:=
 ⟨h,fun _=>⟨w.heap.size,0,rfl,hS,fun j u hu=>by rw [World.cell?_alloc_new];simpa using hu⟩⟩

section
variable {P:Program}(w:World)

theorem gd_{base:Nat}{e:TypeId}{size:Nat}{v:Value}{n:Nat}{xs:List Value}(h:w.ownsRow base e size v n xs): ∃A c,v= .slice A n c∧n≤c∧c≤maxLen:=by
 rcases h.2 with⟨rfl,rfl⟩ | ⟨g,cap,cur,rfl,_,_,h1,h2,_⟩
 ·exact⟨none,0,rfl,by omega,by unfold maxLen;omega⟩
 ·exact⟨_,cap,rfl,h1,h2⟩

theorem lg_(base:Nat)(t ty e:TypeId)(i:TypeInfo)(size:Nat)(ht:P.underlying t=some (.slice e))(hi:P.info? e=some i)
 (v:Value) (n:Nat) (xs:List Value) (hown:w.ownsRow base e size v n xs) (c:Nat):(Builtin.append_ #[t,t] ty #[v,.slice none 0 c]).run P w= .ok v w:=by
 rcases hown.2 with⟨rfl,rfl⟩ | ⟨g,cap,cur,rfl,_,_,hnc,_⟩
 ·simp [Builtin.append_,run_underlying ht,sizeOf,typeInfo,hi,Builtin.lenOf,Builtin.firstCells]
 ·simp [Builtin.append_,run_underlying ht,sizeOf,typeInfo,hi,Builtin.lenOf,Builtin.firstCells,hnc,storeCells]

theorem tj_(base:Nat)(t ty e:TypeId)(i:TypeInfo)(z:Value)(size bytes:Nat)(ht:P.underlying t=some (.slice e))(hi:P.info? e=some i)(hz:i.zero=some z)
 (hsize:i.size=size) (hby:i.bytes=bytes) (hzs:z.cells.size=size) (hsz:0<size)
 (v:Value) (n:Nat) (xs:List Value) (hown:w.ownsRow base e size v n xs)
 (S:Nat→Prop) (A:OA_) (m c:Nat) (news:List Value) (hr:Sl S w size A m news) (h1: ∀u∈news,u.oneCell'=true)
 (h63:n+m≤maxLen) (hbytes:(n+m)*bytes≤140737488355328) (hbase:base≤w.heap.size) (hnil:m=0→A=none∨ ∃ad,A=some ad):
 ∃A' c' w',(Builtin.append_ #[t,t] ty #[v,.slice A m c]).run P w= .ok (.slice A' (n+m) c') w'∧w'.ownsRow base e size (.slice A' (n+m) c') (n+m) (xs++news)∧w.grownBy w' v.ownBlock∧
  ((Value.slice A' (n+m) c').ownBlock=v.ownBlock∨(Value.slice A' (n+m) c').ownBlock=some w.heap.size):=by
 rcases A with _ | ad
 ·have hm:m=0:=by
   rcases Nat.eq_zero_or_pos m with h0 | h0
   ·exact h0
   ·obtain⟨b,o,h,_⟩:=hr.2 h0;cases h
  subst hm;have hn:news= []:=List.eq_nil_of_length_eq_zero (by simpa using hr.1);subst hn;obtain⟨A',c',rfl,_,_⟩:=gd_ w hown;exact⟨A',c',w,lg_ w base t ty e i size ht hi _ n xs hown c,by simpa using hown,World.grownBy.refl w _,.inl rfl⟩
 ·have hcells: ∀j u,news[j]?=some u→w.cell? (ad.add j)=some u:=by
   intro j u hu;rcases Nat.eq_zero_or_pos m with h0 | h0
   ·subst h0;have hn:news= []:=List.eq_nil_of_length_eq_zero (by simpa using hr.1);subst hn;simp at hu
   ·obtain⟨b,o,h,_,hc⟩:=hr.2 h0;injection h with h
    subst h;rw [Go.WideShapes.add_plain];exact hc j u hu
  obtain⟨v',w',hrun,h2,h3,_,h5⟩:=run_append_own_at (P:=P) w base t ty e i z size bytes ht hi hz hsize hby hzs hsz v n xs hown ad m c news hr.1 hcells h1 h63 hbytes hbase;obtain⟨A',c',rfl,_,_⟩:=gd_ w' h2;exact⟨A',c',w',hrun,h2,h3,h5⟩

theorem kv_{o:Oper}{a:Act}{K:Act→World→Prop}{Q:Exit→Act→World→Prop}(s x:Operand)(t:TypeId)
 (ho:o.op= .call { callee:= .builtin .append,args:= #[s,x],argTypes:= #[t,t] })
 (base:Nat) (e:TypeId) (i:TypeInfo) (z:Value) (size bytes:Nat) (ht:P.underlying t=some (.slice e)) (hi:P.info? e=some i) (hz:i.zero=some z)
 (hsize:i.size=size) (hby:i.bytes=bytes) (hzs:z.cells.size=size) (hsz:0<size)
 (v:Value) (n:Nat) (xs:List Value) (hs:a.eval s=v) (hown:w.ownsRow base e size v n xs)
 (S:Nat→Prop) (A:OA_) (m c:Nat) (news:List Value) (hx:a.eval x= .slice A m c) (hr:Sl S w size A m news) (h1: ∀u∈news,u.oneCell'=true)
 (h63:n+m≤maxLen) (hbytes:(n+m)*bytes≤140737488355328) (hbase:base≤w.heap.size)
 (h: ∀A' c' w',w'.ownsRow base e size (.slice A' (n+m) c') (n+m) (xs++news)→w.grownBy w' v.ownBlock→((Value.slice A' (n+m) c').ownBlock=v.ownBlock∨(Value.slice A' (n+m) c').ownBlock=some w.heap.size)→K (a.put o.dst (.slice A' (n+m) c')) w'):o.wp P a w K Q:=by
 obtain⟨A',c',w',hrun,h2,h3,h4⟩:=tj_ (P:=P) w base t o.type e i z size bytes ht hi hz hsize hby hzs hsz v n xs hown S A m c news hr h1 h63 hbytes hbase (fun _=>by cases A;exact .inl rfl;exact .inr ⟨_,rfl⟩);exact m254_

theorem l_{ops:Array Oper}{rest:List Oper}{o:Oper}{a:Act}{Q:Exit→Act→World→Prop}(hgd:o.guard=none)(s x:Operand)(t:TypeId)
 (ho:o.op= .call { callee:= .builtin .append,args:= #[s,x],argTypes:= #[t,t] })
 (base:Nat) (e:TypeId) (i:TypeInfo) (z:Value) (size bytes:Nat) (ht:P.underlying t=some (.slice e)) (hi:P.info? e=some i) (hz:i.zero=some z)
 (hsize:i.size=size) (hby:i.bytes=bytes) (hzs:z.cells.size=size) (hsz:0<size)
 (v:Value) (n:Nat) (xs:List Value) (hs:a.eval s=v) (hown:w.ownsRow base e size v n xs)
 (S:Nat→Prop) (A:OA_) (m c:Nat) (news:List Value) (hx:a.eval x= .slice A m c) (hr:Sl S w size A m news) (h1: ∀u∈news,u.oneCell'=true)
 (h63:n+m≤maxLen) (hbytes:(n+m)*bytes≤140737488355328) (hbase:base≤w.heap.size)
 (h: ∀A' c' w',w'.ownsRow base e size (.slice A' (n+m) c') (n+m) (xs++news)→w.grownBy w' v.ownBlock→((Value.slice A' (n+m) c').ownBlock=v.ownBlock∨(Value.slice A' (n+m) c').ownBlock=some w.heap.size)→wpList P ops Q rest (a.put o.dst (.slice A' (n+m) c')) w'):wpList P ops Q (o :: rest) a w:=
 wpList_plain hgd fun _ hK=>kv_ w s x t ho base e i z size bytes ht hi hz hsize hby hzs hsz v n xs hs hown S A m c news hx hr h1 h63 hbytes hbase fun A' c' w' h2 h3 h4=>hK _ _ (h A' c' w' h2 h3 h4)

theorem bg_{ops:Array Oper}{o:Oper}{a:Act}{K:Act→World→Prop}{Q:Exit→Act→World→Prop}{E:Prop}(hgd:o.guard=none)(s x:Operand)(t:TypeId)
 (ho:o.op= .call { callee:= .builtin .append,args:= #[s,x],argTypes:= #[t,t] })
 (base:Nat) (e:TypeId) (i:TypeInfo) (z:Value) (size bytes:Nat) (ht:P.underlying t=some (.slice e)) (hi:P.info? e=some i) (hz:i.zero=some z)
 (hsize:i.size=size) (hby:i.bytes=bytes) (hzs:z.cells.size=size) (hsz:0<size)
 (v:Value) (n:Nat) (xs:List Value) (hs:a.eval s=v) (hown:w.ownsRow base e size v n xs)
 (S:Nat→Prop) (A:OA_) (m c:Nat) (news:List Value) (hx:a.eval x= .slice A m c) (hr:Sl S w size A m news) (h1: ∀u∈news,u.oneCell'=true)
 (h63:n+m≤maxLen) (hbytes:(n+m)*bytes≤140737488355328) (hbase:base≤w.heap.size)
 (h: ∀A' c' w',w'.ownsRow base e size (.slice A' (n+m) c') (n+m) (xs++news)→w.grownBy w' v.ownBlock→((Value.slice A' (n+m) c').ownBlock=v.ownBlock∨(Value.slice A' (n+m) c').ownBlock=some w.heap.size)→K (a.put o.dst (.slice A' (n+m) c')) w'):
 if Region.wanted o (yielded ops a.tmps)=true then Oper.wp P o a w K Q else E:=by
 have hw:Region.wanted o (yielded ops a.tmps)=true:=by simp [Region.wanted,hgd]
 rw [if_pos hw];exact kv_ w s x t ho base e i z size bytes ht hi hz hsize hby hzs hsz v n xs hs hown S A m c news hx hr h1 h63 hbytes hbase h

theorem Sl.of_own{base:Nat}{e:TypeId}{size n c:Nat}{A:Option Addr}{xs:List Value}(h:w.ownsRow base e size (.slice A n c) n xs):Sl (fun b=>base≤b∧b<w.heap.size) w size A n xs:=by
 refine⟨h.1,fun hn=>?_⟩;obtain⟨g,cap,hv,hb,hlt⟩:=h.form hn;have hA:A=some ⟨g,0,none⟩:=by injection hv
 subst hA;refine⟨g,0,rfl,⟨hb,hlt⟩,fun j u hu=>?_⟩;have:=h.cells (g:=g) rfl j u hu;rwa [Go.WideShapes.add_plain]at this

end
abbrev byteV (b:UInt8):Value:= .int .u8 (b.toNat:Int)
end Go.Proofs.YtacacoklddogmaaGreatDoor
namespace Go.Proofs.YtacacoklddogmaaGreatDoor
set_option maxHeartbeats 4000000
open Go.ChangeShapes Go.WideShapes Go.ChangeAt Go.RowKit
set_option maxRecDepth 100000
theorem own:ownKnob Tryz.prog.godebug=none:=by kernel_rfl
theorem laidOut:laidOutB Tryz.prog=true:=by kernel_rfl
section
variable {H:Type}{enc:TypeId × Value→H}{P:Program}
theorem jw_(hl:laidOutB P=true){W W':World}(hb:Below W.heap.size W W'){sp:Nat→Bool} :
 ∀ {ts:List TypeId} {vs:List Value} {ds:List (DataW H)} {ps:List MemPlace},(∀t∈ts,P.readableRec t=true∧t<P.types.size)→
  DataW.TrodAll enc P W 0 (fun _=>true) true ts vs ds ps→(∀x∈ps,x.block<W.heap.size)→(∀x∈ps,sp x.block=true)→DataW.TrodAll enc P W' 0 sp true ts vs ds ps
 | [],[],[],_,_,h,_,_=>h
 | _ :: _,_ :: _,_ :: _,_,hT,⟨p,q,h1,h2,e⟩,hlt,hs=>
  ⟨p,q,WideElems.Trod_stays hl (hT _ (List.mem_cons.2 (Or.inl rfl))).1 (hT _ (List.mem_cons.2 (Or.inl rfl))).2 h1
   (fun x hx=>hb.same (hlt x (by rw [e];exact List.mem_append_left _ hx))) (fun x hx=>hs x (by rw [e];exact List.mem_append_left _ hx)),
   jw_ hl hb (fun t ht=>hT t (List.mem_cons.2 (Or.inr ht))) h2 (fun x hx=>hlt x (by rw [e];exact List.mem_append_right _ hx)) (fun x hx=>hs x (by rw [e];exact List.mem_append_right _ hx)),e⟩

theorem bfn_{f:Func}{s:ChangeSpec}{W W':World}{args:Array Value}{ds gs:List (DataW H)}{before:List MemPlace}{tb:TypeId}
 (hl:laidOutB P=true) (hr0:(f.params.toList.all fun t=>P.readableRec t&&decide (t<P.types.size))=true) (hv:s.vars= []) (hrt:f.resultTypes= #[tb]) (htb:P.underlying tb=some .bool)
 (hs:s.fn H (ds++gs)= { results:= [.lit (.bool true)],args:=ds,vars:= [] })
 (hW:DataW.Whole enc P f.params.toList s.vars false W args.toList ds gs before) (hb:Below W.heap.size W W'):s.post enc P f false true false false W args (.bool true) W':=by
 have hr: ∀t∈f.params.toList,P.readableRec t=true∧t<P.types.size:=fun t ht=>by simpa using List.all_eq_true.1 hr0 t ht
 have hlt: ∀p∈before,p.block<W.heap.size:=fun p hp=>hW.lt p hp;have hW':=hW;obtain⟨p,q,hA,hV,rfl,hfz,hnd⟩:=hW;rw [hv]at hV;obtain⟨rfl,rfl⟩:=trodVars_none hV;refine th_ (pa:=p) (pv:= []) hW' ?_ ?_ ?_ rfl hb ?_
 ·intro b sp hd;rw [hs,hrt];exact trodAll_cons_mk (shut_bool htb _) trodAll_mk0
 ·intro sp hsp;rw [hs];refine jw_ hl hb hr hA (fun x hx=>hlt x (by simp [hx])) (fun x hx=>hsp x (by simp [hx]))
 ·intro sp hsp;rw [hs,hv];rfl
 ·exact ok_one hrt rfl (okWide_bool_mk htb _)
end
section
variable {H:Type}{enc:TypeId × Value→H}{P:Program}{w:World}
theorem bhi_{t e base:TypeId}{v:Value}{d:DataW H}{ps:List MemPlace}(ht:P.underlying t=some (.slice e))(he:P.underlying e=some (.int .i64))(hc:P.cellsOf e=1)
 (hv:Value.okWide P w .any base t v) (h:DataW.Trod enc P w 0 (fun _=>true) true t v d ps):
 ∃(A:OA_) (n c:Nat) (zs:List Int),v= .slice A n c∧n≤c∧c≤9223372036854775807∧Sl (· <w.heap.size) w 1 A n (zs.map (Value.int .i64))∧(∀z∈zs,(Lit.int .i64 z).wf=true):=by
 obtain⟨A,n,c,rfl⟩:=okWide_slice ht hv;obtain⟨fuel,hf⟩:=h;rcases open_ints ht he hc hf with⟨hcs,hx⟩ | ⟨a,len,cap,zs,hcs,_,hl,hm,hz,hx,hcell,hwz⟩
 ·simp only [Value.cells]at hcs;have hcs':A=none∧n=0∧c=0:=by simpa using hcs
  obtain⟨rfl,rfl,rfl⟩:=hcs';exact⟨none,0,0,[],rfl,by omega,by omega,Sl.nil,by simp⟩
 ·simp only [Value.cells]at hcs;have hcs':A=some a∧n=len∧c=cap:=by simpa using hcs
  obtain⟨rfl,rfl,rfl⟩:=hcs';simp only [if_true]at hz;unfold maxLen at hm;refine⟨some a,n,c,zs.take n,rfl,hl,hm,⟨by simp [hz,hl],fun hn=>?_⟩,fun z hz=>hwz z (List.mem_of_mem_take hz)⟩;obtain⟨b,o,rfl,hc'⟩:=ints_at hcell (by omega);refine⟨b,o,rfl,?_,fun j u hu=>?_⟩
  ·have:=hc' 0 (by omega);exact block_lt_of_cell this
  ·have hj:j<n:=by
    have:=(List.getElem?_eq_some_iff.1 hu).1;simp at this;omega
   have e1:u= .int .i64 (zs.getD j 0):=by
    rw [List.getElem?_map,List.getElem?_take,if_pos hj,List.getElem?_eq_getElem (by omega)]at hu;simp at hu;rw [←hu,List.getD_eq_getElem?_getD,List.getElem?_eq_getElem (by omega)];rfl
   rw [e1];exact hc' j (by omega)
end
section
variable {H:Type}{enc:TypeId × Value→H}{P:Program}{w:World}
end
end Go.Proofs.YtacacoklddogmaaGreatDoor
namespace Go.Proofs.YtacacoklddogmaaGreatDoor
set_option maxHeartbeats 4000000
open Go.RowKit
structure PartD where
 kind:Int
 n:Int
 text:ByteArray
abbrev LP_:=List PartD
def PartD.cells (p:PartD):List Value:= [.int .i64 p.kind,.int .i64 p.n,.string p.text]
def opCells (ps:LP_):List Value:=ps.flatMap PartD.cells
theorem cu_(ps:LP_):(opCells ps).length=ps.length*3:=by
 induction ps with
 | nil=>rfl
 | cons p ps ih=>
  simp only [opCells,List.flatMap_cons,List.length_append,List.length_cons]at ih⊢;rw [ih];simp [PartD.cells];omega
theorem ey_(ps:LP_): ∀(k j:Nat) (hk:k<ps.length) (_:j<3),(opCells ps)[k*3+j]?=(ps[k].cells)[j]?:=by
 induction ps with
 | nil=>intro k j hk;exact absurd hk (by simp)
 | cons p ps ih=>
  intro k j hk hj;have hl:p.cells.length=3:=rfl;show(p.cells++opCells ps)[k*3+j]?=_;cases k with
  | zero=>
   rw [List.getElem?_append_left (by omega)];simp
  | succ k=>
   rw [List.getElem?_append_right (by omega),hl];rw [show(k+1)*3+j - 3=k*3+j by omega,ih k j (by simpa using hk) hj];rfl
abbrev OpIn (S:Nat→Prop) (w:World) (A:OA_) (ps:LP_):Prop:=Sl S w 3 A ps.length (opCells ps)
theorem OpIn.at_{S:Nat→Prop}{w:World}{A:Option Addr}{ps:List PartD}(h:OpIn S w A ps){k:Nat}(hk:k<ps.length):
 ∃b o,A=some ⟨b,o,none⟩∧S b∧w.cell? ⟨b,o+k*3,none⟩=some (.int .i64 ps[k].kind)∧w.cell? ⟨b,o+k*3+1,none⟩=some (.int .i64 ps[k].n)∧w.cell? ⟨b,o+k*3+2,none⟩=some (.string ps[k].text):=by
 obtain⟨b,o,e,hb,hc⟩:=h.2 (by omega);refine⟨b,o,e,hb,?_,?_,?_⟩
 ·exact hc (k*3) _ (by rw [show k*3=k*3+0 from rfl,ey_ ps k 0 hk (by omega)];rfl)
 ·exact hc (k*3+1) _ (by rw [ey_ ps k 1 hk (by omega)];rfl)
 ·exact hc (k*3+2) _ (by rw [ey_ ps k 2 hk (by omega)];rfl)

def lenStep (a:Int × Int) (p:PartD):Int × Int:=
 if p.kind=1 then(wrap64 (a.1+p.n),wrap64 (a.2+p.n))else if p.kind=2 then(a.1,wrap64 (a.2+Lib.runeCount p.text))else if p.kind=3 then(wrap64 (a.1+p.n),a.2)else a
def lens (ps:LP_):Int × Int:=ps.foldl lenStep (0,0)
theorem rw_(ps:LP_)(k:Nat)(hk:k<ps.length):lens (ps.take (k+1))=lenStep (lens (ps.take k)) ps[k]:=by
 unfold lens;rw [List.take_succ_eq_append_getElem hk,List.foldl_append];rfl
theorem pk_(s:ByteArray): ∀(fuel pos:Nat) (acc:Array Value),(Conv.runesFrom s fuel pos acc).size=acc.size+Lib.runeCountFrom s fuel pos
 | 0,pos,acc=>by simp [Conv.runesFrom,Lib.runeCountFrom]
 | fuel+1,pos,acc=>by
  unfold Conv.runesFrom Lib.runeCountFrom;by_cases h:pos<s.size
  · simp only [h,if_true]
    rw [pk_ s fuel];simp;omega
  · simp [h]
theorem ip_(s:ByteArray):(Conv.runesFrom s s.size 0 #[]).size=Lib.runeCount s:=by rw [pk_];simp [Lib.runeCount]
end Go.Proofs.YtacacoklddogmaaGreatDoor
namespace Go.Proofs.YtacacoklddogmaaGreatDoor
set_option maxHeartbeats 4000000
open Go.ChangeShapes Go.WideShapes Go.ChangeAt Go.RowKit Go.Joins Go.Deep
set_option maxRecDepth 100000
section
variable {H:Type}
include H
theorem bev_(d:DataW H):1≤Rows.uptoBulk d:=by
 cases d with
 | lit l=>cases l <;> simp [Rows.uptoBulk]
 | nil=>simp [Rows.uptoBulk]
 | ptr d=>simp [Rows.uptoBulk]
 | slice elems spare=>simp [Rows.uptoBulk]
 | agg parts=>simp [Rows.uptoBulk]
 | iface t d=>simp [Rows.uptoBulk]
 | map entries=>simp [Rows.uptoBulk]
 | held h=>simp [Rows.uptoBulk]
theorem ec_{d:DataW H}{l:List (DataW H)}(h:d∈l):Rows.uptoBulk d≤Rows.uptoBulkAll l:=by
 induction l with
 | nil=>cases h
 | cons x r ih=>
  simp only [Rows.uptoBulkAll];rcases List.mem_cons.1 h with e | e
  · subst e;omega
  · have:=ih e;omega
theorem il_(l:List (DataW H)):l.length≤Rows.uptoBulkAll l:=by
 induction l with
 | nil=>simp [Rows.uptoBulkAll]
 | cons x r ih=>have:=bev_ x;simp only [Rows.uptoBulkAll,List.length_cons];omega
theorem bad_{l:List (DataW H)}(hk:Rows.uptoSmall H l=true):Rows.uptoBulkAll l≤1048576:=of_decide_eq_true hk
theorem fp_(elems spare:List (DataW H)):Rows.uptoBulk (.slice elems spare)=Rows.uptoBulkAll elems+Rows.uptoBulkAll spare+1:=by simp [Rows.uptoBulk]
theorem uy_(l:List (DataW H)):Rows.uptoBulk (.agg l)=Rows.uptoBulkAll l+1:=by simp [Rows.uptoBulk]
theorem ln_(b:List UInt8):Rows.uptoBulk (DataW.lit (H:=H) (.string b))=b.length+1:=by simp [Rows.uptoBulk]
end

section
variable {H:Type}{enc:TypeId × Value→H}{P:Program}{w:World}{base:Nat}{spare:Nat→Bool}{held:Bool}
theorem lf_{t e:TypeId}{fs:Array Field}{fuel:Nat}{cs:List Value}{x:DataW H × List MemPlace}(ht:P.underlying t=some (.slice e))(he:P.underlying e=some (.struct fs))
 (hone:oneCellFields P fs=true) (hC:P.cellsOf e=fs.size) (h:DataW.trod enc P w base spare held fuel t cs=some x):
 (cs= [.slice none 0 0]∧x=(.nil,[]))∨
 ∃(a:Addr) (len cap m:Nat) (D:Nat→DataW H) (Pl:Nat→List MemPlace),cs= [.slice (some a) len cap]∧base≤a.block∧len≤cap∧cap≤maxLen∧m=(if spare a.block then cap else len)∧
  x=(.slice ((List.range len).map D) ((List.range (m - len)).map fun j=>D (len+j)),MemPlace.row a (m*fs.size)++(List.range m).flatMap Pl)∧
  ∀i,i<m→ ∃(ys:List (DataW H × List MemPlace)) (n:Nat),D i= .agg (ys.map (·.1))∧Pl i=ys.flatMap (·.2)∧ys.length=fs.size∧
   ∀(j:Nat) (f:Field),fs[j]?=some f→ ∃(v:Value) (y:DataW H × List MemPlace),w.cell? (a.add (i*fs.size+j))=some v∧ys[j]?=some y∧DataW.trod enc P w base spare held n f.type [v]=some y:=by
 rcases open_slice ht h with h0 | ⟨a,len,cap,m,n,D,Pl,hcs,hb,hl,hm,hmm,hx,hi⟩
 ·exact .inl h0
 ·refine .inr ⟨a,len,cap,m,D,Pl,hcs,hb,hl,hm,hmm,by rw [hC]at hx;exact hx,fun i him=>?_⟩;obtain⟨cs',hc,ht'⟩:=hi i him;rw [hC]at hc;obtain⟨ys,n',hn',hy,hlen,hyl,hf⟩:=DataW.trod_struct he ht';obtain⟨_,hcl,hat⟩:=World.cells?_some hc;simp only [Prod.mk.injEq]at hy;refine⟨ys,n',hy.1,hy.2,hyl,fun j f hj=>?_⟩;obtain⟨ho,hk⟩:=hone_of hone j f hj;have hjl:j<fs.size:=(Array.getElem?_eq_some_iff.1 hj).1;have hcell:=hat j hjl;have hv:cs'[j]?=some (cs'[j]'(by omega)):=List.getElem?_eq_getElem (by omega);have h1:=hf j f hj;rw [ho,hk]at h1;have hone':(cs'.drop j).take 1= [cs'[j]'(by omega)]:=by
   rw [List.drop_eq_getElem_cons (by omega)];rfl
  rw [hone']at h1;have hys:ys[j]?=some (ys[j]'(by omega)):=List.getElem?_eq_getElem (by omega);refine⟨_,_,?_,hys,h1.trans hys⟩;rw [←Go.Deep.add_add,hcell,hv]
end

theorem fh_{z:Int}(h:(Lit.int .i64 z).wf=true): -9223372036854775808≤z∧z≤9223372036854775807:=by
 simpa [Lit.wf,IntKind.min,IntKind.max,IntKind.signed,IntKind.bits]using h
theorem bbu_(s:ByteArray):s.data.toList.length=s.size:=rfl
structure PartD.Fit (p:PartD):Prop where
 k1: -9223372036854775808≤p.kind
 k2:p.kind≤9223372036854775807
 n1: -9223372036854775808≤p.n
 n2:p.n≤9223372036854775807
 text:p.text.size≤1048576
theorem cellsPart:Tryz.prog.cellsOf 73=3:=by kernel_rfl
theorem bhc_{H:Type}{enc:TypeId × Value→H}{w:World}{m:Nat}{t:TypeId}{v:Value}{y:DataW H × List MemPlace}(ht:Tryz.prog.underlying t=some (.slice 73))
 (h:DataW.trod enc Tryz.prog w 0 (fun _=>true) true m t [v]=some y) (hbulk:Rows.uptoBulk y.1≤1048576):
 ∃(A:OA_) (c:Nat) (ps:LP_),v= .slice A ps.length c∧ps.length≤c∧c≤9223372036854775807∧OpIn (· <w.heap.size) w A ps∧ps.length≤Rows.uptoBulk y.1∧ ∀p∈ps,p.Fit:=by
 rcases lf_ ht Tryz.underlying73 (by kernel_rfl) cellsPart h with⟨hcs,hx⟩ | ⟨a,len,cap,mm,D,Pl,hcs,_,hl,hm,hmm,hx,hi⟩
 ·obtain rfl:v= .slice none 0 0:=by simpa using hcs
  exact⟨none,0,[],rfl,by simp,by omega,Sl.nil,by simp,by simp⟩
 ·have k194_:K_ (∀(P:Prop) (h:P:=by
  have hrow: ∀i,∃p:PartD,i<len→(w.cell? (a.add (i*3+0))=some (.int .i64 p.kind)∧w.cell? (a.add (i*3+1))=some (.int .i64 p.n)∧w.cell? (a.add (i*3+2))=some (.string p.text))∧p.Fit:=by
   intro i;by_cases hil:i<len
   ·obtain⟨ys,n,hD,_,hyl,hf⟩:=hi i (by omega);obtain⟨v0,y0,hc0,hy0,ht0⟩:=hf 0 _ rfl;obtain⟨v1,y1,hc1,hy1',ht1⟩:=hf 1 _ rfl;obtain⟨v2,y2,hc2,hy2,ht2⟩:=hf 2 _ rfl;obtain⟨k0,e0,d0,w0⟩:=DataW.trod_int Tryz.underlying3 ht0;obtain⟨k1,e1,d1,w1⟩:=DataW.trod_int Tryz.underlying3 ht1;obtain⟨s2,e2,d2⟩:=DataW.trod_string Tryz.underlying9 ht2;have e0':v0= .int .i64 k0:=(by simpa using e0);have e1':v1= .int .i64 k1:=(by simpa using e1);have e2':v2= .string s2:=(by simpa using e2);subst e0' e1' e2';have hDi:Rows.uptoBulk (D i)≤1048576:=by
     exact m248_
    have hs:s2.size≤1048576:=by
     rw [hD,uy_]at hDi;have hm2:y2.1∈ys.map (·.1):=List.mem_map.2 ⟨y2,List.mem_of_getElem? hy2,rfl⟩;have:=ec_ hm2;rw [d2.1,ln_]at this;have e:=bbu_ s2;omega
    exact⟨⟨k0,k1,s2⟩,fun _=>⟨⟨hc0,hc1,hc2⟩,(fh_ w0).1,(fh_ w0).2,(fh_ w1).1,(fh_ w1).2,hs⟩⟩
   ·exact⟨⟨0,0,ByteArray.empty⟩,fun h=>absurd h hil⟩
  obtain⟨f,hf⟩:=Classical.skolem.1 hrow;have hlen:((List.range len).map f).length=len:=by simp
  refine⟨some a,mm,(List.range len).map f,by rw [hlen],by rw [hlen];exact hl,hm,?_,?_,?_⟩
  ·refine⟨cu_ _,fun hn=>?_⟩;rw [hlen]at hn;have hat: ∀i,i<len→ ∀j u,j<3→((f i).cells)[j]?=some u→w.cell? (a.add (i*3+j))=some u:=by
    intro i hil j u hj hu;obtain⟨⟨c0,c1,c2⟩,_⟩:=hf i hil;match j,hj with
    | 0,_=>simp [PartD.cells]at hu;subst hu;exact c0
    | 1,_=>simp [PartD.cells]at hu;subst hu;exact c1
    | 2,_=>simp [PartD.cells]at hu;subst hu;exact c2
   obtain⟨b,o,sp⟩:=a;have hsp:sp=none:=by
    have:=hat 0 hn 0 _ (by omega) rfl;simpa [Addr.add]using World.cell?_spot this
   subst hsp;refine⟨b,o,rfl,?_,fun j u hu=>?_⟩
   ·have:=hat 0 hn 0 _ (by omega) rfl;rw [Go.WideShapes.add_plain]at this;exact block_lt_of_cell this
   ·have hjl:j<len*3:=by
     have:=(List.getElem?_eq_some_iff.1 hu).1;rw [cu_,hlen]at this;exact this
    have hdm:j=(j / 3)*3+j % 3:=(by omega);have hq:j / 3<((List.range len).map f).length:=(by rw [hlen];omega);rw [hdm,ey_ _ _ _ hq (by omega)]at hu;have:=hat (j / 3) (by omega) (j % 3) u (by omega) (by simpa using hu);rw [Go.WideShapes.add_plain,←hdm]at this;exact this
  ·rw [hlen,hy1,fp_];have:=il_ ((List.range len).map D);simp at this;omega
  ·intro p hp;obtain⟨i,hi',rfl⟩:=List.mem_map.1 hp;exact(hf i (List.mem_range.1 hi')).2
  ),P):=⟨@q6_⟩
  exact m194_
end Go.Proofs.YtacacoklddogmaaGreatDoor
namespace Go.Proofs.YtacacoklddogmaaGreatDoor
set_option maxHeartbeats 4000000
open Go.ChangeShapes Go.WideShapes Go.ChangeAt Go.RowKit
set_option maxRecDepth 100000
theorem dx_(s:ByteArray)(w:World)(hs:s.size≤1048576):
 Calls Tryz.prog 88 #[.string s] w (R_ w (.int .i64 (Lib.runeCount s))):=
 (Tryz.utf8_RuneCountInString s w (by omega)).mono fun _ _ ⟨he,pos,hw⟩=>⟨he,hw ▸ bIter (Below.refl _ _) s pos⟩
theorem cs_(w:World)(A:OA_)(c:Nat)(ps:LP_)(hs:OpIn (· <w.heap.size) w A ps)(hm:ps.length≤1048576)(ht: ∀p∈ps,p.text.size≤1048576):
 Calls Tryz.prog 46 #[.slice A ps.length c] w (R_ w (.tuple #[.int .i64 (lens ps).1,.int .i64 (lens ps).2])):=by
 exact m38_
theorem convRunes{w:World}{s:ByteArray}(hs:s.size≤1048576):(convert 9 135 (.string s)).run Tryz.prog w= .ok (.slice (some ⟨w.heap.size,0,none⟩) (Lib.runeCount s) (grownCap w (Lib.runeCount s) 0 21))
 (w.drew.alloc (.cells (Conv.runesFrom s s.size 0 #[]++Array.replicate (grownCap w (Lib.runeCount s) 0 21 - Lib.runeCount s) (.int .i32 0)) 21)):=by
 have h:=run_runes_of_string (P:=Tryz.prog) w 9 135 21 s Tryz.underlying9 Tryz.underlying135 Tryz.underlying21 (by rw [ip_];have:=Lib.runeCount_le s;omega);rwa [ip_]at h
theorem bq_(w:World)(A:OA_)(c:Nat)(ps:LP_)(hs:OpIn (· <w.heap.size) w A ps)(hm:ps.length≤1048576)(ht: ∀p∈ps,p.text.size≤1048576):
 Calls Tryz.prog 59 #[.slice A ps.length c] w (R_ w (.tuple #[.int .i64 (lens ps).1,.int .i64 (lens ps).2])):=by
 have vBD:=h_ trivial;exact m38_
def Tabs (w:World):Prop:=Lib.Utf8Tabs (Tryz.lays196_ren.g 3) (Tryz.lays196_ren.g 4) w
theorem Tabs.la{w w':World}(h:Tabs w)(hb:Below w.heap.size w w'):Tabs w':=by
 refine⟨fun c hc=>?_,fun i hi=>⟨?_,?_⟩⟩
 ·have:=h.1 c hc;rw [hb.cell (p:=⟨_,c,none⟩) (block_lt_of_cell this)];exact this
 ·have:=(h.2 i hi).1;rw [hb.cell (p:=⟨_,2*i,none⟩) (block_lt_of_cell this)];exact this
 ·have:=(h.2 i hi).2;rw [hb.cell (p:=⟨_,2*i+1,none⟩) (block_lt_of_cell this)];exact this
def textFault (s:ByteArray):Int:=if Lib.validD s.data.toList=false then 4 else if 4000<Lib.runeCount s then 1 else 0
section
variable(s:ByteArray) (w:World) (hT:Tabs w) (hs:s.size≤1048576)
include s w hT hs
theorem rd_:
 Calls Tryz.prog 102 #[.string s] w (R_ w (.bool (Lib.validD s.data.toList))):=
 Tryz.utf8_ValidString s w (by omega) hT
theorem bfd_:
 Calls Tryz.prog 120 #[.string s] w (R_ w (.tuple #[.int .i64 (Lib.runeCount s),.bool (Lib.validD s.data.toList&&decide ((Lib.runeCount s:Int)≤4000))])):=by
 have hv:=rd_ s;cases hV:Lib.validD s.data.toList;all_goals
  have HV:=h_ hV;rw [hV]at hv;have HC:=h_ hv;clear hV hv;go_enter Tryz.func120,Tryz.ntmps120
  go_wp2_with fail
  refine(dx_ s _ hs).mono ?_;rintro e w1 ⟨rfl,hb1⟩;obtain⟨⟨d1,os1⟩,rfl⟩:=e_ hb1;go_wp2_with fail
  refine(HC.o _ (hT.la bz_) hs).mono ?_;rintro e w2 ⟨rfl,hb2⟩;obtain⟨⟨d2,os2⟩,rfl⟩:=e_ hb2;go_wp2_with fail
  go_ret2
  exact⟨by simp,bz_⟩
theorem br_:
 Calls Tryz.prog 84 #[.string s] w (R_ w (.int .i64 (textFault s))):=by
 have hv:=rd_ s;have hl:=bfd_ s;cases hV:Lib.validD s.data.toList
 ·have HF:=h_ (show textFault s=4 by simp [textFault,hV]);rw [hV]at hv;have HC:=h_ hv;clear hV hv hl;go_enter Tryz.func84,Tryz.ntmps84
  go_wp2_with fail
  refine(HC.o _ hT hs).mono ?_;exact m89_
 by_cases hn:4000<Lib.runeCount s
 ·have HF:=h_ (show textFault s=1 by simp [textFault,hV,hn]);have hd:decide ((Lib.runeCount s:Int)≤4000)=false:=by simp;omega
  exact m175_
 ·have HF:=h_ (show textFault s=0 by simp [textFault,hV,hn]);have hd:decide ((Lib.runeCount s:Int)≤4000)=true:=by simp;omega
  exact m175_
theorem bs_:
 Calls Tryz.prog 56 #[.string s] w (R_ w (.int .i64 (textFault s))):=by
 have hv:=rd_ s;cases hV:Lib.validD s.data.toList
 ·have HF:=h_ (show textFault s=4 by simp [textFault,hV]);exact m181_
 have hcv:=fun wx=>convRunes (w:=wx) hs;by_cases hn:4000<Lib.runeCount s
 ·have HF:=h_ (show textFault s=1 by simp [textFault,hV,hn]);exact m181_
 ·have HF:=h_ (show textFault s=0 by simp [textFault,hV,hn]);exact m181_
end
theorem m_(n lo hi:Int)(w:World)(h1:lo≤n)(h2:n≤hi):Calls Tryz.prog 55 #[.int .i64 n,.int .i64 lo,.int .i64 hi] w fun e w'=>e= .returned (.bool true)∧w=w':=by
 have e1:decide (lo≤n)=true:=by simpa using h1
 have e2:decide (n≤hi)=true:=by simpa using h2
 exact m238_
theorem In_no(n lo hi:Int)(w:World)(h:n<lo∨hi<n):Calls Tryz.prog 55 #[.int .i64 n,.int .i64 lo,.int .i64 hi] w fun e w'=>e= .returned (.bool false)∧w=w':=by
 rcases Int.lt_or_le n lo with h1 | h1
 ·have e1:decide (lo≤n)=false:=by simpa using h1
  exact m238_
 ·have h2:hi<n:=by omega
  have e1:decide (lo≤n)=true:=by simpa using h1
  have e2:decide (n≤hi)=false:=by simpa using h2
  exact m238_
end Go.Proofs.YtacacoklddogmaaGreatDoor
namespace Go.Proofs.YtacacoklddogmaaGreatDoor
set_option maxHeartbeats 4000000
theorem u_{K:Exit→Act→World→Prop}{e:Exit}{a:Act}{W:World}(Q:World→Prop)(hQ:Q W)(h: ∀W',Q W'→K e a W'):K e a W:=h W hQ
theorem ja_{P:Program}{c:Code}{K:Exit→Act→World→Prop}{a:Act}{W:World}(Q:World→Prop)(hQ:Q W)(h: ∀W',Q W'→Code.wp P c K a W'):Code.wp P c K a W:=h W hQ
structure Stopped (p:Prop):Prop where
 o:p
theorem z_{P:Program}{n:Nat}{ops:Array Oper}{Q:Exit→Act→World→Prop}{a:Act}{w:World}(h:Stopped (Code.wp P (.region n ops true) Q a w)):Code.wp P (.region n ops true) Q a w:=h.o
theorem bb_{P:Program}{ops:Array Oper}{rest:List Oper}{o:Oper}{a:Act}{Q:Exit→Act→World→Prop}{w:World}{args:Array Operand}{tys:Array TypeId}(_:o.op= .call { callee:= .builtin .append,args:=args,argTypes:=tys })(h:Stopped (wpList P ops Q (o :: rest) a w)):wpList P ops Q (o :: rest) a w:=h.o
theorem cutH{p q:Prop}(h:Go.RowKit.Hid p→q)(hp:p):q:=h hp
end Go.Proofs.YtacacoklddogmaaGreatDoor
namespace Go.Proofs.YtacacoklddogmaaGreatDoor
set_option maxHeartbeats 4000000
open Go.ChangeShapes Go.WideShapes Go.ChangeAt Go.RowKit
theorem s_{w:World}{base:Nat}{e T:TypeId}{size n B:Nat}{v:Value}{xs:List Value}{cs:Array Value}{m:Nat × Nat}(h:w.ownsRow base e size v n xs)(hB:w.heap[B]?=some (.cells cs T m))(hT:T≠e):v.ownBlock≠some B:=by
 rcases h.2 with⟨rfl,_⟩ | ⟨g,cap,cur,rfl,_,hg,_⟩
 ·simp [Value.ownBlock]
 ·intro q;have hq:g=B:=by simpa [Value.ownBlock]using q
  subst hq;rw [hg]at hB;injection hB with hB
  injection hB with _ h2 _
  exact hT h2.symm
theorem q_(w:World)(o:Obj)(B:Nat)(h:B<w.heap.size):(w.alloc o).heap[B]?=w.heap[B]?:=(bAlloc (Below.refl w.heap.size w) o).block B h
section
variable {P:Program}(w:World)
theorem qy_(base:Nat)(t u ty e:TypeId)(i:TypeInfo)(ht:P.underlying t=some (.slice e))(hu:P.underlying u=some .string)(hi:P.info? e=some i)(hz:i.zero=some (.int .u8 0))(hsize:i.size=1)(hby:i.bytes=1)
 (v:Value) (n:Nat) (xs:List Value) (hown:w.ownsRow base e 1 v n xs) (s:ByteArray) (h63:n+s.size≤maxLen) (hbytes:n+s.size≤140737488355328) (hbase:base≤w.heap.size):
 ∃A' c' w',(Builtin.append_ #[t,u] ty #[v,.string s]).run P w= .ok (.slice A' (n+s.size) c') w'∧w'.ownsRow base e 1 (.slice A' (n+s.size) c') (n+s.size) (xs++Lib.strCells s)∧w.grownBy w' v.ownBlock∧
  ((Value.slice A' (n+s.size) c').ownBlock=v.ownBlock∨(Value.slice A' (n+s.size) c').ownBlock=some w.heap.size):=by
 obtain⟨v',w',hrun,h2,h3,h4⟩:=Lib.run_append_own_string (P:=P) w base t u ty e i ht hu hi hz hsize hby v n xs hown s h63 hbytes hbase;have hsmall:((n+s.size:Nat):Int)≤9223372036854775807:=by unfold maxLen at h63;omega
 obtain⟨A',c',rfl,_,_⟩:=gd_ w' h2;refine⟨A',c',w',hrun,h2,h3,?_⟩;rcases hown.2 with⟨rfl,rfl⟩ | ⟨g,cap,cur,rfl,hbg,hg,hnc,hcm,hcs,htake⟩
 ·by_cases hm:s.size=0
  ·have:=h4.2 ⟨rfl,hm⟩;rw [this];exact .inl rfl
  ·have hr:=run_append_nil_string (P:=P) w t u ty e i (.int .u8 0) ht hu hi hz s (by omega) (by omega) (by rw [hby];omega);rw [hrun]at hr;injection hr with hv _
   rw [hv];exact .inr rfl
 ·by_cases hroom:n+s.size≤cap
  ·have hcs':cur.size=cap:=(by simpa using hcs);have hr:=Lib.run_append_room_string (P:=P) w t u ty e i ht hu hi hsize g n cap cur hg s hroom (by omega);rw [hrun]at hr;injection hr with hv _
   rw [hv];exact .inl rfl
  ·have hxl:xs.length=n:=(by simpa using hown.1);have holds: ∀j u,xs[j]?=some u→w.cell? ((⟨g,0,none⟩:Addr).add j)=some u:=hown.cells (g:=g) rfl;have hr:=Lib.run_append_grow_string (P:=P) w t u ty e i (.int .u8 0) ht hu hi hz ⟨g,0,none⟩ n cap xs (by rw [hsize];simpa using hxl) holds s (by omega) hsmall (by rw [hby];exact growslice_fits (by omega) (by omega));rw [hrun]at hr;injection hr with hv _
   rw [hv];exact .inr rfl
theorem lh_{ops:Array Oper}{rest:List Oper}{o:Oper}{a:Act}{Q:Exit→Act→World→Prop}(hgd:o.guard=none)(sl x:Operand)(t u:TypeId)
 (ho:o.op= .call { callee:= .builtin .append,args:= #[sl,x],argTypes:= #[t,u] })
 (base:Nat) (e:TypeId) (i:TypeInfo) (ht:P.underlying t=some (.slice e)) (hu:P.underlying u=some .string) (hi:P.info? e=some i) (hz:i.zero=some (.int .u8 0)) (hsize:i.size=1) (hby:i.bytes=1)
 (v:Value) (n:Nat) (xs:List Value) (hs:a.eval sl=v) (hown:w.ownsRow base e 1 v n xs) (s:ByteArray) (hx:a.eval x= .string s) (h63:n+s.size≤maxLen) (hbytes:n+s.size≤140737488355328) (hbase:base≤w.heap.size)
 (h: ∀A' c' w',w'.ownsRow base e 1 (.slice A' (n+s.size) c') (n+s.size) (xs++Lib.strCells s)→w.grownBy w' v.ownBlock→((Value.slice A' (n+s.size) c').ownBlock=v.ownBlock∨(Value.slice A' (n+s.size) c').ownBlock=some w.heap.size)→wpList P ops Q rest (a.put o.dst (.slice A' (n+s.size) c')) w'):wpList P ops Q (o :: rest) a w:=by
 refine wpList_plain hgd fun K hK=>?_;obtain⟨A',c',w',hrun,h2,h3,h4⟩:=qy_ (P:=P) w base t u o.type e i ht hu hi hz hsize hby v n xs hown s h63 hbytes hbase;unfold Oper.wp execOp;simp only [ho,resolve,invoke,builtin,Sem.run_bind,Sem.run_pure,Result.andThen_ok,List.map_toArray,List.map_cons,List.map_nil,hs,hx,hrun];exact hK _ _ (h A' c' w' h2 h3 h4)
end
def rowOf (w:World) (B:Nat):Option Nat:=
 match w.heap[B]? with
 | some (.cells cs _ _)=>cs.toList.findSome? Value.ownBlock
 | _=>none
theorem fj_{w:World}{B:Nat}{p:Option Addr}{v:Value}{T:TypeId}{m:Nat × Nat}(h:w.heap[B]?=some (.cells #[.pointer p,v] T m)):rowOf w B=v.ownBlock:=by
 unfold rowOf;rw [h];show List.findSome? Value.ownBlock [.pointer p,v]=_;rw [List.findSome?_cons,List.findSome?_cons,show(Value.pointer p).ownBlock=none from rfl];cases v.ownBlock <;> rfl
structure Kept (B:Nat) (w w':World):Prop where
 os:w'.os=w.os
 tape:w'.tape=w.tape
 output:w'.output=w.output
 size:w.heap.size≤w'.heap.size
 block: ∀k,k<w.heap.size→k≠B→rowOf w B≠some k→w'.heap[k]?=w.heap[k]?
 row:rowOf w' B=rowOf w B∨ ∀x,rowOf w' B=some x→w.heap.size≤x
theorem Kept.refl(B:Nat)(w:World):Kept B w w:=⟨rfl,rfl,rfl,Nat.le_refl _,fun _ _ _ _=>rfl,.inl rfl⟩
theorem Kept.trans{B:Nat}{w w1 w2:World}(h:Kept B w w1)(k:Kept B w1 w2):Kept B w w2:=by
 refine⟨k.os.trans h.os,k.tape.trans h.tape,k.output.trans h.output,Nat.le_trans h.size k.size,fun x hx hb hr=>?_,?_⟩
 ·refine(k.block x (Nat.lt_of_lt_of_le hx h.size) hb ?_).trans (h.block x hx hb hr);rcases h.row with e | e
  ·rw [e];exact hr
  ·intro q;have:=e x q;omega
 ·rcases k.row with e | e
  ·rw [e];exact h.row
  ·exact .inr fun x hx=>Nat.le_trans h.size (e x hx)
theorem Kept.cell{B:Nat}{w w':World}(h:Kept B w w'){k j:Nat}(hk:k<w.heap.size)(hB:k≠B)(hr:rowOf w B≠some k):w'.cell? ⟨k,j,none⟩=w.cell? ⟨k,j,none⟩:=
 World.cell?_of_block (w:=w) (a:=⟨k,j,none⟩) (h.block k hk hB hr)
theorem Kept.below{B base:Nat}{w w':World}(h:Kept B w w')(hB:base≤B)(hr: ∀x,rowOf w B=some x→base≤x)(hb:base≤w.heap.size):Below base w w':=
 ⟨h.os,h.tape,h.output,h.size,fun x hx=>h.block x (by omega) (by omega) (fun e=>by have:=hr x e;omega)⟩
theorem bcl_{w:World}{B:Nat}{T:TypeId}{p q:Option Addr}{v:Value}(hobj:w.heap[B]?=some (.cells #[.pointer p,v] T (0,0))):Kept B w (w.setCell ⟨B,0,none⟩ (.pointer q)):=by
 refine⟨rfl,rfl,rfl,by simp [World.setCell],fun k hk hb _=>Below.heap_setCell _ _ _ _ hb,.inl ?_⟩;rw [fj_ hobj];refine fj_ (p:=q) (T:=T) (m:=(0,0)) ?_;rw [heap_setCell_same w B 0 _ _ _ hobj];rfl
theorem bck_{w W2 w1:World}{B x:Nat}{T:TypeId}{p:Option Addr}{v v':Value}(hobj:w.heap[B]?=some (.cells #[.pointer p,v] T (0,0)))(hW:Below w.heap.size w W2)(hg:W2.grownBy w1 v.ownBlock)(hap:v.ownBlock≠some B)
 (hat:v'.ownBlock=v.ownBlock∨v'.ownBlock=some x) (hx:w.heap.size≤x):Kept B w (w1.setCell ⟨B,1,none⟩ v'):=by
 have hlt:B<w.heap.size:=(Array.getElem?_eq_some_iff.1 hobj).1;have hB2:B<W2.heap.size:=Nat.lt_of_lt_of_le hlt hW.size;have hobj1:w1.heap[B]?=some (.cells #[.pointer p,v] T (0,0)):=(hg.block B hB2 (fun e=>hap e.symm)).trans ((hW.block B hlt).trans hobj);refine⟨hg.os.trans hW.os,hg.tape.trans hW.tape,hg.output.trans hW.output,?_,fun k hk hb hr=>?_,?_⟩
 ·have:=hg.size;have:=hW.size;simp [World.setCell];omega
 ·rw [fj_ hobj]at hr;rw [Below.heap_setCell _ _ _ _ hb,hg.block k (Nat.lt_of_lt_of_le hk hW.size) (fun e=>hr e.symm),hW.block k hk]
 ·have e1:rowOf (w1.setCell ⟨B,1,none⟩ v') B=v'.ownBlock:=by
   refine fj_ (p:=p) (T:=T) (m:=(0,0)) ?_;rw [heap_setCell_same w1 B 1 _ _ _ hobj1];rfl
  rw [e1,fj_ hobj];rcases hat with e | e
  ·exact .inl e
  ·refine .inr fun y hy=>?_;rw [e]at hy;injection hy with hy
   omega
structure Only (B:Nat) (w w':World):Prop where
 os:w'.os=w.os
 tape:w'.tape=w.tape
 output:w'.output=w.output
 size:w.heap.size≤w'.heap.size
 block: ∀k,k<w.heap.size→k≠B→w'.heap[k]?=w.heap[k]?
theorem Only.trans{B:Nat}{w w1 w2:World}(h:Only B w w1)(k:Only B w1 w2):Only B w w2:=
 ⟨k.os.trans h.os,k.tape.trans h.tape,k.output.trans h.output,Nat.le_trans h.size k.size,fun x hx hb=>(k.block x (Nat.lt_of_lt_of_le hx h.size) hb).trans (h.block x hx hb)⟩
theorem Only.of_below{B:Nat}{w w':World}(h:Below w.heap.size w w'):Only B w w':=⟨h.os,h.tape,h.output,h.size,fun k hk _=>h.block k hk⟩
theorem Only.set{B:Nat}(w:World)(j:Nat)(v:Value):Only B w (w.setCell ⟨B,j,none⟩ v):=
 ⟨rfl,rfl,rfl,by simp [World.setCell],fun _ _ hb=>Below.heap_setCell _ _ _ _ hb⟩
theorem q5_{B:Nat}{w:World}{j:Nat}{v:Value} :Only B w (w.setCell ⟨B,j,none⟩ v):=Only.set w j v
theorem Only.below{B base:Nat}{w w':World}(h:Only B w w')(hB:base≤B)(hb:base≤w.heap.size):Below base w w':=
 ⟨h.os,h.tape,h.output,h.size,fun x hx=>h.block x (by omega) (by omega)⟩
section
variable {w:World}{B:Nat}
include w B
theorem bfw_{v u:Value}{t:TypeId}(h:w.heap[B]?=some (.cells #[v,u] t (0,0))):
 w.cell? ⟨B,0,none⟩=some v∧w.cell? ⟨B,1,none⟩=some u∧w.frozen? ⟨B,0,none⟩=false∧w.frozen? ⟨B,1,none⟩=false∧B<w.heap.size:=
 ⟨by simp [World.cell?,h],by simp [World.cell?,h],by simp [World.frozen?,h],by simp [World.frozen?,h],(Array.getElem?_eq_some_iff.1 h).1⟩
theorem b_{v u z:Value}{t:TypeId}(h:w.heap[B]?=some (.cells #[v,u,z] t (0,0))):
 w.cell? ⟨B,0,none⟩=some v∧w.cell? ⟨B,1,none⟩=some u∧w.cell? ⟨B,2,none⟩=some z∧w.frozen? ⟨B,0,none⟩=false∧w.frozen? ⟨B,1,none⟩=false∧w.frozen? ⟨B,2,none⟩=false∧B<w.heap.size:=
 ⟨by simp [World.cell?,h],by simp [World.cell?,h],by simp [World.cell?,h],by simp [World.frozen?,h],by simp [World.frozen?,h],by simp [World.frozen?,h],(Array.getElem?_eq_some_iff.1 h).1⟩
section
variable {v u z x:Value}{t:TypeId}(h:w.heap[B]?=some (.cells #[v,u,z] t (0,0)))
include v u z x t h
theorem bc_:(w.setCell ⟨B,1,none⟩ x).heap[B]?=some (.cells #[v,x,z] t (0,0)):=by
 rw [heap_setCell_same w B 1 _ _ _ h];rfl
theorem x_:(w.setCell ⟨B,2,none⟩ x).heap[B]?=some (.cells #[v,u,x] t (0,0)):=by
 rw [heap_setCell_same w B 2 _ _ _ h];rfl
end
end
set_option maxRecDepth 100000
def tOk (i:Nat) (p:Int):Bool:=if i=0 then p== -1 else decide (0≤p)&&decide (p<i)
def treeFault (zs:List Int):Int:=if zs.length<1∨7<zs.length then 1 else if(List.range zs.length).all (fun i=>tOk i (zs.getD i 0))then 0 else 4
theorem eu_{zs:List Int}(h:zs.length<1∨7<zs.length):treeFault zs=1:=if_pos h
section
variable {zs:List Int}(h: ¬(zs.length<1∨7<zs.length))
include zs h
theorem ff_{k:Nat}(hk:k<zs.length)(hb:tOk k (zs.getD k 0)=false):treeFault zs=4:=by
 unfold treeFault;rw [if_neg h,if_neg];intro h;rw [List.all_eq_true]at h;have:=h k (by simpa using hk);rw [hb]at this;cases this
theorem ku_(hb: ∀i,i<zs.length→tOk i (zs.getD i 0)=true):treeFault zs=0:=by
 unfold treeFault;rw [if_neg h,if_pos];rw [List.all_eq_true];intro i hi;exact hb i (by simpa using hi)
end

theorem wt_(w:World)(A:OA_)(n c:Nat)(zs:List Int)(hs:Sl (· <w.heap.size) w 1 A n (zs.map (Value.int .i64)))(hm:n≤9223372036854775807):
 Calls Tryz.prog 83 #[.slice A n c] w fun e w'=>e= .returned (.int .i64 (treeFault zs))∧w=w':=by
 have hl:zs.length=n:=by have:=hs.1;simpa using this
 by_cases h1:n<1
 ·have H:=h_ (eu_ (zs:=zs) (by omega));clear hl hs;go_enter Tryz.func83,Tryz.ntmps83
  exact m202_
 by_cases h7:7<n
 ·have H:=h_ (eu_ (zs:=zs) (by omega));clear hl hs;go_enter Tryz.func83,Tryz.ntmps83
  exact m202_
 have hB: ¬(zs.length<1∨7<zs.length):=by omega
 obtain⟨b,o,rfl,hbs,hc⟩:=hs.open_ (by omega);have hc': ∀k,k<n→w.cell? ⟨b,o+k,none⟩=some (.int .i64 (zs.getD k 0)):=fun k hk=>hc k _ (cy_ zs k (by omega));have HL:=h_ hl;have HC:=h_ hc';have HB:=h_ hB;clear hl hc hc' hs hB;go_enter Tryz.func83,Tryz.ntmps83
 go_wp2
 go_loop [2,3,4,15] (fun r _ _ i=> ∃k:Nat,k≤n∧i= .int .i64 k∧r= .int .i64 0∧Hid (∀i,i<k→tOk i (zs.getD i 0)=true)) (fun _ _ _ i=>n - (intOf i).toNat)
 case atStart=>exact⟨0,Nat.zero_le _,rfl,rfl,fun i hi=>absurd hi (by omega)⟩
 case round=>
  obtain⟨k,hk,rfl,rfl,hok⟩:=hrel;by_cases hlt:k<n
  ·have hcx:=HC.o k hlt;obtain⟨p,hp⟩:=q2_ (zs.getD k 0);rw [←hp]at hcx;have HP:=h_ hp;clear hp;by_cases hok1:tOk k p=true
   ·have hr:Hid (∀i,i<k+1→tOk i (zs.getD i 0)=true):=fun i hi=>by
     rcases Nat.lt_or_ge i k with h | h
     ·exact hok.o i h
     ·obtain rfl:i=k:=(by omega);rw [←HP.o];exact hok1
    by_cases hk0:k=0
    ·subst hk0;rw [Nat.add_zero]at hcx;obtain rfl:p= -1:=(by simpa [tOk]using hok1);clear hok1;go_wp2
     go_round
     case rel=>exact⟨1,by omega,by go_num,rfl,hr⟩
     case measure=>simp [intOf];omega
    ·have hq:0≤p∧p<k:=(by simpa [tOk,hk0]using hok1);obtain⟨hq1,hq2⟩:=hq;have e1:(decide (p<0))=false:=(by simpa using hq1);have e2:((k:Int)==0)=false:=(by simpa using hk0);clear hok1;go_wp2
     go_round
     case rel=>exact⟨k+1,by omega,by go_num,rfl,hr⟩
     case measure=>simp [intOf];omega
   ·have H:=h_ (ff_ HB.o (by rw [HL.o];exact hlt) (by rw [←HP.o];simpa using hok1));by_cases hk0:k=0
    ·subst hk0;rw [Nat.add_zero]at hcx;have e1:(p != -1)=true:=(by simpa [tOk]using hok1);clear hok1;exact m202_
    ·have e2:((k:Int)==0)=false:=(by simpa using hk0);by_cases hq:p<0
     ·clear hok1;exact m202_
     ·have hq2 : (k : Int) ≤ p := by have : ¬ (0 ≤ p ∧ p < k) := by simpa [tOk, hk0] using hok1
                                     omega
      have e3:(decide (p<0))=false:=(by simpa using hq);clear hok1;exact m202_
  ·obtain rfl:k=n:=(by omega);have H:=h_ (ku_ HB.o (by rw [HL.o];exact hok.o));exact m202_

theorem xe_(w:World)(A:OA_)(n c:Nat)(zs:List Int)(hs:Sl (· <w.heap.size) w 1 A n (zs.map (Value.int .i64)))(hm:n≤9223372036854775807):
 Calls Tryz.prog 54 #[.slice A n c] w fun e w'=>e= .returned (.int .i64 (treeFault zs))∧w=w':=by
 have hl:zs.length=n:=by have:=hs.1;simpa using this
 by_cases h1:n<1∨7<n
 ·have H:=h_ (eu_ (zs:=zs) (by omega));clear hl hs;go_enter Tryz.func54,Tryz.ntmps54
  go_wp2_with(go_at_call 55;refine(In_no _ _ _ _ (by omega)).mono ?_;rintro e w' ⟨rfl,rfl⟩)
  go_ret
  exact⟨by rw [H.o];rfl,rfl⟩
 have hB: ¬(zs.length<1∨7<zs.length):=by omega
 obtain⟨b,o,rfl,hbs,hc⟩:=hs.open_ (by omega);have hc': ∀k,k<n→w.cell? ⟨b,o+k,none⟩=some (.int .i64 (zs.getD k 0)):=fun k hk=>hc k _ (cy_ zs k (by omega));have HL:=h_ hl;have HC:=h_ hc';have HB:=h_ hB;have g1:1≤n:=by omega
 have g7:n≤7:=by omega
 clear hl hc hc' hs hB h1;go_enter Tryz.func54,Tryz.ntmps54
 go_wp2_with(go_at_call 55;refine(m_ _ _ _ _ (by omega) (by omega)).mono ?_;rintro e w' ⟨rfl,rfl⟩)
 go_loopw [2,3] (fun r i wr=> ∃k:Nat,k≤n∧i= .int .i64 k∧r= .int .i64 0∧Hid (∀i,i<k→tOk i (zs.getD i 0)=true)∧w=wr) (fun _ i _=>n - (intOf i).toNat)
 case atStart=>exact⟨0,Nat.zero_le _,rfl,rfl,fun i hi=>absurd hi (by omega),rfl⟩
 case round=>
  obtain⟨k,hk,rfl,rfl,hok,rfl⟩:=hrel;have hbw:=Below.refl w.heap.size w;by_cases hlt:k<n
  ·have hcx:=(hbw.cell (p:=⟨b,o+k,none⟩) hbs).trans (HC.o k hlt);have hc0:=(hbw.cell (p:=⟨b,o,none⟩) hbs).trans (HC.o 0 (by omega));obtain⟨p,hp⟩:=q2_ (zs.getD k 0);rw [←hp]at hcx;have HP:=h_ hp;clear hp;by_cases hok1:tOk k p=true
   ·have hr:Hid (∀i,i<k+1→tOk i (zs.getD i 0)=true):=fun i hi=>by
     rcases Nat.lt_or_ge i k with h | h
     ·exact hok.o i h
     ·obtain rfl:i=k:=(by omega);rw [←HP.o];exact hok1
    by_cases hk0:k=0
    ·subst hk0;obtain rfl:p= -1:=(by simpa [tOk]using hok1);rw [Nat.add_zero]at hcx;clear hok1 hc0;go_wp2_with fail
     go_roundw
     case rel=>exact⟨1,by omega,by go_num,rfl,hr,by trivial⟩
     case measure=>simp [intOf];omega
    ·have hq:0≤p∧p<k:=(by simpa [tOk,hk0]using hok1);obtain⟨hq1,hq2⟩:=hq;have e2:((k:Int)==0)=false:=(by simpa using hk0);clear hok1 hc0;go_wp2_with(go_at_call 55;refine(m_ _ _ _ _ (by omega) (by omega)).mono ?_;rintro e w' ⟨rfl,rfl⟩)
     go_roundw
     case rel=>exact⟨k+1,by omega,by go_num,rfl,hr,by trivial⟩
     case measure=>simp [intOf];omega
   ·have H:=h_ (ff_ HB.o (by rw [HL.o];exact hlt) (by rw [←HP.o];simpa using hok1));by_cases hk0:k=0
    ·subst hk0;have e1:(p != -1)=true:=(by simpa [tOk]using hok1);rw [Nat.add_zero]at hcx;clear hok1 hc0;exact m202_
    ·have e2:((k:Int)==0)=false:=by simpa using hk0
     have hq : p < 0 ∨ (k : Int) ≤ p := by have : ¬ (0 ≤ p ∧ p < k) := by simpa [tOk, hk0] using hok1
                                           omega
     clear hok1 hc0;go_wp2_with(go_at_call 55;refine(In_no _ _ _ _ (by omega)).mono ?_;rintro e w' ⟨rfl,rfl⟩)
     go_ret
     exact⟨by rw [H.o];rfl,rfl⟩
  ·obtain rfl:k=n:=(by omega);have H:=h_ (ku_ HB.o (by rw [HL.o];exact hok.o));exact m202_
def kidsTo (zs:List Int) (me:Int) (k:Nat):List Int:=((List.range k).filter (fun i=>zs.getD i 0==me)).map Int.ofNat
theorem ei_(zs:List Int)(me:Int):kidsTo zs me 0= []:=rfl
theorem hh_{zs:List Int}{me:Int}{k:Nat}(h:(zs.getD k 0==me)=true):kidsTo zs me (k+1)=kidsTo zs me k++ [(k:Int)]:=by
 unfold kidsTo;rw [List.range_succ,List.filter_append,List.map_append];simp only [List.filter_cons,h,if_true,List.filter_nil,List.map_cons,List.map_nil];rfl
theorem fi_{zs:List Int}{me:Int}{k:Nat}(h:(zs.getD k 0==me)=false):kidsTo zs me (k+1)=kidsTo zs me k:=by
 unfold kidsTo;rw [List.range_succ,List.filter_append,List.map_append];simp only [List.filter_cons,h,Bool.false_eq_true,if_false,List.filter_nil,List.map_nil,List.append_nil]
theorem ban_(zs:List Int)(me:Int)(k:Nat):(kidsTo zs me k).length≤k:=by
 unfold kidsTo;rw [List.length_map];exact Nat.le_trans (List.length_filter_le _ _) (by simp)
def peerHead (zs:List Int) (me:Int):List Int:=if 0<me then [zs.getD me.toNat 0]else []
def peers (zs:List Int) (me:Int):List Int:=peerHead zs me++kidsTo zs me zs.length
theorem fl_{zs:List Int}(h:treeFault zs=0):1≤zs.length∧zs.length≤7∧zs.getD 0 0= -1:=by
 by_cases h1:zs.length<1∨7<zs.length
 ·rw [eu_ h1]at h;cases h
 ·refine⟨by omega,by omega,?_⟩;apply Classical.byContradiction;intro hb;rw [ff_ h1 (k:=0) (by omega) (by simpa [tOk]using hb)]at h;cases h

def partFault (p:PartD):Int:=
 if p.kind=2 then(if textFault p.text≠0 then textFault p.text else if p.text.toList= []∨p.n≠0 then 4 else 0)
 else if p.kind=1∨p.kind=3 then(if p.n<1∨4000<p.n then 2 else if p.text.toList≠ []then 4 else 0)
 else 3
abbrev partV (k n:Int) (s:ByteArray):Value:= .agg #[.int .i64 k,.int .i64 n,.string s]
theorem ig_(s:ByteArray):textFault s=0∨textFault s=1∨textFault s=4:=by
 unfold textFault;split
 ·simp
 ·split <;> simp
section
variable(k n:Int) (s:ByteArray) (w:World) (hT:Tabs w) (hs:s.size≤1048576)
include k n s w hT hs
theorem bhq_:
 Calls Tryz.prog 124 #[partV k n s] w (R_ w (.int .i64 (partFault ⟨k,n,s⟩))):=by
 by_cases hk2:k=2
 ·subst hk2;have hc:=br_ s;have hf:=ig_ s;by_cases h0:textFault s=0
  ·rw [h0]at hc;have HC:=h_ hc;clear hc hf;by_cases he:s.toList= []
   ·have HF:=h_ (show partFault ⟨2,n,s⟩=4 by simp [partFault,h0,he]);clear h0;exact m179_
   have he1:s.toList.isEmpty=false:=(by simpa using he);by_cases hn:n=0
   ·subst hn;have HF:=h_ (show partFault ⟨2,0,s⟩=0 by simp [partFault,h0,he]);clear h0;exact m179_
   ·have HF:=h_ (show partFault ⟨2,n,s⟩=4 by simp [partFault,h0,hn]);have hn1:(n !=0)=true:=(by simpa using hn);clear h0;exact m179_
  ·have HF:=h_ (show partFault ⟨2,n,s⟩=textFault s by simp [partFault,h0]);have hb0:(textFault s !=0)=true:=(by simpa using h0);generalize textFault s=x at*;have HC:=h_ hc;clear hc hf h0;exact m179_
 have e2:(k==2)=false:=by simpa using hk2
 by_cases hk13:k=1∨k=3
 ·by_cases hn:n<1∨4000<n
  ·have HF:=h_ (show partFault ⟨k,n,s⟩=2 by unfold partFault;rw [if_neg hk2,if_pos hk13,if_pos hn]);rcases hk13 with rfl | rfl
   all_goals
    rcases hn with hn | hn
    · have hd:decide (n<1)=true:=by simpa using hn
      go_enter Tryz.func124,Tryz.ntmps124
      go_wp2_with fail
      go_ret
      exact⟨by rw [HF.o];rfl,bz_⟩
    · have hd:decide (n<1)=false:=by simp;omega
      have hd2:decide (4000<n)=true:=(by simpa using hn);go_enter Tryz.func124,Tryz.ntmps124
      go_wp2_with fail
      go_ret
      exact⟨by rw [HF.o];rfl,bz_⟩
  ·have hd:decide (n<1)=false:=(by simp;omega);have hd2:decide (4000<n)=false:=(by simp;omega);by_cases he:s.toList= []
   ·have HF:=h_ (show partFault ⟨k,n,s⟩=0 by unfold partFault;rw [if_neg hk2,if_pos hk13,if_neg hn,if_neg (by simpa using he)]);have he1:(!s.toList.isEmpty)=false:=(by simpa using he);exact m263_
   ·have HF:=h_ (show partFault ⟨k,n,s⟩=4 by unfold partFault;rw [if_neg hk2,if_pos hk13,if_neg hn,if_pos he]);have he1:(!s.toList.isEmpty)=true:=(by simpa using he);exact m263_
 ·have HF:=h_ (show partFault ⟨k,n,s⟩=3 by unfold partFault;rw [if_neg hk2,if_neg hk13]);have e1:(k==1)=false:=by simp;omega
  have e3:(k==3)=false:=by simp;omega
  clear hk13;go_enter Tryz.func124,Tryz.ntmps124
  exact m118_
theorem xs_:
 Calls Tryz.prog 103 #[partV k n s] w (R_ w (.int .i64 (partFault ⟨k,n,s⟩))):=by
 by_cases hk2:k=2
 ·subst hk2;have hc:=bs_ s;have hf:=ig_ s;by_cases h0:textFault s=0
  ·rw [h0]at hc;have HC:=h_ hc;clear hc hf;by_cases he:s.toList= []
   ·have HF:=h_ (show partFault ⟨2,n,s⟩=4 by simp [partFault,h0,he]);clear h0;exact m134_
   have he1:s.toList.isEmpty=false:=(by simpa using he);by_cases hn:n=0
   ·subst hn;have HF:=h_ (show partFault ⟨2,0,s⟩=0 by simp [partFault,h0,he]);clear h0;exact m134_
   ·have HF:=h_ (show partFault ⟨2,n,s⟩=4 by simp [partFault,h0,hn]);have hn1:(n !=0)=true:=(by simpa using hn);clear h0;exact m134_
  ·have HF:=h_ (show partFault ⟨2,n,s⟩=textFault s by simp [partFault,h0]);have hb0:(textFault s==0)=false:=(by simpa using h0);generalize textFault s=x at*;have HC:=h_ hc;clear hc hf h0;exact m134_
 have e2:(k==2)=false:=by simpa using hk2
 by_cases hk13:k=1∨k=3
 ·have hkk:1≤k∧k≤3:=by omega
  obtain⟨hk1,hk3⟩:=hkk;by_cases hn:n<1∨4000<n
  ·have HF:=h_ (show partFault ⟨k,n,s⟩=2 by unfold partFault;rw [if_neg hk2,if_pos hk13,if_pos hn]);have HN:=h_ hn;clear hk13 hn;go_enter Tryz.func103,Tryz.ntmps103
   go_wp2_with fail
   refine(m_ _ _ _ _ hk1 hk3).mono ?_;rintro e w' ⟨rfl,rfl⟩;go_wp2_with fail
   refine(In_no _ _ _ _ HN.o).mono ?_;rintro e w' ⟨rfl,rfl⟩;exact m118_
  ·have hn1:1≤n:=(by omega);have hn2:n≤4000:=(by omega);by_cases he:s.toList= []
   ·have HF:=h_ (show partFault ⟨k,n,s⟩=0 by unfold partFault;rw [if_neg hk2,if_pos hk13,if_neg hn,if_neg (by simpa using he)]);have he1:(!s.toList.isEmpty)=false:=(by simpa using he);exact m201_
   ·have HF:=h_ (show partFault ⟨k,n,s⟩=4 by unfold partFault;rw [if_neg hk2,if_pos hk13,if_neg hn,if_pos he]);have he1:(!s.toList.isEmpty)=true:=(by simpa using he);exact m201_
 ·have HF:=h_ (show partFault ⟨k,n,s⟩=3 by unfold partFault;rw [if_neg hk2,if_neg hk13]);have HN:=h_ (show k<1∨3<k by omega);clear hk13;go_enter Tryz.func103,Tryz.ntmps103
  go_wp2_with fail
  refine(In_no _ _ _ _ HN.o).mono ?_;rintro e w' ⟨rfl,rfl⟩;exact m118_
end
def clash (q p:PartD):Bool:=q.kind==p.kind || (q.kind==3&&p.kind==2)
def badAt (ps:LP_) (i:Nat):Int:=
 match ps[i]? with
 | none=>0
 | some p=>if partFault p≠0 then partFault p else match i with
  | 0=>0
  | j+1=>match ps[j]? with
   | none=>0
   | some q=>if clash q p then 4 else 0
def opFault (ps:LP_):Int:=
 if 8001<ps.length then 1 else match ((List.range ps.length).map (badAt ps)).find? (· ≠0)with
  | some e=>e
  | none=>if 4000<(lens ps).1∨4000<(lens ps).2 then 1 else 0
theorem hs_{ps:List PartD}(h:8001<ps.length):opFault ps=1:=if_pos h
theorem bah_{l:List Int}{k:Nat}(hk:k<l.length)(h: ∀i (hi:i<k),l[i]'(Nat.lt_trans hi hk)=0)(hb:l[k]≠0):l.find? (· ≠0)=some l[k]:=by
 induction l generalizing k with
 | nil=>exact absurd hk (by simp)
 | cons x l ih=>
  cases k with
  | zero=>
   have hb': ¬x=0:=(by simpa using hb);simp [hb']
  | succ k=>
   have h0:x=0:=h 0 (by omega);rw [List.find?_cons];simp only [h0,ne_eq,not_true_eq_false,decide_false];exact ih (by simpa using hk) (fun i hi=>h (i+1) (by omega)) hb
section
variable {ps:List PartD}
include ps
theorem ez_(h: ¬8001<ps.length){k:Nat}(hk:k<ps.length)(hg: ∀i,i<k→badAt ps i=0)(hb:badAt ps k≠0):opFault ps=badAt ps k:=by
 unfold opFault;rw [if_neg h,bah_ (l:=(List.range ps.length).map (badAt ps)) (k:=k) (by simpa using hk) (fun i hi=>by simpa using hg i hi) (by simpa using hb)];simp
theorem hr_(h: ¬8001<ps.length)(hg: ∀i,i<ps.length→badAt ps i=0):opFault ps=if 4000<(lens ps).1∨4000<(lens ps).2 then 1 else 0:=by
 unfold opFault;rw [if_neg h,List.find?_eq_none.2];intro x hx;obtain⟨i,hi,rfl⟩:=List.mem_map.1 hx;simpa using hg i (List.mem_range.1 hi)
theorem eq_{k:Nat}(hk:k<ps.length)(h:partFault ps[k]≠0):badAt ps k=partFault ps[k]:=by
 unfold badAt;rw [List.getElem?_eq_getElem hk];simp [h]
theorem oi_(hk:0<ps.length)(h:partFault ps[0]=0):badAt ps 0=0:=by
 unfold badAt;rw [List.getElem?_eq_getElem hk];simp [h]
theorem jc_{j:Nat}(hk:j+1<ps.length)(h:partFault ps[j+1]=0):badAt ps (j+1)=if clash ps[j] ps[j+1]then 4 else 0:=by
 unfold badAt;rw [List.getElem?_eq_getElem hk];simp [h,List.getElem?_eq_getElem (show j<ps.length by omega)]
end
section
variable(w:World) (A:OA_) (c:Nat) (ps:LP_) (hT:Tabs w) (hs:OpIn (· <w.heap.size) w A ps) (hm:ps.length≤1048576) (ht: ∀p∈ps,p.text.size≤1048576)
include w A c ps hT hs hm ht
theorem bt_:
 Calls Tryz.prog 96 #[.slice A ps.length c] w (R_ w (.int .i64 (opFault ps))):=by
 exact m17_
theorem bk_:
 Calls Tryz.prog 60 #[.slice A ps.length c] w (R_ w (.int .i64 (opFault ps))):=by
 have vAC:=h_ trivial;exact m17_
end
theorem v_(n:Int)(w:World)(h1:0≤n)(h2:n≤1048576):Calls Tryz.prog 70 #[.int .i64 n] w fun e w'=>e= .returned (.bool true)∧w=w':=by
 have e1:decide (0≤n)=true:=by simpa using h1
 have e2:decide (n≤1048576)=true:=by simpa using h2
 exact m240_
theorem gu_(n:Int)(w:World)(h:n<0∨1048576<n):Calls Tryz.prog 70 #[.int .i64 n] w fun e w'=>e= .returned (.bool false)∧w=w':=by
 rcases Int.lt_or_le n 0 with h1 | h1
 ·have e1:decide (0≤n)=false:=by simpa using h1
  exact m240_
 ·have h2:1048576<n:=by omega
  have e1:decide (0≤n)=true:=by simpa using h1
  have e2:decide (n≤1048576)=false:=by simpa using h2
  exact m240_
end Go.Proofs.YtacacoklddogmaaGreatDoor
namespace Go.Proofs.YtacacoklddogmaaGreatDoor
set_option maxHeartbeats 4000000
open Go.ChangeShapes Go.WideShapes Go.ChangeAt Go.RowKit Go.Joins Go.Deep
set_option maxRecDepth 100000
section
variable {H:Type}{enc:TypeId × Value→H}{P:Program}{w:World}{base:Nat}{spare:Nat→Bool}{held:Bool}
theorem fb_{t:TypeId}{fs:Array Field}{fuel:Nat}{cs:List Value}{x:DataW H × List MemPlace}(ht:P.underlying t=some (.struct fs))(hone:oneCellFields P fs=true)(hC:P.cellsOf t=fs.size)
 (h:DataW.trod enc P w base spare held fuel t cs=some x):
 ∃(ys:List (DataW H × List MemPlace)) (n:Nat),x.1= .agg (ys.map (·.1))∧ys.length=fs.size∧cs.length=fs.size∧
  ∀(j:Nat) (f:Field),fs[j]?=some f→ ∃(v:Value) (y:DataW H × List MemPlace),cs[j]?=some v∧ys[j]?=some y∧DataW.trod enc P w base spare held n f.type [v]=some y:=by
 obtain⟨ys,n',hn',hy,hlen,hyl,hf⟩:=DataW.trod_struct ht h;rw [hC]at hlen;refine⟨ys,n',by rw [hy],hyl,hlen,fun j f hj=>?_⟩;obtain⟨ho,hk⟩:=hone_of hone j f hj;have hjl:j<fs.size:=(Array.getElem?_eq_some_iff.1 hj).1;have h1:=hf j f hj;rw [ho,hk]at h1;have hone':(cs.drop j).take 1= [cs[j]'(by omega)]:=by
  rw [List.drop_eq_getElem_cons (by omega)];rfl
 rw [hone']at h1;have hys:ys[j]?=some (ys[j]'(by omega)):=List.getElem?_eq_getElem (by omega);exact⟨_,_,List.getElem?_eq_getElem (by omega),hys,h1.trans hys⟩
theorem cg_{ys:List (DataW H × List MemPlace)}{x:DataW H}{n:Nat}(hx:x= .agg (ys.map (·.1)))(hb:Rows.uptoBulk x≤n){j:Nat}{y:DataW H × List MemPlace}(hj:ys[j]?=some y):Rows.uptoBulk y.1≤n:=by
 rw [hx,uy_]at hb;have:=ec_ (List.mem_map.2 ⟨y,List.mem_of_getElem? hj,rfl⟩:y.1∈ys.map (·.1));omega
end
section
variable {α:Type}{l:List α}
include α l
theorem list2(h:l.length=2): ∃a b,l= [a,b]:=by
 match l,h with
 | [a,b],_=>exact⟨a,b,rfl⟩
theorem list3(h:l.length=3): ∃a b c,l= [a,b,c]:=by
 match l,h with
 | [a,b,c],_=>exact⟨a,b,c,rfl⟩
theorem list5(h:l.length=5): ∃a b c d e,l= [a,b,c,d,e]:=by
 match l,h with
 | [a,b,c,d,e],_=>exact⟨a,b,c,d,e,rfl⟩
end
section
variable {H:Type}{enc:TypeId × Value→H}{w:World}{m:Nat}
section
variable {t:TypeId}{v:Value}{y:DataW H × List MemPlace}
include t v y
theorem cj_(ht:Tryz.prog.underlying t=some (.int .i64))(h:DataW.trod enc Tryz.prog w 0 (fun _=>true) true m t [v]=some y):
 ∃k:Int,v= .int .i64 k∧ -9223372036854775808≤k∧k≤9223372036854775807:=by
 obtain⟨k,e,_,hw⟩:=DataW.trod_int ht h;exact⟨k,by simpa using e,(fh_ hw).1,(fh_ hw).2⟩
theorem se_(ht:Tryz.prog.underlying t=some .string)(h:DataW.trod enc Tryz.prog w 0 (fun _=>true) true m t [v]=some y)(hb:Rows.uptoBulk y.1≤1048576):
 ∃s:ByteArray,v= .string s∧s.size≤1048576:=by
 obtain⟨s,e,d⟩:=DataW.trod_string ht h;refine⟨s,by simpa using e,?_⟩;rw [d.1,ln_]at hb;have e:=bbu_ s;omega
end
theorem vs_{v:Value}{y:DataW H × List MemPlace}(h:DataW.trod enc Tryz.prog w 0 (fun _=>true) true m 30 [v]=some y)(hb:Rows.uptoBulk y.1≤1048576):
 ∃(A:OA_) (c:Nat) (ps:LP_),v= .slice A ps.length c∧ps.length≤c∧c≤9223372036854775807∧OpIn (· <w.heap.size) w A ps∧ps.length≤1048576∧ ∀p∈ps,p.Fit:=by
 obtain⟨A,c,ps,h1,h2,h3,h4,h5,h6⟩:=bhc_ Tryz.underlying30 h hb;exact⟨A,c,ps,h1,h2,h3,h4,by omega,h6⟩
theorem pb_{cs:List Value}{y:DataW H × List MemPlace}(h:DataW.trod enc Tryz.prog w 0 (fun _=>true) true m 46 cs=some y)(hb:Rows.uptoBulk y.1≤1048576):
 ∃(k hd ep:Int) (A:OA_) (c:Nat) (ps:LP_) (s:ByteArray),cs= [.int .i64 k,.int .i64 hd,.int .i64 ep,.slice A ps.length c,.string s]∧(-9223372036854775808≤k∧k≤9223372036854775807)∧
  (-9223372036854775808≤hd∧hd≤9223372036854775807)∧(-9223372036854775808≤ep∧ep≤9223372036854775807)∧
  (ps.length≤c∧c≤9223372036854775807∧OpIn (· <w.heap.size) w A ps∧ps.length≤1048576∧ ∀p∈ps,p.Fit)∧s.size≤1048576:=by
 obtain⟨ys,n,hx,_,hl,hf⟩:=fb_ Tryz.underlying46 (by kernel_rfl) (by kernel_rfl) h;have k192_:K_ (∀(P:Prop) (h:P:=by
 obtain⟨k,rfl,h0⟩:=cj_ Tryz.underlying3 ht0;obtain⟨hd,rfl,h1⟩:=cj_ Tryz.underlying3 ht1;obtain⟨ep,rfl,h2⟩:=cj_ Tryz.underlying3 ht2;obtain⟨A,c,ps,rfl,h3⟩:=vs_ ht3 (cg_ hx hb hy3);obtain⟨s,rfl,h4⟩:=se_ Tryz.underlying9 ht4 (cg_ hx hb hy4);exact⟨k,hd,ep,A,c,ps,s,rfl,h0,h1,h2,h3,h4⟩
 ),P):=⟨@q6_⟩
 exact m192_
end
end Go.Proofs.YtacacoklddogmaaGreatDoor
