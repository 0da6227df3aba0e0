/- Lemmas. -/
import Derived.Test.YtacacoklddogmaaGreatDoorKBA
namespace Go.Proofs.YtacacoklddogmaaGreatDoor
set_option maxHeartbeats 4000000
open Go.ChangeShapes Go.WideShapes Go.ChangeAt Go.RowKit
set_option maxRecDepth 100000
theorem m18_{P:Prop}(h:P:=by
 have d5:decide (s<L.length)=false:=by simp;omega
 first
 |guard_hyp vAD
 |have d1:decide (s<0)=false:=by simp;omega
  have d2:decide (1048576<s)=false:=by simp;omega
  have d3:decide (h<0)=false:=by simp;omega
  have d4:decide (1048576<h)=false:=by simp;omega
 have HM:=h_ hm;have HT:=h_ hT;have HS:=h_ hs;clear hm hT hs;first
 |guard_hyp vAD
  go_enter Tryz.func104,Tryz.ntmps104
 |go_enter Tryz.func122,Tryz.ntmps122
 go_wp2_with fail
 first
 |guard_hyp vAD
  refine(m_ _ _ _ _ (by omega) (by omega)).mono ?_;rintro e w1 ⟨rfl,rfl⟩;go_wp2_with fail
  refine(m_ _ _ _ _ (by omega) (by omega)).mono ?_;rintro e w1 ⟨rfl,rfl⟩;go_wp2_with fail
  go_loopw [2,3] (fun r i wr=> ∃(k:Nat),k≤L.length∧i= .int .i64 k∧r= .bool false∧Hid (∀i,i<k→badOp L i=false)∧Below (w.alloc (.cells #[.int .i64 s,.int .i64 h,.slice A L.length c] 55)).heap.size (w.alloc (.cells #[.int .i64 s,.int .i64 h,.slice A L.length c] 55)) wr)
   (fun _ i _=>L.length - (intOf i).toNat)
 |go_loopw [2,38] (fun r i wr=> ∃(k:Nat),k≤L.length∧i= .int .i64 k∧r= .int .i64 0∧Hid (∀i,i<k→badOp L i=false)∧Below (w.alloc (.cells #[.int .i64 s,.int .i64 h,.slice A L.length c] 55)).heap.size (w.alloc (.cells #[.int .i64 s,.int .i64 h,.slice A L.length c] 55)) wr)
   (fun _ i _=>L.length - (intOf i).toNat)
 case atStart=>exact⟨0,Nat.zero_le _,rfl,rfl,fun i hi=>absurd hi (by omega),Below.refl _ _⟩
 case round=>
  obtain⟨k,hk,rfl,rfl,hok,hbw⟩:=hrel;have q0:wr.cell? ⟨w.heap.size,0,none⟩=some (.int .i64 s):=(hbw.cell (p:=⟨w.heap.size,0,none⟩) (by simp)).trans (by simp [go_sem]);have q2:wr.cell? ⟨w.heap.size,2,none⟩=some (.slice A L.length c):=(hbw.cell (p:=⟨w.heap.size,2,none⟩) (by simp)).trans (by simp [go_sem]);have qs:w.heap.size<wr.heap.size:=by have:=hbw.size;simp at this;omega
  have hwr:Below w.heap.size w wr:=bThen bA_ hbw;have HW:=h_ hbw;clear hbw;have HTW:=h_ (HT.o.la hwr);have HSW:=h_ (HS.o.la hwr);by_cases hlt:k<L.length
  ·obtain⟨b,o,rfl,hbs,hcell,hop⟩:=HSW.o.at_ hlt;have hsm:=HM.o _ (List.getElem_mem hlt);first
   |guard_hyp vAD
    have hck:=fun W (t:Tabs W) (u:OpIn (· <W.heap.size) W L[k].A L[k].ps)=>bk_ W L[k].A L[k].c L[k].ps t u hsm.len hsm.text
   |have hck:=fun W (t:Tabs W) (u:OpIn (· <W.heap.size) W L[k].A L[k].ps)=>bt_ W L[k].A L[k].c L[k].ps t u hsm.len hsm.text
   by_cases hpf:opFault L[k].ps=0
   ·rw [hpf]at hck;have HP:=h_ hck;clear hck;by_cases hk0:k=0
    ·subst hk0;have hr:Hid (∀i,i<0+1→badOp L i=false):=fun i hi=>by
      obtain rfl:i=0:=(by omega);exact ok_ hlt hpf
     clear hpf hsm hok;generalize L[0]=x at*;obtain⟨Ax,cx,px⟩:=x;dsimp only at*;simp only [Nat.add_zero]at hcell;go_wp2_with fail
     refine(HP.o _ (HTW.o.la bz_) (Sl.la hop bz_)).mono ?_;rintro e w1 ⟨rfl,hb1⟩;obtain⟨⟨d1,os1⟩,rfl⟩:=e_ hb1;go_wp2_with fail
     go_roundw
     case rel=>exact⟨1,by omega,by go_num,rfl,hr,bThen HW.o bz_⟩
     case measure=>simp [intOf];omega
    ·obtain⟨j,rfl⟩: ∃j,k=j+1:=⟨k - 1,by omega⟩
     obtain⟨b',o',hbo,_,hcel',hop'⟩:=HSW.o.at_ (k:=j) (by omega);injection hbo with hbo
     injection hbo with e1 e2
     subst e1 e2;have hsm':=HM.o _ (List.getElem_mem (show j<L.length by omega));have hba:=oj_ hlt hpf;have hle:j+1≤1048576:=(by omega);first
     |guard_hyp vAD
      have hl1:=fun W (u:OpIn (· <W.heap.size) W L[j].A L[j].ps)=>bq_ W L[j].A L[j].c L[j].ps u hsm'.len hsm'.text;have hl2:=fun W (u:OpIn (· <W.heap.size) W L[j+1].A L[j+1].ps)=>bq_ W L[j+1].A L[j+1].c L[j+1].ps u hsm.len hsm.text
     |have hl1:=fun W (u:OpIn (· <W.heap.size) W L[j].A L[j].ps)=>cs_ W L[j].A L[j].c L[j].ps u hsm'.len hsm'.text;have hl2:=fun W (u:OpIn (· <W.heap.size) W L[j+1].A L[j+1].ps)=>cs_ W L[j+1].A L[j+1].c L[j+1].ps u hsm.len hsm.text
     by_cases hne:(lens L[j+1].ps).1=(lens L[j].ps).2
     ·rw [decide_eq_false (by simpa using hne)]at hba;have hr:Hid (∀i,i<j+1+1→badOp L i=false):=fun i hi=>by
       rcases Nat.lt_or_ge i (j+1)with h | h
       ·exact hok.o i h
       ·obtain rfl:i=j+1:=(by omega);exact hba
      clear hba;generalize lens L[j].ps=l1 at*;generalize lens L[j+1].ps=l2 at*;obtain⟨f1,t1⟩:=l1;obtain⟨f2,t2⟩:=l2;dsimp only at*;clear hpf hsm hsm' hok hk0;subst hne;have k145_:K_ (∀(P:Prop) (h:P:=by
      go_roundw
      case rel=>exact⟨j+1+1,by omega,by go_num,rfl,hr,bThen HW.o bz_⟩
      case measure=>simp [intOf];omega
      ),P):=⟨@q6_⟩
      exact m145_
     ·rw [decide_eq_true hne]at hba;first
      |guard_hyp vAD
       have HF:=h_ (show edgeB s h L=false from decide_eq_false (gj_ hlt (hba)))
      |have HF:=h_ (show edgeErr s h L=9 from if_neg (gj_ hlt (hba)))
      clear hba;generalize lens L[j].ps=l1 at*;generalize lens L[j+1].ps=l2 at*;obtain⟨f1,t1⟩:=l1;obtain⟨f2,t2⟩:=l2;dsimp only at*;clear hpf hsm hsm' hok hk0;have hd:(f2 !=t1)=true:=(by simpa using hne);have hd2:(f2==t1)=false:=(by simpa using hne);clear hne;have k145_:K_ (∀(P:Prop) (h:P:=by
      go_ret
      exact⟨by rw [HF.o];rfl,bThen hwr bz_⟩
      ),P):=⟨@q6_⟩
      exact m145_
   ·first
    |guard_hyp vAD
     have HF:=h_ (show edgeB s h L=false from decide_eq_false (gj_ hlt (lm_ hlt hpf)))
    |have HF:=h_ (show edgeErr s h L=9 from if_neg (gj_ hlt (lm_ hlt hpf)))
    have hb0:(opFault L[k].ps !=0)=true:=(by simpa using hpf);generalize opFault L[k].ps=fx at*;have HP:=h_ hck;clear hck hpf hsm;generalize L[k]=x at*;obtain⟨Ax,cx,px⟩:=x;dsimp only at*;go_wp2_with fail
    refine(HP.o _ (HTW.o.la bz_) (Sl.la hop bz_)).mono ?_;rintro e w1 ⟨rfl,hb1⟩;obtain⟨⟨d1,os1⟩,rfl⟩:=e_ hb1;go_wp2_with fail
    go_ret
    exact⟨by rw [HF.o];rfl,bThen hwr bz_⟩
  ·obtain rfl:k=L.length:=(by omega);first
   |guard_hyp vAD
    have HF:=h_ (show edgeB s h L=true from decide_eq_true ⟨⟨⟨h1,h2⟩,h3,h4⟩,hl,hok.o⟩)
   |have HF:=h_ (show edgeErr s h L=0 from if_pos ⟨⟨⟨h1,h2⟩,h3,h4⟩,hl,hok.o⟩)
   go_wp2_with fail
   go_ret
   exact⟨by rw [HF.o];rfl,bThen hwr bz_⟩):P:=h
theorem m55_{P:Prop}(h:P:=by
 have HTX:=h_ ht;have HT:=h_ hT;have HO:=h_ (fun W=>bk_ W A c ps);rw [hop0]at HO;have HX:=h_ (bs_ s);rw [htf0]at HX;clear ht hT hop0 htf0;go_enter Tryz.func78,Tryz.ntmps78
 have k132_:K_ (∀(P:Prop) (h:P:=by
 go_wp2_with fail
 refine(HO.o _ (HT.o.la bz_) (Sl.la hs bz_) hm HTX.o).mono ?_;have k193_:K_ (∀(P:Prop) (h:P:=by
 exact m102_
 ),P):=⟨@q6_⟩
 exact m193_
 ),P):=⟨@q6_⟩
 exact m132_):P:=h
theorem m57_{P:Prop}(h:P:=by
 have HTX:=h_ ht;have HT:=h_ hT;have HO:=h_ (fun W=>bt_ W A c ps);rw [hop0]at HO;have HX:=h_ (br_ s);rw [htf0]at HX;clear ht hT hop0 htf0;have k158_:K_ (∀(P:Prop) (h:P:=by
 have k193_:K_ (∀(P:Prop) (h:P:=by
 exact m102_
 ),P):=⟨@q6_⟩
 exact m193_
 ),P):=⟨@q6_⟩
 exact m158_):P:=h
theorem m132_{P:Prop}(h:P:=by
 go_wp2_with fail
 refine(m_ _ _ _ _ (by omega) (by omega)).mono ?_;rintro e w1 ⟨rfl,rfl⟩;go_wp2_with fail
 refine(m_ _ _ _ _ (by omega) (by omega)).mono ?_;rintro e w1 ⟨rfl,rfl⟩;go_wp2_with fail
 refine(m_ _ _ _ _ (by omega) (by omega)).mono ?_;rintro e w1 ⟨rfl,rfl⟩;exact k132_.o _):P:=h
theorem m145_{P:Prop}(h:P:=by
 generalize L[j]=y at*;obtain⟨Ay,cy,py⟩:=y;dsimp only at*;generalize L[j+1]=x at*;obtain⟨Ax,cx,px⟩:=x;dsimp only at*;have HL1:=h_ hl1;have HL2:=h_ hl2;clear hl1 hl2;go_wp2_with fail
 refine(HP.o _ (HTW.o.la bz_) (Sl.la hop bz_)).mono ?_;rintro e w1 ⟨rfl,hb1⟩;obtain⟨⟨d1,os1⟩,rfl⟩:=e_ hb1;go_wp2_with fail
 first
 |guard_hyp vAD
  refine(HL2.o _ (Sl.la hop bz_)).mono ?_
 |refine(HL1.o _ (Sl.la hop' bz_)).mono ?_
 rintro e w2 ⟨rfl,hb2⟩;obtain⟨⟨d2,os2⟩,rfl⟩:=e_ hb2;go_wp2_with fail
 first
 |guard_hyp vAD
  refine(HL1.o _ (Sl.la hop' bz_)).mono ?_
 |refine(HL2.o _ (Sl.la hop bz_)).mono ?_
 rintro e w3 ⟨rfl,hb3⟩;obtain⟨⟨d3,os3⟩,rfl⟩:=e_ hb3;go_wp2_with fail
 exact k145_.o _):P:=h
theorem m151_{P:Prop}(h:P:=by
 have HG:=h_ (show∀i (hi:i<L.length),i<k+1→frameFault L[i].d=0 by
  intro i hi hik;rcases Nat.lt_or_ge i k with q | q
  · exact hg.o i hi q
  · obtain rfl:i=k:=by omega
    exact hf)
 rw [hf]at HB;clear hf hg;generalize L[k]=f at*;obtain⟨fk,fh,fe,⟨fA,fc,fp⟩,fs⟩:=f;dsimp only at*;go_wp2_with fail
 refine(HB.o _ (HT.o.la hbw) hop).mono ?_;rintro r w1 ⟨rfl,hb1⟩;go_wp2_with fail
 go_roundw
 case rel=>exact⟨k+1,by omega,by go_num,HG,bThen hbw hb1⟩
 case measure=>simp [intOf];omega):P:=h
theorem m158_{P:Prop}(h:P:=by
 go_enter Tryz.func72,Tryz.ntmps72
 have k252_:K_ (∀(P:Prop) (h:P:=by
 refine(HO.o _ (HT.o.la bz_) (Sl.la hs bz_) hm HTX.o).mono ?_;exact k158_.o _
 ),P):=⟨@q6_⟩
 exact m252_):P:=h
theorem m187_{P:Prop}(h:P:=by
 go_wp2_with fail
 refine(m_ _ _ _ _ (by omega) (by omega)).mono ?_;rintro e w1 ⟨rfl,rfl⟩;exact m264_):P:=h
theorem m193_{P:Prop}(h:P:=by
 rintro e w1 ⟨rfl,hb1⟩;obtain⟨⟨d1,os1⟩,rfl⟩:=e_ hb1;go_wp2_with fail
 refine(HX.o _ (HT.o.la bz_) hst).mono ?_;rintro e w2 ⟨rfl,hb2⟩;obtain⟨⟨d2,os2⟩,rfl⟩:=e_ hb2;exact k193_.o _):P:=h
theorem m196_{P:Prop}(h:P:=by
 go_enter Tryz.func122,Tryz.ntmps122
 exact m102_):P:=h
theorem m231_{P:Prop}(h:P:=by
 obtain⟨e,n,sA,sc,s,qA,qc,q,h⟩:=l;dsimp only at*;go_enter Tryz.func110,Tryz.ntmps110
 go_wp2_with fail
 all_goals(first | (go_ret;exact⟨rfl,bz_⟩) | (exfalso;have:=H.o;omega))):P:=h
theorem m239_{P:Prop}(h:P:=by
 have HTX:=h_ ht;have HT:=h_ hT;clear ht hT;go_enter Tryz.func78,Tryz.ntmps78
 exact k239_.o _):P:=h
theorem m252_{P:Prop}(h:P:=by
 go_wp2_with fail
 refine(v_ _ _ (by omega) (by omega)).mono ?_;rintro e w1 ⟨rfl,rfl⟩;go_wp2_with fail
 refine(v_ _ _ (by omega) (by omega)).mono ?_;rintro e w1 ⟨rfl,rfl⟩;go_wp2_with fail
 exact k252_.o _):P:=h
theorem m261_{P:Prop}(h:P:=by
 rintro r w1 ⟨rfl,hb1⟩;go_wp2_with fail
 go_ret
 exact⟨by rw [HR.o];rfl,bThen hbw hb1⟩):P:=h
theorem m264_{P:Prop}(h:P:=by
 go_wp2_with fail
 refine(In_no _ _ _ _ H.o).mono ?_;rintro e w1 ⟨rfl,rfl⟩;exact m102_):P:=h
theorem m275_{P:Prop}(h:P:=by
 go_wp2_with fail
 refine(m_ _ _ _ _ (by omega) (by omega)).mono ?_;rintro e w1 ⟨rfl,rfl⟩;go_wp2_with fail
 refine(In_no _ _ _ _ H.o).mono ?_;rintro e w1 ⟨rfl,rfl⟩;exact m118_):P:=h
structure FrameD where
 kind:Int
 heard:Int
 epoch:Int
 op:List PartD
 text:ByteArray
def formOk (f:FrameD):Prop:=
 if f.kind=1 then f.epoch=0∧f.text.toList= []else if f.kind=2 then f.epoch≠0∧f.op= []∧f.text.toList= []else f.epoch≠0∧f.op= []∧f.heard=0
instance (f:FrameD):Decidable (formOk f):=by
 unfold formOk;exact inferInstance
def frameFault (f:FrameD):Int:=
 if f.kind<1∨3<f.kind then 3
 else if(f.heard<0∨1048576<f.heard)∨(f.epoch<0∨1048576<f.epoch)then 2
 else if opFault f.op≠0 then opFault f.op
 else if textFault f.text≠0 then textFault f.text
 else if formOk f then 0 else 4
abbrev frameV (k h e:Int) (A:OA_) (n c:Nat) (s:ByteArray):Value:= .agg #[.int .i64 k,.int .i64 h,.int .i64 e,.slice A n c,.string s]
section
variable(w:World)
include w
section
variable(h:Int) (A:OA_) (c:Nat) (ps:LP_) (s:ByteArray) (hT:Tabs w) (hs:OpIn (· <w.heap.size) w A ps) (hm:ps.length≤1048576) (ht: ∀p∈ps,p.text.size≤1048576) (hst:s.size≤1048576) (hh1:0≤h) (hh2:h≤1048576) (hop0:opFault ps=0) (htf0:textFault s=0)
include h A c ps s hT hs hm ht hst hh1 hh2 hop0 htf0
theorem mf_(_t1:s.toList.isEmpty=true):
 Calls Tryz.prog 72 #[frameV 1 h 0 A ps.length c s] w (R_ w (.int .i64 0)):=by
 exact m57_
theorem mg_(_t1:s.toList.isEmpty=false):
 Calls Tryz.prog 72 #[frameV 1 h 0 A ps.length c s] w (R_ w (.int .i64 4)):=by
 exact m57_
end
theorem mh_(h e:Int)(A:OA_)(c:Nat)(ps:LP_)(s:ByteArray)(hT:Tabs w)(hs:OpIn (· <w.heap.size) w A ps)(hm:ps.length≤1048576)(ht: ∀p∈ps,p.text.size≤1048576)(hst:s.size≤1048576)(hh1:0≤h)(hh2:h≤1048576)(he1:0≤e)(he2:e≤1048576)(hop0:opFault ps=0)(htf0:textFault s=0)(_p1:decide (0<e)=true)(_p2:(e==0)=false)(_p3:(e !=0)=true):
 Calls Tryz.prog 72 #[frameV 1 h e A ps.length c s] w (R_ w (.int .i64 4)):=by
 exact m57_
theorem mi_(h:Int)(A:OA_)(c:Nat)(ps:LP_)(s:ByteArray)(hT:Tabs w)(hs:OpIn (· <w.heap.size) w A ps)(hm:ps.length≤1048576)(ht: ∀p∈ps,p.text.size≤1048576)(hst:s.size≤1048576)(hh1:0≤h)(hh2:h≤1048576)(hop0:opFault ps=0)(htf0:textFault s=0):
 Calls Tryz.prog 72 #[frameV 2 h 0 A ps.length c s] w (R_ w (.int .i64 4)):=by
 exact m57_
section
variable(h e:Int) (A:OA_) (c:Nat) (ps:LP_) (s:ByteArray) (hT:Tabs w) (hs:OpIn (· <w.heap.size) w A ps) (hm:ps.length≤1048576) (ht: ∀p∈ps,p.text.size≤1048576) (hst:s.size≤1048576) (hh1:0≤h) (hh2:h≤1048576) (he1:0≤e) (he2:e≤1048576) (hop0:opFault ps=0) (htf0:textFault s=0)
include h e A c ps s hT hs hm ht hst hh1 hh2 he1 he2 hop0 htf0
theorem mj_(_p1:decide (0<e)=true)(_p2:(e==0)=false)(_p3:(e !=0)=true)(_q0:decide (0<ps.length)=false)(_t1:s.toList.isEmpty=true):
 Calls Tryz.prog 72 #[frameV 2 h e A ps.length c s] w (R_ w (.int .i64 0)):=by
 exact m57_
theorem mk_(_p1:decide (0<e)=true)(_p2:(e==0)=false)(_p3:(e !=0)=true)(_q0:decide (0<ps.length)=false)(_t1:s.toList.isEmpty=false):
 Calls Tryz.prog 72 #[frameV 2 h e A ps.length c s] w (R_ w (.int .i64 4)):=by
 exact m57_
theorem ml_(_p1:decide (0<e)=true)(_p2:(e==0)=false)(_p3:(e !=0)=true)(_q1:decide (0<ps.length)=true):
 Calls Tryz.prog 72 #[frameV 2 h e A ps.length c s] w (R_ w (.int .i64 4)):=by
 exact m57_
end
theorem mm_(h:Int)(A:OA_)(c:Nat)(ps:LP_)(s:ByteArray)(hT:Tabs w)(hs:OpIn (· <w.heap.size) w A ps)(hm:ps.length≤1048576)(ht: ∀p∈ps,p.text.size≤1048576)(hst:s.size≤1048576)(hh1:0≤h)(hh2:h≤1048576)(hop0:opFault ps=0)(htf0:textFault s=0):
 Calls Tryz.prog 72 #[frameV 3 h 0 A ps.length c s] w (R_ w (.int .i64 4)):=by
 exact m57_
theorem mn_(e:Int)(A:OA_)(c:Nat)(ps:LP_)(s:ByteArray)(hT:Tabs w)(hs:OpIn (· <w.heap.size) w A ps)(hm:ps.length≤1048576)(ht: ∀p∈ps,p.text.size≤1048576)(hst:s.size≤1048576)(he1:0≤e)(he2:e≤1048576)(hop0:opFault ps=0)(htf0:textFault s=0)(_p1:decide (0<e)=true)(_p2:(e==0)=false)(_p3:(e !=0)=true)(_q0:decide (0<ps.length)=false):
 Calls Tryz.prog 72 #[frameV 3 0 e A ps.length c s] w (R_ w (.int .i64 0)):=by
 exact m57_
section
variable(h e:Int) (A:OA_) (c:Nat) (ps:LP_) (s:ByteArray) (hT:Tabs w) (hs:OpIn (· <w.heap.size) w A ps) (hm:ps.length≤1048576) (ht: ∀p∈ps,p.text.size≤1048576) (hst:s.size≤1048576) (hh1:0≤h) (hh2:h≤1048576) (he1:0≤e) (he2:e≤1048576) (hop0:opFault ps=0) (htf0:textFault s=0)
include h e A c ps s hT hs hm ht hst hh1 hh2 he1 he2 hop0 htf0
theorem lb_(_p1:decide (0<e)=true)(_p2:(e==0)=false)(_p3:(e !=0)=true)(_q0:decide (0<ps.length)=false)(_g1:decide (0<h)=true)(_g2:(h !=0)=true):
 Calls Tryz.prog 72 #[frameV 3 h e A ps.length c s] w (R_ w (.int .i64 4)):=by
 exact m57_
theorem lc_(_p1:decide (0<e)=true)(_p2:(e==0)=false)(_p3:(e !=0)=true)(_q1:decide (0<ps.length)=true):
 Calls Tryz.prog 72 #[frameV 3 h e A ps.length c s] w (R_ w (.int .i64 4)):=by
 exact m57_
end
theorem em_(k h e:Int)(A:OA_)(c:Nat)(ps:LP_)(s:ByteArray)(hT:Tabs w)(hs:OpIn (· <w.heap.size) w A ps)(hm:ps.length≤1048576)(ht: ∀p∈ps,p.text.size≤1048576)(hst:s.size≤1048576):
 Calls Tryz.prog 72 #[frameV k h e A ps.length c s] w (R_ w (.int .i64 (frameFault ⟨k,h,e,ps,s⟩))):=by
 by_cases hk:k<1∨3<k
 ·have HF:=h_ (show frameFault ⟨k,h,e,ps,s⟩=3 from if_pos hk);rcases hk with hk | hk
  ·have e1:decide (k<1)=true:=(by simpa using hk);have HTX:=h_ ht;have HT:=h_ hT;clear ht hT;go_enter Tryz.func72,Tryz.ntmps72
   exact m118_
  ·have e1:decide (k<1)=false:=(by simp;omega);have e2:decide (3<k)=true:=(by simpa using hk);have HTX:=h_ ht;have HT:=h_ hT;clear ht hT;go_enter Tryz.func72,Tryz.ntmps72
   exact m118_
 have hk1:1≤k:=by omega
 have hk3:k≤3:=by omega
 have d1:decide (k<1)=false:=by simp;omega
 have d2:decide (3<k)=false:=by simp;omega
 by_cases hh:h<0∨1048576<h
 ·have HF:=h_ (show frameFault ⟨k,h,e,ps,s⟩=2 by unfold frameFault;rw [if_neg hk,if_pos (Or.inl hh)]);have H:=h_ hh;clear hh hk;have HTX:=h_ ht;have HT:=h_ hT;clear ht hT;go_enter Tryz.func72,Tryz.ntmps72
  go_wp2_with fail
  refine(gu_ _ _ H.o).mono ?_;rintro e w1 ⟨rfl,rfl⟩;exact m118_
 have hh1:0≤h:=by omega
 have hh2:h≤1048576:=by omega
 by_cases he:e<0∨1048576<e
 ·have HF:=h_ (show frameFault ⟨k,h,e,ps,s⟩=2 by unfold frameFault;rw [if_neg hk,if_pos (Or.inr he)]);have H:=h_ he;clear he hh hk;have HTX:=h_ ht;have HT:=h_ hT;clear ht hT;go_enter Tryz.func72,Tryz.ntmps72
  go_wp2_with fail
  refine(v_ _ _ (by omega) (by omega)).mono ?_;rintro e w1 ⟨rfl,rfl⟩;go_wp2_with fail
  refine(gu_ _ _ H.o).mono ?_;rintro e w1 ⟨rfl,rfl⟩;exact m118_
 have he1:0≤e:=by omega
 have he2:e≤1048576:=by omega
 have hhe: ¬((h<0∨1048576<h)∨(e<0∨1048576<e)):=by omega
 by_cases hop:opFault ps≠0
 ·have HF:=h_ (show frameFault ⟨k,h,e,ps,s⟩=opFault ps by unfold frameFault;rw [if_neg hk,if_neg hhe,if_pos hop]);have b1:(opFault ps !=0)=true:=by simpa using hop
  have b2:(opFault ps==0)=false:=by simpa using hop
  have HO:=h_ (fun W=>bt_ W A c ps);generalize opFault ps=x at*;clear he hh hk hhe hop;have HTX:=h_ ht;have HT:=h_ hT;clear ht hT;have k158_:K_ (∀(P:Prop) (h:P:=by
  exact m89_
  ),P):=⟨@q6_⟩
  exact m158_
 have hop0:opFault ps=0:=by simpa using hop
 have HO:=h_ (fun W=>bt_ W A c ps);rw [hop0]at HO;by_cases htf:textFault s≠0
 ·have HF:=h_ (show frameFault ⟨k,h,e,ps,s⟩=textFault s by unfold frameFault;rw [if_neg hk,if_neg hhe,if_neg hop,if_pos htf]);have b1:(textFault s !=0)=true:=by simpa using htf
  have b2:(textFault s==0)=false:=by simpa using htf
  have HX:=h_ (br_ s);generalize textFault s=x at*;clear he hh hk hhe hop hop0 htf;have HTX:=h_ ht;have HT:=h_ hT;clear ht hT;have k158_:K_ (∀(P:Prop) (h:P:=by
  have k193_:K_ (∀(P:Prop) (h:P:=by
  exact m118_
  ),P):=⟨@q6_⟩
  exact m193_
  ),P):=⟨@q6_⟩
  exact m158_
 have htf0:textFault s=0:=by simpa using htf
 have HG:=h_ (show frameFault ⟨k,h,e,ps,s⟩=if formOk ⟨k,h,e,ps,s⟩then 0 else 4 by unfold frameFault;rw [if_neg hk,if_neg hhe,if_neg hop,if_neg htf]);clear he hh hk hhe hop htf d1 d2;rcases(show k=1∨k=2∨k=3 by omega)with rfl | rfl | rfl
 ·by_cases hz:e=0
  ·subst hz;by_cases hte:s.toList= []
   ·clear HO;rw [HG.o,if_pos (by simp [formOk,hte])];exact mf_ w h A c ps s hT hs hm ht hst hh1 hh2 hop0 htf0 (by simpa using hte)
   ·clear HO;rw [HG.o,if_neg (by simp [formOk,hte])];exact mg_ w h A c ps s hT hs hm ht hst hh1 hh2 hop0 htf0 (by simpa using hte)
  ·clear HO;rw [HG.o,if_neg (by simp [formOk,hz])];exact mh_ w h e A c ps s hT hs hm ht hst hh1 hh2 he1 he2 hop0 htf0 (by simp;omega) (by simp;omega) (by simp;omega)
 ·by_cases hz:e=0
  ·subst hz;rw [HG.o,if_neg (by simp [formOk])];exact mi_ w h A c ps s hT hs hm ht hst hh1 hh2 hop0 htf0 
  ·by_cases hps:ps= []
   ·by_cases hte:s.toList= []
    ·clear HO;rw [HG.o,if_pos (by simp [formOk,hte,hz,hps])];exact mj_ w h e A c ps s hT hs hm ht hst hh1 hh2 he1 he2 hop0 htf0 (by simp;omega) (by simp;omega) (by simp;omega) (by simp [hps]) (by simpa using hte)
    ·clear HO;rw [HG.o,if_neg (by simp [formOk,hte])];exact mk_ w h e A c ps s hT hs hm ht hst hh1 hh2 he1 he2 hop0 htf0 (by simp;omega) (by simp;omega) (by simp;omega) (by simp [hps]) (by simpa using hte)
   ·clear HO;rw [HG.o,if_neg (by simp [formOk,hps])];exact ml_ w h e A c ps s hT hs hm ht hst hh1 hh2 he1 he2 hop0 htf0 (by simp;omega) (by simp;omega) (by simp;omega) (decide_eq_true (List.length_pos_iff.2 hps))
 ·by_cases hz:e=0
  ·subst hz;rw [HG.o,if_neg (by simp [formOk])];exact mm_ w h A c ps s hT hs hm ht hst hh1 hh2 hop0 htf0 
  ·by_cases hps:ps= []
   ·by_cases hh0:h=0
    ·subst hh0;rw [HG.o,if_pos (by simp [formOk,hz,hps])];exact mn_ w e A c ps s hT hs hm ht hst he1 he2 hop0 htf0 (by simp;omega) (by simp;omega) (by simp;omega) (by simp [hps])
    ·clear HO;rw [HG.o,if_neg (by simp [formOk,hh0])];exact lb_ w h e A c ps s hT hs hm ht hst hh1 hh2 he1 he2 hop0 htf0 (by simp;omega) (by simp;omega) (by simp;omega) (by simp [hps]) (by simp;omega) (by simpa using hh0)
   ·clear HO;rw [HG.o,if_neg (by simp [formOk,hps])];exact lc_ w h e A c ps s hT hs hm ht hst hh1 hh2 he1 he2 hop0 htf0 (by simp;omega) (by simp;omega) (by simp;omega) (decide_eq_true (List.length_pos_iff.2 hps))
section
variable(h:Int) (A:OA_) (c:Nat) (ps:LP_) (s:ByteArray) (hT:Tabs w) (hs:OpIn (· <w.heap.size) w A ps) (hm:ps.length≤1048576) (ht: ∀p∈ps,p.text.size≤1048576) (hst:s.size≤1048576) (hh1:0≤h) (hh2:h≤1048576) (hop0:opFault ps=0) (htf0:textFault s=0)
include h A c ps s hT hs hm ht hst hh1 hh2 hop0 htf0
theorem mo_(_t1:s.toList.isEmpty=true):
 Calls Tryz.prog 78 #[frameV 1 h 0 A ps.length c s] w (R_ w (.int .i64 0)):=by
 exact m55_
theorem mp_(_t1:s.toList.isEmpty=false):
 Calls Tryz.prog 78 #[frameV 1 h 0 A ps.length c s] w (R_ w (.int .i64 4)):=by
 exact m55_
end
theorem mq_(h e:Int)(A:OA_)(c:Nat)(ps:LP_)(s:ByteArray)(hT:Tabs w)(hs:OpIn (· <w.heap.size) w A ps)(hm:ps.length≤1048576)(ht: ∀p∈ps,p.text.size≤1048576)(hst:s.size≤1048576)(hh1:0≤h)(hh2:h≤1048576)(he1:0≤e)(he2:e≤1048576)(hop0:opFault ps=0)(htf0:textFault s=0)(_p1:decide (0<e)=true)(_p2:(e==0)=false)(_p3:(e !=0)=true):
 Calls Tryz.prog 78 #[frameV 1 h e A ps.length c s] w (R_ w (.int .i64 4)):=by
 exact m55_
theorem mr_(h:Int)(A:OA_)(c:Nat)(ps:LP_)(s:ByteArray)(hT:Tabs w)(hs:OpIn (· <w.heap.size) w A ps)(hm:ps.length≤1048576)(ht: ∀p∈ps,p.text.size≤1048576)(hst:s.size≤1048576)(hh1:0≤h)(hh2:h≤1048576)(hop0:opFault ps=0)(htf0:textFault s=0):
 Calls Tryz.prog 78 #[frameV 2 h 0 A ps.length c s] w (R_ w (.int .i64 4)):=by
 exact m55_
section
variable(h e:Int) (A:OA_) (c:Nat) (ps:LP_) (s:ByteArray) (hT:Tabs w) (hs:OpIn (· <w.heap.size) w A ps) (hm:ps.length≤1048576) (ht: ∀p∈ps,p.text.size≤1048576) (hst:s.size≤1048576) (hh1:0≤h) (hh2:h≤1048576) (he1:0≤e) (he2:e≤1048576) (hop0:opFault ps=0) (htf0:textFault s=0)
include h e A c ps s hT hs hm ht hst hh1 hh2 he1 he2 hop0 htf0
theorem ms_(_p1:decide (0<e)=true)(_p2:(e==0)=false)(_p3:(e !=0)=true)(_q0:decide (0<ps.length)=false)(_t1:s.toList.isEmpty=true):
 Calls Tryz.prog 78 #[frameV 2 h e A ps.length c s] w (R_ w (.int .i64 0)):=by
 exact m55_
theorem mt_(_p1:decide (0<e)=true)(_p2:(e==0)=false)(_p3:(e !=0)=true)(_q0:decide (0<ps.length)=false)(_t1:s.toList.isEmpty=false):
 Calls Tryz.prog 78 #[frameV 2 h e A ps.length c s] w (R_ w (.int .i64 4)):=by
 exact m55_
theorem mu_(_p1:decide (0<e)=true)(_p2:(e==0)=false)(_p3:(e !=0)=true)(_q1:decide (0<ps.length)=true):
 Calls Tryz.prog 78 #[frameV 2 h e A ps.length c s] w (R_ w (.int .i64 4)):=by
 exact m55_
end
theorem mv_(h:Int)(A:OA_)(c:Nat)(ps:LP_)(s:ByteArray)(hT:Tabs w)(hs:OpIn (· <w.heap.size) w A ps)(hm:ps.length≤1048576)(ht: ∀p∈ps,p.text.size≤1048576)(hst:s.size≤1048576)(hh1:0≤h)(hh2:h≤1048576)(hop0:opFault ps=0)(htf0:textFault s=0):
 Calls Tryz.prog 78 #[frameV 3 h 0 A ps.length c s] w (R_ w (.int .i64 4)):=by
 exact m55_
theorem mw_(e:Int)(A:OA_)(c:Nat)(ps:LP_)(s:ByteArray)(hT:Tabs w)(hs:OpIn (· <w.heap.size) w A ps)(hm:ps.length≤1048576)(ht: ∀p∈ps,p.text.size≤1048576)(hst:s.size≤1048576)(he1:0≤e)(he2:e≤1048576)(hop0:opFault ps=0)(htf0:textFault s=0)(_p1:decide (0<e)=true)(_p2:(e==0)=false)(_p3:(e !=0)=true)(_q0:decide (0<ps.length)=false):
 Calls Tryz.prog 78 #[frameV 3 0 e A ps.length c s] w (R_ w (.int .i64 0)):=by
 exact m55_
section
variable(h e:Int) (A:OA_) (c:Nat) (ps:LP_) (s:ByteArray) (hT:Tabs w) (hs:OpIn (· <w.heap.size) w A ps) (hm:ps.length≤1048576) (ht: ∀p∈ps,p.text.size≤1048576) (hst:s.size≤1048576) (hh1:0≤h) (hh2:h≤1048576) (he1:0≤e) (he2:e≤1048576) (hop0:opFault ps=0) (htf0:textFault s=0)
include h e A c ps s hT hs hm ht hst hh1 hh2 he1 he2 hop0 htf0
theorem ld_(_p1:decide (0<e)=true)(_p2:(e==0)=false)(_p3:(e !=0)=true)(_q0:decide (0<ps.length)=false)(_g1:decide (0<h)=true)(_g2:(h !=0)=true):
 Calls Tryz.prog 78 #[frameV 3 h e A ps.length c s] w (R_ w (.int .i64 4)):=by
 exact m55_
theorem le_(_p1:decide (0<e)=true)(_p2:(e==0)=false)(_p3:(e !=0)=true)(_q1:decide (0<ps.length)=true):
 Calls Tryz.prog 78 #[frameV 3 h e A ps.length c s] w (R_ w (.int .i64 4)):=by
 exact m55_
end
theorem en_(k h e:Int)(A:OA_)(c:Nat)(ps:LP_)(s:ByteArray)(hT:Tabs w)(hs:OpIn (· <w.heap.size) w A ps)(hm:ps.length≤1048576)(ht: ∀p∈ps,p.text.size≤1048576)(hst:s.size≤1048576):
 Calls Tryz.prog 78 #[frameV k h e A ps.length c s] w (R_ w (.int .i64 (frameFault ⟨k,h,e,ps,s⟩))):=by
 by_cases hk:k<1∨3<k
 ·have HF:=h_ (show frameFault ⟨k,h,e,ps,s⟩=3 from if_pos hk);have H:=h_ hk;clear hk;have k239_:K_ (∀(P:Prop) (h:P:=by
  go_wp2_with fail
  refine(In_no _ _ _ _ H.o).mono ?_;rintro e w1 ⟨rfl,rfl⟩;exact m118_
  ),P):=⟨@q6_⟩
  exact m239_
 have hk1:1≤k:=by omega
 have hk3:k≤3:=by omega
 have d1:decide (k<1)=false:=by simp;omega
 have d2:decide (3<k)=false:=by simp;omega
 by_cases hh:h<0∨1048576<h
 ·have HF:=h_ (show frameFault ⟨k,h,e,ps,s⟩=2 by unfold frameFault;rw [if_neg hk,if_pos (Or.inl hh)]);have H:=h_ hh;clear hh hk;have k239_:K_ (∀(P:Prop) (h:P:=by
  exact m275_
  ),P):=⟨@q6_⟩
  exact m239_
 have hh1:0≤h:=by omega
 have hh2:h≤1048576:=by omega
 by_cases he:e<0∨1048576<e
 ·have HF:=h_ (show frameFault ⟨k,h,e,ps,s⟩=2 by unfold frameFault;rw [if_neg hk,if_pos (Or.inr he)]);have H:=h_ he;clear he hh hk;have k239_:K_ (∀(P:Prop) (h:P:=by
  go_wp2_with fail
  refine(m_ _ _ _ _ (by omega) (by omega)).mono ?_;rintro e w1 ⟨rfl,rfl⟩;exact m275_
  ),P):=⟨@q6_⟩
  exact m239_
 have he1:0≤e:=by omega
 have he2:e≤1048576:=by omega
 have hhe: ¬((h<0∨1048576<h)∨(e<0∨1048576<e)):=by omega
 by_cases hop:opFault ps≠0
 ·have HF:=h_ (show frameFault ⟨k,h,e,ps,s⟩=opFault ps by unfold frameFault;rw [if_neg hk,if_neg hhe,if_pos hop]);have b1:(opFault ps !=0)=true:=by simpa using hop
  have b2:(opFault ps==0)=false:=by simpa using hop
  have HO:=h_ (fun W=>bk_ W A c ps);generalize opFault ps=x at*;clear he hh hk hhe hop;have k239_:K_ (∀(P:Prop) (h:P:=by
  have k132_:K_ (∀(P:Prop) (h:P:=by
  go_wp2_with fail
  refine(HO.o _ (HT.o.la bz_) (Sl.la hs bz_) hm HTX.o).mono ?_;exact m89_
  ),P):=⟨@q6_⟩
  exact m132_
  ),P):=⟨@q6_⟩
  exact m239_
 have hop0:opFault ps=0:=by simpa using hop
 have HO:=h_ (fun W=>bk_ W A c ps);rw [hop0]at HO;by_cases htf:textFault s≠0
 ·have HF:=h_ (show frameFault ⟨k,h,e,ps,s⟩=textFault s by unfold frameFault;rw [if_neg hk,if_neg hhe,if_neg hop,if_pos htf]);have b1:(textFault s !=0)=true:=by simpa using htf
  have b2:(textFault s==0)=false:=by simpa using htf
  have HX:=h_ (bs_ s);generalize textFault s=x at*;clear he hh hk hhe hop hop0 htf;have k239_:K_ (∀(P:Prop) (h:P:=by
  have k132_:K_ (∀(P:Prop) (h:P:=by
  go_wp2_with fail
  refine(HO.o _ (HT.o.la bz_) (Sl.la hs bz_) hm HTX.o).mono ?_;have k193_:K_ (∀(P:Prop) (h:P:=by
  exact m118_
  ),P):=⟨@q6_⟩
  exact m193_
  ),P):=⟨@q6_⟩
  exact m132_
  ),P):=⟨@q6_⟩
  exact m239_
 have htf0:textFault s=0:=by simpa using htf
 have HG:=h_ (show frameFault ⟨k,h,e,ps,s⟩=if formOk ⟨k,h,e,ps,s⟩then 0 else 4 by unfold frameFault;rw [if_neg hk,if_neg hhe,if_neg hop,if_neg htf]);clear he hh hk hhe hop htf d1 d2;rcases(show k=1∨k=2∨k=3 by omega)with rfl | rfl | rfl
 ·by_cases hz:e=0
  ·subst hz;by_cases hte:s.toList= []
   ·clear HO;rw [HG.o,if_pos (by simp [formOk,hte])];exact mo_ w h A c ps s hT hs hm ht hst hh1 hh2 hop0 htf0 (by simpa using hte)
   ·clear HO;rw [HG.o,if_neg (by simp [formOk,hte])];exact mp_ w h A c ps s hT hs hm ht hst hh1 hh2 hop0 htf0 (by simpa using hte)
  ·clear HO;rw [HG.o,if_neg (by simp [formOk,hz])];exact mq_ w h e A c ps s hT hs hm ht hst hh1 hh2 he1 he2 hop0 htf0 (by simp;omega) (by simp;omega) (by simp;omega)
 ·by_cases hz:e=0
  ·subst hz;rw [HG.o,if_neg (by simp [formOk])];exact mr_ w h A c ps s hT hs hm ht hst hh1 hh2 hop0 htf0 
  ·by_cases hps:ps= []
   ·by_cases hte:s.toList= []
    ·clear HO;rw [HG.o,if_pos (by simp [formOk,hte,hz,hps])];exact ms_ w h e A c ps s hT hs hm ht hst hh1 hh2 he1 he2 hop0 htf0 (by simp;omega) (by simp;omega) (by simp;omega) (by simp [hps]) (by simpa using hte)
    ·clear HO;rw [HG.o,if_neg (by simp [formOk,hte])];exact mt_ w h e A c ps s hT hs hm ht hst hh1 hh2 he1 he2 hop0 htf0 (by simp;omega) (by simp;omega) (by simp;omega) (by simp [hps]) (by simpa using hte)
   ·clear HO;rw [HG.o,if_neg (by simp [formOk,hps])];exact mu_ w h e A c ps s hT hs hm ht hst hh1 hh2 he1 he2 hop0 htf0 (by simp;omega) (by simp;omega) (by simp;omega) (decide_eq_true (List.length_pos_iff.2 hps))
 ·by_cases hz:e=0
  ·subst hz;rw [HG.o,if_neg (by simp [formOk])];exact mv_ w h A c ps s hT hs hm ht hst hh1 hh2 hop0 htf0 
  ·by_cases hps:ps= []
   ·by_cases hh0:h=0
    ·subst hh0;rw [HG.o,if_pos (by simp [formOk,hz,hps])];exact mw_ w e A c ps s hT hs hm ht hst he1 he2 hop0 htf0 (by simp;omega) (by simp;omega) (by simp;omega) (by simp [hps])
    ·clear HO;rw [HG.o,if_neg (by simp [formOk,hh0])];exact ld_ w h e A c ps s hT hs hm ht hst hh1 hh2 he1 he2 hop0 htf0 (by simp;omega) (by simp;omega) (by simp;omega) (by simp [hps]) (by simp;omega) (by simpa using hh0)
   ·clear HO;rw [HG.o,if_neg (by simp [formOk,hps])];exact le_ w h e A c ps s hT hs hm ht hst hh1 hh2 he1 he2 hop0 htf0 (by simp;omega) (by simp;omega) (by simp;omega) (decide_eq_true (List.length_pos_iff.2 hps))
end
structure OpV where
 A:Option Addr
 c:Nat
 ps:List PartD
abbrev OpV.val (o:OpV):Value:= .slice o.A o.ps.length o.c
structure OpV.Small (o:OpV):Prop where
 len:o.ps.length≤1048576
 text: ∀p∈o.ps,p.text.size≤1048576
structure OpsIn (w:World) (A:OA_) (L:List OpV):Prop where
 row:Sl (· <w.heap.size) w 1 A L.length (L.map OpV.val)
 each: ∀o∈L,OpIn (· <w.heap.size) w o.A o.ps
theorem OpsIn.la{w w':World}{A:Option Addr}{L:List OpV}(h:OpsIn w A L)(hb:Below w.heap.size w w'):OpsIn w' A L:=⟨h.row.la hb,fun o ho=>Sl.la (h.each o ho) hb⟩
theorem OpsIn.at_{w:World}{A:Option Addr}{L:List OpV}(h:OpsIn w A L){k:Nat}(hk:k<L.length):
 ∃b o,A=some ⟨b,o,none⟩∧b<w.heap.size∧w.cell? ⟨b,o+k,none⟩=some (.slice L[k].A L[k].ps.length L[k].c)∧OpIn (· <w.heap.size) w L[k].A L[k].ps:=by
 obtain⟨b,o,e,hb,hc⟩:=h.row.open_ (by omega);exact⟨b,o,e,hb,hc k _ (by rw [List.getElem?_map,List.getElem?_eq_getElem hk];rfl),h.each _ (List.getElem_mem hk)⟩
def badOp (L:List OpV) (i:Nat):Bool:=
 match L[i]? with
 | none=>false
 | some o=>decide (opFault o.ps≠0) || match i with
  | 0=>false
  | j+1=>match L[j]? with
   | none=>false
   | some q=>decide ((lens o.ps).1≠(lens q.ps).2)
def edgeMay (s h:Int) (L:List OpV):Prop:=((0≤s∧s≤1048576)∧(0≤h∧h≤1048576))∧(L.length:Int)≤s∧ ∀i,i<L.length→badOp L i=false
instance (s h:Int) (L:List OpV):Decidable (edgeMay s h L):=by
 unfold edgeMay;exact inferInstance
def edgeErr (s h:Int) (L:List OpV):Int:=if edgeMay s h L then 0 else 9
def edgeB (s h:Int) (L:List OpV):Bool:=decide (edgeMay s h L)
abbrev edgeV (s h:Int) (A:OA_) (n c:Nat):Value:= .agg #[.int .i64 s,.int .i64 h,.slice A n c]
theorem lm_{L:List OpV}{k:Nat}(hk:k<L.length)(h:opFault L[k].ps≠0):badOp L k=true:=by
 unfold badOp;rw [List.getElem?_eq_getElem hk];simp [h]
theorem ok_{L:List OpV}(hk:0<L.length)(h:opFault L[0].ps=0):badOp L 0=false:=by
 unfold badOp;rw [List.getElem?_eq_getElem hk];simp [h]
theorem oj_{L:List OpV}{j:Nat}(hk:j+1<L.length)(h:opFault L[j+1].ps=0):badOp L (j+1)=decide ((lens L[j+1].ps).1≠(lens L[j].ps).2):=by
 unfold badOp;rw [List.getElem?_eq_getElem hk];simp [h,List.getElem?_eq_getElem (show j<L.length by omega)]
theorem gj_{s h:Int}{L:List OpV}{k:Nat}(hk:k<L.length)(hb:badOp L k=true): ¬edgeMay s h L:=fun hm=>by
 have:=hm.2.2 k hk;rw [hb]at this;cases this
section
variable(w:World) (s h:Int) (A:OA_) (c:Nat) (L:List OpV)
include w s h A c L
theorem nq_(h1:s<0):Calls Tryz.prog 122 #[edgeV s h A L.length c] w (R_ w (.int .i64 9)):=by
 have d1:decide (s<0)=true:=by simp;omega
 exact m196_
theorem nr_(h1:1048576<s):Calls Tryz.prog 122 #[edgeV s h A L.length c] w (R_ w (.int .i64 9)):=by
 have d1:decide (s<0)=false:=by simp;omega
 have d2:decide (1048576<s)=true:=by simp;omega
 exact m196_
section
variable(h1:0≤s) (h2:s≤1048576)
include h1 h2
theorem ns_(h3:h<0):Calls Tryz.prog 122 #[edgeV s h A L.length c] w (R_ w (.int .i64 9)):=by
 have d1:decide (s<0)=false:=by simp;omega
 have d2:decide (1048576<s)=false:=by simp;omega
 have d3:decide (h<0)=true:=by simp;omega
 exact m196_
theorem nt_(h3:1048576<h):Calls Tryz.prog 122 #[edgeV s h A L.length c] w (R_ w (.int .i64 9)):=by
 have d1:decide (s<0)=false:=by simp;omega
 have d2:decide (1048576<s)=false:=by simp;omega
 have d3:decide (h<0)=false:=by simp;omega
 have d4:decide (1048576<h)=true:=by simp;omega
 exact m196_
theorem nu_(h3:0≤h)(h4:h≤1048576)(hl:s<L.length):Calls Tryz.prog 122 #[edgeV s h A L.length c] w (R_ w (.int .i64 9)):=by
 have d1:decide (s<0)=false:=by simp;omega
 have d2:decide (1048576<s)=false:=by simp;omega
 have d3:decide (h<0)=false:=by simp;omega
 have d4:decide (1048576<h)=false:=by simp;omega
 have d5:decide (s<L.length)=true:=by simpa using hl
 exact m196_
theorem qb_(h3:0≤h)(h4:h≤1048576)(hl:(L.length:Int)≤s)(hT:Tabs w)(hs:OpsIn w A L)(hm: ∀o∈L,o.Small):
 Calls Tryz.prog 122 #[edgeV s h A L.length c] w (R_ w (.int .i64 (edgeErr s h L))):=by
 exact m18_
end
theorem st_(H:Hid (s<0∨1048576<s)):Calls Tryz.prog 104 #[edgeV s h A L.length c] w (R_ w (.bool false)):=by
 go_enter Tryz.func104,Tryz.ntmps104
 exact m264_
section
variable(h1:0≤s) (h2:s≤1048576)
include h1 h2
theorem su_(H:Hid (h<0∨1048576<h)):Calls Tryz.prog 104 #[edgeV s h A L.length c] w (R_ w (.bool false)):=by
 go_enter Tryz.func104,Tryz.ntmps104
 exact m187_
theorem sv_(h3:0≤h)(h4:h≤1048576)(hl:s<L.length):Calls Tryz.prog 104 #[edgeV s h A L.length c] w (R_ w (.bool false)):=by
 have d5:decide (s<L.length)=true:=by simpa using hl
 go_enter Tryz.func104,Tryz.ntmps104
 go_wp2_with fail
 refine(m_ _ _ _ _ (by omega) (by omega)).mono ?_;rintro e w1 ⟨rfl,rfl⟩;go_wp2_with fail
 refine(m_ _ _ _ _ (by omega) (by omega)).mono ?_;rintro e w1 ⟨rfl,rfl⟩;exact m102_
theorem tp_(h3:0≤h)(h4:h≤1048576)(hl:(L.length:Int)≤s)(hT:Tabs w)(hs:OpsIn w A L)(hm: ∀o∈L,o.Small):
 Calls Tryz.prog 104 #[edgeV s h A L.length c] w (R_ w (.bool (edgeB s h L))):=by
 have vAD:=h_ trivial;exact m18_
end
end
end Go.Proofs.YtacacoklddogmaaGreatDoor
namespace Go.Proofs.YtacacoklddogmaaGreatDoor
set_option maxHeartbeats 4000000
open Go.ChangeShapes Go.WideShapes Go.ChangeAt Go.RowKit Go.Joins Go.Deep
set_option maxRecDepth 100000
theorem cellsOp:Tryz.prog.cellsOf 30=1:=by kernel_rfl
section
variable {H:Type}{enc:TypeId × Value→H}{w:World}{m:Nat}
structure OpV.Fit (o:OpV):Prop where
 len:o.ps.length≤1048576
 parts: ∀p∈o.ps,p.Fit
 cap:o.ps.length≤o.c
 top:o.c≤9223372036854775807
theorem OpV.Fit.small{o:OpV}(h:o.Fit):o.Small:=⟨h.len,fun p hp=>(h.parts p hp).text⟩
theorem vr_{t:TypeId}{v:Value}{y:DataW H × List MemPlace}(ht:Tryz.prog.underlying t=some (.slice 30))(h:DataW.trod enc Tryz.prog w 0 (fun _=>true) true m t [v]=some y)(hbulk:Rows.uptoBulk y.1≤1048576):
 ∃(A:OA_) (c:Nat) (L:List OpV),v= .slice A L.length c∧L.length≤c∧c≤9223372036854775807∧OpsIn w A L∧L.length≤1048576∧ ∀o∈L,o.Fit:=by
 rcases open_slice ht h with⟨hcs,hx⟩ | ⟨a,len,cap,mm,n,D,Pl,hcs,_,hl,hm,hmm,hx,hi⟩
 ·obtain rfl:v= .slice none 0 0:=by simpa using hcs
  exact⟨none,0,[],rfl,by simp,by omega,⟨Sl.nil,by simp⟩,by simp,by simp⟩
 ·have k194_:K_ (∀(P:Prop) (h:P:=by
  have hrow: ∀i,∃o:OpV,i<len→w.cell? (a.add i)=some o.val∧OpIn (· <w.heap.size) w o.A o.ps∧o.Fit:=by
   intro i;by_cases hil:i<len
   ·obtain⟨cs',hc,ht'⟩:=hi i (by omega);rw [cellsOp]at hc;obtain⟨_,hcl,hat⟩:=World.cells?_some hc;obtain⟨u,rfl⟩: ∃u,cs'= [u]:=List.length_eq_one_iff.1 hcl;have hDi:Rows.uptoBulk (D i)≤1048576:=by
     exact m248_
    obtain⟨A,c,ps,rfl,h1,h2,h3,h4,h5⟩:=vs_ ht' hDi;have h0:=hat 0 (by omega);refine⟨⟨A,c,ps⟩,fun _=>⟨?_,h3,h4,h5,h1,h2⟩⟩;simpa [Go.Deep.add_add]using h0
   ·exact⟨⟨none,0,[]⟩,fun h=>absurd h hil⟩
  obtain⟨f,hf⟩:=Classical.skolem.1 hrow;have hlen:((List.range len).map f).length=len:=by simp
  refine⟨some a,mm,(List.range len).map f,by rw [hlen],by rw [hlen];exact hl,hm,⟨⟨by simp,fun hn=>?_⟩,?_⟩,?_,?_⟩
  ·rw [hlen]at hn;obtain⟨b,o,sp⟩:=a;have hsp:sp=none:=by
    have:=(hf 0 hn).1;simpa [Addr.add]using World.cell?_spot this
   subst hsp;refine⟨b,o,rfl,?_,fun j u hu=>?_⟩
   ·have:=(hf 0 hn).1;rw [Go.WideShapes.add_plain]at this;exact block_lt_of_cell this
   ·have hjl:j<len:=by
     have:=(List.getElem?_eq_some_iff.1 hu).1;simpa using this
    have:=(hf j hjl).1;rw [Go.WideShapes.add_plain]at this;rw [this];simpa [hjl]using hu
  ·intro o ho;obtain⟨i,hi',rfl⟩:=List.mem_map.1 ho;exact(hf i (List.mem_range.1 hi')).2.1
  ·rw [hlen];have:=il_ ((List.range len).map D);simp at this;omega
  ·intro o ho;obtain⟨i,hi',rfl⟩:=List.mem_map.1 ho;exact(hf i (List.mem_range.1 hi')).2.2
  ),P):=⟨@q6_⟩
  exact m194_
theorem bct_{cs:List Value}{y:DataW H × List MemPlace}(h:DataW.trod enc Tryz.prog w 0 (fun _=>true) true m 55 cs=some y)(hb:Rows.uptoBulk y.1≤1048576):
 ∃(s hd:Int) (A:OA_) (c:Nat) (L:List OpV),cs= [.int .i64 s,.int .i64 hd,.slice A L.length c]∧(-9223372036854775808≤s∧s≤9223372036854775807)∧(-9223372036854775808≤hd∧hd≤9223372036854775807)∧
  L.length≤c∧c≤9223372036854775807∧OpsIn w A L∧L.length≤1048576∧ ∀o∈L,o.Fit:=by
 obtain⟨ys,n,hx,_,hl,hf⟩:=fb_ Tryz.underlying55 (by kernel_rfl) (by kernel_rfl) h;obtain⟨v0,v1,v2,rfl⟩:=list3 hl;obtain⟨_,y0,hc0,hy0,ht0⟩:=hf 0 _ rfl;obtain⟨_,y1,hc1,hy1,ht1⟩:=hf 1 _ rfl;obtain⟨_,y2,hc2,hy2,ht2⟩:=hf 2 _ rfl;obtain rfl:=Option.some.inj hc0;obtain rfl:=Option.some.inj hc1;obtain rfl:=Option.some.inj hc2;obtain⟨s,rfl,h0⟩:=cj_ Tryz.underlying3 ht0;obtain⟨hd,rfl,h1⟩:=cj_ Tryz.underlying3 ht1;obtain⟨A,c,L,rfl,h2⟩:=vr_ Tryz.underlying25 ht2 (cg_ hx hb hy2);exact⟨s,hd,A,c,L,rfl,h0,h1,h2⟩
end
theorem ct_{w w1:World}{vs:Array Value}{t:TypeId}(hb:Below (w.alloc (.cells vs t)).heap.size (w.alloc (.cells vs t)) w1)(j:Nat):w1.cell? ⟨w.heap.size,j,none⟩=vs[j]?:=by
 rw [hb.cell (p:=⟨w.heap.size,j,none⟩) (by simp),World.cell?_alloc_new]
theorem y_{w w1:World}{o:Obj}(hb:Below (w.alloc o).heap.size (w.alloc o) w1):Below w.heap.size w w1:=bThen (bAlloc (Below.refl _ _) o) hb
section
variable {α:Type}(f:α→List Value)(n:Nat)(hf: ∀x,(f x).length=n)
include hf
theorem io_(L:List α):(L.flatMap f).length=L.length*n:=by
 induction L with
 | nil=>simp
 | cons x L ih=>rw [List.flatMap_cons,List.length_append,ih,hf,List.length_cons,Nat.succ_mul];omega
theorem bx_(L:List α): ∀(k j:Nat) (hk:k<L.length) (_:j<n),(L.flatMap f)[k*n+j]?=(f L[k])[j]?:=by
 induction L with
 | nil=>intro k j hk;exact absurd hk (by simp)
 | cons p L ih=>
  intro k j hk hj;rw [List.flatMap_cons];cases k with
  | zero=>
   rw [List.getElem?_append_left (by rw [hf];omega)];simp
  | succ k=>
   rw [List.getElem?_append_right (by rw [hf,Nat.succ_mul];omega),hf];rw [show(k+1)*n+j - n=k*n+j by rw [Nat.succ_mul];omega,ih k j (by simpa using hk) hj];rfl
theorem bh_{S:Nat→Prop}{w:World}{A:Option Addr}{L:List α}(h:Sl S w n A L.length (L.flatMap f)){k:Nat}(hk:k<L.length):
 ∃b o,A=some ⟨b,o,none⟩∧S b∧ ∀j u,(f L[k])[j]?=some u→w.cell? ⟨b,o+k*n+j,none⟩=some u:=by
 obtain⟨b,o,e,hb,hc⟩:=h.2 (by omega);refine⟨b,o,e,hb,fun j u hu=>?_⟩;have hj:j<n:=by
  have:=(List.getElem?_eq_some_iff.1 hu).1;rwa [hf]at this
 have:=hc (k*n+j) u (by rw [bx_ f n hf L k j hk hj];exact hu);rwa [←Nat.add_assoc]at this
end
section
variable {H:Type}{enc:TypeId × Value→H}{P:Program}{w:World}{m:Nat}
theorem km_{α:Type}[Inhabited α](f:α→List Value)(n:Nat)(hf: ∀x,(f x).length=n)(hn:0<n)(Q:α→Prop){t e:TypeId}{v:Value}{y:DataW H × List MemPlace}(ht:P.underlying t=some (.slice e))(hC:P.cellsOf e=n)
 (hopen: ∀m cs (y:DataW H × List MemPlace),DataW.trod enc P w 0 (fun _=>true) true m e cs=some y→Rows.uptoBulk y.1≤1048576→ ∃x,cs=f x∧Q x)
 (h:DataW.trod enc P w 0 (fun _=>true) true m t [v]=some y) (hbulk:Rows.uptoBulk y.1≤1048576):
 ∃(A:OA_) (c:Nat) (L:List α),v= .slice A L.length c∧L.length≤c∧c≤9223372036854775807∧Sl (· <w.heap.size) w n A L.length (L.flatMap f)∧L.length≤Rows.uptoBulk y.1∧ ∀x∈L,Q x:=by
 rcases open_slice ht h with⟨hcs,hx⟩ | ⟨a,len,cap,mm,n',D,Pl,hcs,_,hl,hm,hmm,hx,hi⟩
 ·obtain rfl:v= .slice none 0 0:=by simpa using hcs
  exact⟨none,0,[],rfl,by simp,by omega,Sl.nil,by simp,by simp⟩
 ·have k194_:K_ (∀(P:Prop) (h:P:=by
  have hrow: ∀i,∃o:α,i<len→(∀j u,(f o)[j]?=some u→w.cell? (a.add (i*n+j))=some u)∧Q o:=by
   intro i;by_cases hil:i<len
   ·obtain⟨cs',hc,ht'⟩:=hi i (by omega);rw [hC]at hc;obtain⟨_,hcl,hat⟩:=World.cells?_some hc;have hDi:Rows.uptoBulk (D i)≤1048576:=by
     exact m248_
    obtain⟨o,rfl,hq⟩:=hopen _ _ _ ht' hDi;refine⟨o,fun _=>⟨fun j u hu=>?_,hq⟩⟩;have hj:j<n:=by
     have:=(List.getElem?_eq_some_iff.1 hu).1;rwa [hf]at this
    have h0:=hat _ hj;rw [←Go.Deep.add_add,h0,←hu]
   ·exact⟨default,fun h=>absurd h hil⟩
  obtain⟨g,hg⟩:=Classical.skolem.1 hrow;have hlen:((List.range len).map g).length=len:=by simp
  refine⟨some a,mm,(List.range len).map g,by rw [hlen],by rw [hlen];exact hl,hm,⟨io_ f n hf _,fun h0=>?_⟩,?_,?_⟩
  ·rw [hlen]at h0;have h00: ∃u,w.cell? (a.add (0*n+0))=some u:=by
    have hz:0<(f (g 0)).length:=(by rw [hf];exact hn);exact⟨_,(hg 0 h0).1 0 _ (List.getElem?_eq_getElem hz)⟩
   obtain⟨u0,hu0⟩:=h00;obtain⟨b,o,sp⟩:=a;have hsp:sp=none:=(by simpa [Addr.add]using World.cell?_spot hu0);subst hsp;refine⟨b,o,rfl,?_,fun j u hu=>?_⟩
   ·rw [Go.WideShapes.add_plain]at hu0;exact block_lt_of_cell hu0
   ·have hjl:j<len*n:=by
     have:=(List.getElem?_eq_some_iff.1 hu).1;rw [io_ f n hf,hlen]at this;exact this
    have hdm:j=(j / n)*n+j % n:=(by rw [Nat.mul_comm];exact(Nat.div_add_mod j n).symm);have hq:j / n<len:=(Nat.div_lt_iff_lt_mul hn).2 hjl;have hq2:j / n<((List.range len).map g).length:=(by rw [hlen];exact hq);have hr:j % n<n:=Nat.mod_lt _ hn;rw [hdm,bx_ f n hf _ _ _ hq2 hr]at hu;have:=(hg (j / n) hq).1 (j % n) u (by simpa using hu);rw [Go.WideShapes.add_plain,←hdm]at this;exact this
  ·rw [hlen,hy1,fp_];have:=il_ ((List.range len).map D);simp at this;omega
  ·intro x hx;obtain⟨i,hi',rfl⟩:=List.mem_map.1 hx;exact(hg i (List.mem_range.1 hi')).2
  ),P):=⟨@q6_⟩
  exact m194_
end
end Go.Proofs.YtacacoklddogmaaGreatDoor
namespace Go.Proofs.YtacacoklddogmaaGreatDoor
set_option maxHeartbeats 4000000
open Go.ChangeShapes Go.WideShapes Go.ChangeAt Go.RowKit
set_option maxRecDepth 100000
structure FrameV where
 k:Int
 h:Int
 e:Int
 o:OpV
 s:ByteArray
instance:Inhabited FrameV:=⟨⟨0,0,0,⟨none,0,[]⟩,⟨#[]⟩⟩⟩
def FrameV.cells (f:FrameV):List Value:= [.int .i64 f.k,.int .i64 f.h,.int .i64 f.e,f.o.val,.string f.s]
theorem FrameV.cells_len(f:FrameV):f.cells.length=5:=rfl
abbrev FrameV.d (f:FrameV):FrameD:=⟨f.k,f.h,f.e,f.o.ps,f.s⟩
structure FrameV.Small (f:FrameV):Prop where
 op:f.o.Small
 text:f.s.size≤1048576
structure FramesIn (w:World) (A:OA_) (L:List FrameV):Prop where
 row:Sl (· <w.heap.size) w 5 A L.length (L.flatMap FrameV.cells)
 each: ∀f∈L,OpIn (· <w.heap.size) w f.o.A f.o.ps
theorem FramesIn.la{w w':World}{A:Option Addr}{L:List FrameV}(h:FramesIn w A L)(hb:Below w.heap.size w w'):FramesIn w' A L:=⟨h.row.la hb,fun r hr=>Sl.la (h.each r hr) hb⟩
theorem FramesIn.at_{w:World}{A:Option Addr}{L:List FrameV}(h:FramesIn w A L){k:Nat}(hk:k<L.length):
 ∃b o,A=some ⟨b,o,none⟩∧b<w.heap.size∧w.cell? ⟨b,o+k*5,none⟩=some (.int .i64 L[k].k)∧w.cell? ⟨b,o+k*5+1,none⟩=some (.int .i64 L[k].h)∧w.cell? ⟨b,o+k*5+2,none⟩=some (.int .i64 L[k].e)∧
  w.cell? ⟨b,o+k*5+3,none⟩=some (.slice L[k].o.A L[k].o.ps.length L[k].o.c)∧w.cell? ⟨b,o+k*5+4,none⟩=some (.string L[k].s)∧OpIn (· <w.heap.size) w L[k].o.A L[k].o.ps:=by
 obtain⟨b,o,e,hb,hc⟩:=bh_ FrameV.cells 5 FrameV.cells_len h.row hk;exact⟨b,o,e,hb,hc 0 _ rfl,hc 1 _ rfl,hc 2 _ rfl,hc 3 _ rfl,hc 4 _ rfl,h.each _ (List.getElem_mem hk)⟩
def framesOk (L:List FrameV):Prop:= ∀i (h:i<L.length),frameFault L[i].d=0
instance (L:List FrameV):Decidable (framesOk L):=by
 unfold framesOk;exact inferInstance
theorem bcb_(L:List FrameV)(h: ¬framesOk L): ∃k,∃hk:k<L.length,frameFault L[k].d≠0∧ ∀i (hi:i<L.length),i<k→frameFault L[i].d=0:=by
 have hmin: ∀n (hn:n<L.length),frameFault L[n].d≠0→ ∃k,∃hk:k<L.length,frameFault L[k].d≠0∧ ∀i (hi:i<L.length),i<k→frameFault L[i].d=0:=by
  intro n;induction n using Nat.strongRecOn with
  | ind n ih=>
   intro hn hb;by_cases hall: ∀i (hi:i<L.length),i<n→frameFault L[i].d=0
   · exact⟨n,hn,hb,hall⟩
   · have : ∃ i, ∃ hi : i < L.length, i < n ∧ frameFault L[i].d ≠ 0 := by
      apply Classical.byContradiction;intro hc;apply hall;intro i hi hin
      apply Classical.byContradiction;intro hq;exact hc ⟨i,hi,hin,hq⟩
     obtain⟨i,hi,hin,hq⟩:=this;exact ih i hin hi hq
 have hex: ∃n,∃hn:n<L.length,frameFault L[n].d≠0:=by
  apply Classical.byContradiction;intro hn;apply h;intro i hi;apply Classical.byContradiction;intro hb;exact hn ⟨i,hi,hb⟩
 obtain⟨n,hn,hb⟩:=hex;exact hmin n hn hb
theorem bab_(w:World)(f:FrameV)(hT:Tabs w)(hs:OpIn (· <w.heap.size) w f.o.A f.o.ps)(hm:f.Small):
 Calls Tryz.prog 138 #[frameV f.k f.h f.e f.o.A f.o.ps.length f.o.c f.s] w (R_ w (.bool (frameFault f.d !=0))):=by
 have H:=h_ (fun W hT hs=>em_ W f.k f.h f.e f.o.A f.o.c f.o.ps f.s hT hs hm.op.len hm.op.text hm.text);obtain⟨k,h,e,⟨A,c,ps⟩,s⟩:=f;dsimp only at*;generalize frameFault ⟨k,h,e,ps,s⟩=x at*;go_enter Tryz.func138,Tryz.ntmps138
 go_wp2_with fail
 refine(H.o _ (hT.la bz_) (Sl.la hs bz_)).mono ?_;rintro r w1 ⟨rfl,hb1⟩;go_wp2_with fail
 go_ret
 exact⟨rfl,y_ hb1⟩
section
variable(w:World) (A:OA_) (c:Nat) (L:List FrameV)
include w A c L
theorem li_(n:Int)(hT:Tabs w)(hs:FramesIn w A L)(hm:L.length≤1048576)(hp: ∀f∈L,f.Small)(hn:(n= -1∧framesOk L)∨ ∃k:Nat,∃hk:k<L.length,n=k∧frameFault L[k].d≠0∧ ∀i (hi:i<L.length),i<k→frameFault L[i].d=0):
 Calls Tryz.prog 140 #[.slice A L.length c,.func (.func 138) #[] #[]] w (R_ w (.int .i64 n)):=by
 have HN:=h_ hn;have HS:=h_ hs;have HT:=h_ hT;have HP:=h_ hp;clear hn hs hT hp;go_enter Tryz.func140,Tryz.ntmps140
 go_wp2_with fail
 go_loopw [5,8] (fun _ i wr=> ∃k:Nat,k≤L.length∧i= .int .i64 k∧Hid (∀i (hi:i<L.length),i<k→frameFault L[i].d=0)∧Below w.heap.size w wr) (fun _ i _=>L.length - (intOf i).toNat)
 case atStart=>exact⟨0,Nat.zero_le _,rfl,fun i hi h=>absurd h (by omega),Below.refl _ _⟩
 case round=>
  obtain⟨k,hk,rfl,hg,hbw⟩:=hrel;by_cases hlt:k<L.length
  ·obtain⟨b,o,rfl,hbs,g0,g1,g2,g3,g4,hop⟩:=(HS.o.la hbw).at_ hlt;have HB:=h_ (fun(W:World) (hT:Tabs W) (hs:OpIn (· <W.heap.size) W L[k].o.A L[k].o.ps)=>bab_ W L[k] hT hs (HP.o _ (List.getElem_mem hlt)));by_cases hf:frameFault L[k].d=0
   ·exact m151_
   ·have HR:=h_ (show n=(k:Int) by
     rcases HN.o with⟨_,q⟩ | ⟨m,hm2,rfl,h1,h2⟩
     · exact absurd (q k hlt) hf
     · rcases Nat.lt_trichotomy k m with q | q | q
       · exact absurd (h2 k hlt q) hf
       · omega
       · exact absurd (hg.o m hm2 q) h1)
    have hb0:(frameFault L[k].d !=0)=true:=(by simpa using hf);rw [hb0]at HB;clear hf hg hb0;generalize L[k]=f at*;obtain⟨fk,fh,fe,⟨fA,fc,fp⟩,fs⟩:=f;dsimp only at*;go_wp2_with fail
    refine(HB.o _ (HT.o.la hbw) hop).mono ?_;exact m261_
  ·obtain rfl:k=L.length:=(by omega);have HR:=h_ (show n= -1 by
    rcases HN.o with⟨q,_⟩ | ⟨m,hm2,rfl,h1,h2⟩
    · exact q
    · exact absurd (hg.o m hm2 hm2) h1)
   clear hg;go_wp2_with fail
   go_ret
   exact⟨by rw [HR.o];rfl,hbw⟩
section
variable(hT:Tabs w) (hs:FramesIn w A L) (hm:L.length≤1048576) (hp: ∀f∈L,f.Small)
include hT hs hm hp
theorem kh_:
 Calls Tryz.prog 130 #[.slice A L.length c] w (R_ w (.bool (decide (framesOk L)))):=by
 have key: ∀(n:Int) (b:Bool),decide (0≤n)=b→(∀W,Tabs W→FramesIn W A L→Calls Tryz.prog 140 #[.slice A L.length c,.func (.func 138) #[] #[]] W (R_ W (.int .i64 n)))→
  Calls Tryz.prog 130 #[.slice A L.length c] w (R_ w (.bool (!b))):=by
  intro n b hd hI;have hC:Calls Tryz.prog 137 #[.slice A L.length c,.func (.func 138) #[] #[]] w (R_ w (.bool b)):=by
   have HI:=h_ hI;clear hI;go_enter Tryz.func137,Tryz.ntmps137
   go_wp2_with fail
   refine(HI.o _ hT hs).mono ?_;rintro e w1 ⟨rfl,hb1⟩;go_wp2_with fail
   go_ret
   exact⟨by rw [←hd];rfl,hb1⟩
  have HC:=h_ hC;clear hC hI hd;go_enter Tryz.func130,Tryz.ntmps130
  go_wp2_with fail
  refine HC.o.mono ?_;rintro e w1 ⟨rfl,hb1⟩;go_wp2_with fail
  go_ret
  exact⟨rfl,hb1⟩
 by_cases hok:framesOk L
 ·rw [decide_eq_true hok];exact key (-1) false (by decide) fun W hT hs=>li_ W A c L (-1) hT hs hm hp (.inl ⟨rfl,hok⟩)
 ·rw [decide_eq_false hok];obtain⟨k,hk,h1,h2⟩:=bcb_ L hok;exact key (k:Int) true (by simp) fun W hT hs=>li_ W A c L k hT hs hm hp (.inr ⟨k,hk,rfl,h1,h2⟩)
theorem lq_:
 Calls Tryz.prog 129 #[.slice A L.length c] w (R_ w (.bool (decide (framesOk L)))):=by
 have HS:=h_ hs;have HT:=h_ hT;have HP:=h_ hp;clear hs hT hp;go_enter Tryz.func129,Tryz.ntmps129
 go_wp2_with fail
 go_loopw [3] (fun i wr=> ∃k:Nat,k≤L.length∧i= .int .i64 k∧Hid (∀i (hi:i<L.length),i<k→frameFault L[i].d=0)∧Below w.heap.size w wr) (fun i _=>L.length - (intOf i).toNat)
 case atStart=>exact⟨0,Nat.zero_le _,rfl,fun i hi h=>absurd h (by omega),Below.refl _ _⟩
 case round=>
  obtain⟨k,hk,rfl,hg,hbw⟩:=hrel;by_cases hlt:k<L.length
  ·obtain⟨b,o,rfl,hbs,g0,g1,g2,g3,g4,hop⟩:=(HS.o.la hbw).at_ hlt;have hsm:=HP.o _ (List.getElem_mem hlt);have HB:=h_ (fun(W:World) (hT:Tabs W) (hs:OpIn (· <W.heap.size) W L[k].o.A L[k].o.ps)=>en_ W L[k].k L[k].h L[k].e L[k].o.A L[k].o.c L[k].o.ps L[k].s hT hs hsm.op.len hsm.op.text hsm.text);clear hsm;by_cases hf:frameFault L[k].d=0
   ·exact m151_
   ·have HR:=h_ (show decide (framesOk L)=false from decide_eq_false fun q=>hf (q k hlt));have hb0:(frameFault L[k].d !=0)=true:=(by simpa using hf);clear hf hg;generalize L[k]=f at*;obtain⟨fk,fh,fe,⟨fA,fc,fp⟩,fs⟩:=f;dsimp only at*;generalize frameFault ⟨fk,fh,fe,fp,fs⟩=z at*;go_wp2_with fail
    refine(HB.o _ (HT.o.la hbw) hop).mono ?_;exact m261_
  ·obtain rfl:k=L.length:=(by omega);have HR:=h_ (show decide (framesOk L)=true from decide_eq_true fun i hi=>hg.o i hi hi);clear hg;go_wp2_with fail
   go_ret
   exact⟨by rw [HR.o];rfl,hbw⟩
end
end
structure LinkV where
 e:Int
 n:Int
 sA:Option Addr
 sc:Nat
 s:List FrameV
 qA:Option Addr
 qc:Nat
 q:List FrameV
 h:Int
abbrev LinkV.val (l:LinkV):Value:= .agg #[.int .i64 l.e,.int .i64 l.n,.slice l.sA l.s.length l.sc,.slice l.qA l.q.length l.qc,.int .i64 l.h]
structure LinkV.In (w:World) (l:LinkV):Prop where
 s:FramesIn w l.sA l.s
 q:FramesIn w l.qA l.q
structure LinkV.Small (l:LinkV):Prop where
 sl:l.s.length≤1048576
 ql:l.q.length≤1048576
 s: ∀f∈l.s,f.Small
 q: ∀f∈l.q,f.Small
def linkNums (l:LinkV):Prop:=(0≤l.e∧l.e≤1048576)∧(1≤l.n∧l.n≤1048576)∧(0≤l.h∧l.h≤1048576)
def linkLens (l:LinkV):Prop:=l.s.length≤8∧(l.s.length:Int)<l.n∧ ¬(0<l.q.length∧l.s.length<8)
def linkNone (l:LinkV):Prop:=l.e=0→l.s.length=0∧l.h=0
instance (l:LinkV):Decidable (linkNums l):=by
 unfold linkNums;exact inferInstance
instance (l:LinkV):Decidable (linkLens l):=by
 unfold linkLens;exact inferInstance
instance (l:LinkV):Decidable (linkNone l):=by
 unfold linkNone;exact inferInstance
def linkMay (l:LinkV):Prop:=linkNums l∧linkLens l∧(framesOk l.s∧framesOk l.q)∧linkNone l
instance (l:LinkV):Decidable (linkMay l):=by
 unfold linkMay;exact inferInstance
theorem qd_(w:World)(l:LinkV)(hn: ¬linkNums l):Calls Tryz.prog 110 #[l.val] w (R_ w (.int .i64 9)):=by
 have H:=h_ hn;clear hn;unfold linkNums at H;exact m231_
theorem qc_(w:World)(l:LinkV)(hn:linkNums l)(hl: ¬linkLens l):Calls Tryz.prog 110 #[l.val] w (R_ w (.int .i64 9)):=by
 have H:=h_ hl;obtain⟨⟨a1,a2⟩,⟨a3,a4⟩,⟨a5,a6⟩⟩:=hn;clear hl;unfold linkLens at H;exact m231_
end Go.Proofs.YtacacoklddogmaaGreatDoor
