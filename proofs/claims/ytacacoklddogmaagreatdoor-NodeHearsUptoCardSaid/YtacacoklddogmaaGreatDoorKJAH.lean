/- Lemmas. -/
import Derived.Test.YtacacoklddogmaaGreatDoorKJAJ
import Derived.Test.YtacacoklddogmaaGreatDoorKJAN
import Derived.Test.YtacacoklddogmaaGreatDoorKJAI
import Derived.Test.YtacacoklddogmaaGreatDoorKJAP
namespace Go.Proofs.YtacacoklddogmaaGreatDoor
set_option maxHeartbeats 4000000
open Go.ChangeShapes Go.WideShapes Go.ChangeAt Go.RowKit
set_option maxRecDepth 100000
theorem m42_{P:Prop}(h:P:=by
 have h0:(w.setCell ⟨R,0,none⟩ v0).heap[R]?=some (.cells #[v0,z1,z2,z3,z4,z5,z6,z7,z8,z9] t (0,0)):=f_ 0 v0 h;generalize w.setCell ⟨R,0,none⟩ v0=w0 at*;have h1:(w0.setCell ⟨R,1,none⟩ v1).heap[R]?=some (.cells #[v0,v1,z2,z3,z4,z5,z6,z7,z8,z9] t (0,0)):=f_ 1 v1 h0;generalize w0.setCell ⟨R,1,none⟩ v1=w1 at*;have h2:(w1.setCell ⟨R,2,none⟩ v2).heap[R]?=some (.cells #[v0,v1,v2,z3,z4,z5,z6,z7,z8,z9] t (0,0)):=f_ 2 v2 h1;generalize w1.setCell ⟨R,2,none⟩ v2=w2 at*;have h3:(w2.setCell ⟨R,3,none⟩ v3).heap[R]?=some (.cells #[v0,v1,v2,v3,z4,z5,z6,z7,z8,z9] t (0,0)):=f_ 3 v3 h2;generalize w2.setCell ⟨R,3,none⟩ v3=w3 at*;have h4:(w3.setCell ⟨R,4,none⟩ v4).heap[R]?=some (.cells #[v0,v1,v2,v3,v4,z5,z6,z7,z8,z9] t (0,0)):=f_ 4 v4 h3;generalize w3.setCell ⟨R,4,none⟩ v4=w4 at*;have h5:(w4.setCell ⟨R,5,none⟩ v5).heap[R]?=some (.cells #[v0,v1,v2,v3,v4,v5,z6,z7,z8,z9] t (0,0)):=f_ 5 v5 h4;generalize w4.setCell ⟨R,5,none⟩ v5=w5 at*;have h6:(w5.setCell ⟨R,6,none⟩ v6).heap[R]?=some (.cells #[v0,v1,v2,v3,v4,v5,v6,z7,z8,z9] t (0,0)):=f_ 6 v6 h5;generalize w5.setCell ⟨R,6,none⟩ v6=w6 at*;have h7:(w6.setCell ⟨R,7,none⟩ v7).heap[R]?=some (.cells #[v0,v1,v2,v3,v4,v5,v6,v7,z8,z9] t (0,0)):=f_ 7 v7 h6;first
 |guard_hyp vBJ
  exact h7
 |generalize w6.setCell ⟨R,7,none⟩ v7=w7 at*;have h8:(w7.setCell ⟨R,8,none⟩ v8).heap[R]?=some (.cells #[v0,v1,v2,v3,v4,v5,v6,v7,v8,z9] t (0,0)):=f_ 8 v8 h7;generalize w7.setCell ⟨R,8,none⟩ v8=w8 at*;exact f_ 9 v9 h8):P:=h
theorem m88_{P:Prop}(h:P:=by
 obtain⟨b,o,rfl,hbs,hc⟩:=bh_ PacketV.cells 9 PacketV.cells_len HP.o hlt;have hbr:=(HR.o.apart hbs).2;have hcr: ∀j u,(PacketV.cells K[k])[j]?=some u→wr.cell? ⟨b,o+k*9+j,none⟩=some u:=fun j u hu=>(World.cell?_of_block (a:=⟨b,o+k*9+j,none⟩) hbr).trans (hc j u hu);have ce0:wr.cell? ⟨b,o+k*9,none⟩=some (.int .i64 K[k].ep):=hcr 0 _ rfl;have ce1:wr.cell? ⟨b,o+k*9+1,none⟩=some (.int .i64 K[k].nu):=hcr 1 _ rfl;have ce2:wr.cell? ⟨b,o+k*9+2,none⟩=some (.bool K[k].b):=hcr 2 _ rfl;have ce3:wr.cell? ⟨b,o+k*9+3,none⟩=some (.int .i64 K[k].ak):=hcr 3 _ rfl;have ce4:wr.cell? ⟨b,o+k*9+4,none⟩=some (.int .i64 K[k].f.k):=hcr 4 _ rfl;have ce5:wr.cell? ⟨b,o+k*9+5,none⟩=some (.int .i64 K[k].f.h):=hcr 5 _ rfl;have ce6:wr.cell? ⟨b,o+k*9+6,none⟩=some (.int .i64 K[k].f.e):=hcr 6 _ rfl;have ce7:wr.cell? ⟨b,o+k*9+7,none⟩=some (.slice K[k].f.o.A K[k].f.o.ps.length K[k].f.o.c):=hcr 7 _ rfl;have ce8:wr.cell? ⟨b,o+k*9+8,none⟩=some (.string K[k].f.s):=hcr 8 _ rfl;have HTK:=h_ (show L1++ [PostV.mk n.S[s].p K[k]]=L++(K.take (k+1)).map (PostV.mk n.S[s].p) by rw [HL1.o,List.take_succ_eq_append_getElem hlt,List.map_append,List.append_assoc];rfl);have HOP:=h_ ((HO.o _ (List.getElem_mem hlt)).mv (S':=fun b=>(X+1≤b∧b<wr.heap.size)∧(Value.slice A1 L1.length c1).ownBlock≠some b) (w':=wr) fun b hb=>by
  have q:=HR.o.apart (b:=b) ⟨hb.1.2,by have:=hb.1.1;omega,hb.2⟩;exact⟨⟨⟨hb.1.1,q.1.1⟩,q.1.2.2⟩,q.2⟩)
 clear hc hcr hbr;generalize K[k]=q at*;obtain⟨pe,pn,pb,pa,⟨fk,fh,fe,⟨fA,fc,fp⟩,fs⟩⟩:=q;dsimp only at ce0 ce1 ce2 ce3 ce4 ce5 ce6 ce7 ce8;have hz:=HR.o.turned.size;exact k88_.o _):P:=h
theorem m191_{P:Prop}(h:P:=by
 rintro G hG;have HG:=h_ hG;have HN3:=h_ HN2.o.1;clear hG;go_wp2_with fail
 go_roundw
 case rel=>exact⟨k+1,A',c',L1++ [⟨n.S[s].p,⟨pe,pn,pb,pa,⟨fk,fh,fe,⟨fA,fc,fp⟩,fs⟩⟩⟩],HN2.o.1,by go_num,by rw [List.length_append];exact HN2.o.2,HTK,HG⟩
 case measure=>have:=HN3.o;simp [intOf];omega):P:=h
theorem rz_(s:ByteArray): ∀(n i:Nat) (r:List UInt8),s.size - i=n→(ByteArray.toList.loop s i r).length=r.length+n
 | 0,i,r,h=>by
  unfold ByteArray.toList.loop;rw [if_neg (by omega)];simp
 | n+1,i,r,h=>by
  unfold ByteArray.toList.loop;rw [if_pos (by omega),rz_ s n (i+1) _ (by omega)];simp only [List.length_cons];omega
theorem nlen(s:ByteArray):s.toList.length=s.size:=by
 unfold ByteArray.toList;rw [rz_ s s.size 0 [] (by omega)];simp
theorem jq_{s:ByteArray} :s.toList= []↔s.size=0:=by
 rw [←nlen s];exact⟨fun h=>by rw [h];rfl,fun h=>List.eq_nil_of_length_eq_zero h⟩
theorem sk_{zs:List Int}{me:Int}(h:0<me):0<(peers zs me).length:=by
 unfold peers peerHead;rw [if_pos h];simp
theorem vx_{zs:List Int}{me:Int}(h:zs.length≤7):(peers zs me).length≤8:=by
 have:=iz_ zs me zs.length;show(upK zs me zs.length).length≤8;omega
theorem bhk_{a b:Nat}(h1:a≤1048576)(h2:b≤1048576):wrap64 ((a:Int)+(b:Int))=((a+b:Nat):Int):=by
 unfold wrap64;omega
def nodeRest (zs:List Int) (n:NodeV):Prop:=undoOk (runesI n.t) (n.U.map OpV.ps).reverse∧sidesOk zs n∧parentOk n∧ ∀m∈n.M,markOk (runesI n.t) m
theorem kk_{zs:List Int}{n:NodeV}(h1:nodeNums zs n)(h2:nodeLens zs n):nodeMay zs n↔nodeRest zs n:=
 ⟨fun h=>h.2.2,fun h=>⟨h1,h2,h⟩⟩
section
variable(w:World) (T:OA_) (N Nc:Nat)
include w T N Nc
theorem lj_(zs:List Int)(n:NodeV)(hT:Tabs w)(hi:n.In w)(hm:n.Small)(hz:Sl (· <w.heap.size) w 1 T N (zs.map (Value.int .i64)))(hN:N≤9223372036854775807):
 Calls Tryz.prog 43 #[.slice T N Nc,n.val] w (R_ w (.int .i64 (nodeFault zs n))):=by
 have hl:zs.length=N:=by have:=hz.1;simpa using this
 have HC: ∀W,Below w.heap.size w W→Calls Tryz.prog 83 #[.slice T N Nc] W fun e w'=>e= .returned (.int .i64 (treeFault zs))∧W=w':=fun W hb=>wt_ W T N Nc zs (Sl.la hz hb) hN;have HX:=fun W hT=>br_ n.t W hT hm.text;by_cases h0:treeFault zs=0
 ·rw [h0]at HC;obtain⟨t1,t2,_⟩:=fl_ h0;by_cases hn:nodeNums zs n
  ·obtain⟨⟨a1,a2⟩,⟨a3,a4⟩,⟨a5,a6⟩,a7,a8⟩:=hn;rw [a8]at HX;have HL:=fun W (hb:Below w.heap.size w W)=>vn_ W T N Nc zs (Sl.la hz hb) h0 n.me a1 a2;have HU0:=fun W (hb:Below w.heap.size w W)=>bia_ W n (hT.la hb) (hi.undo.la hb) hm.ul hm.undo hm.text;have b1:decide (n.me<0)=false:=(by simpa using a1);have b2:decide ((N:Int)≤n.me)=false:=(by simp;omega);have b3:decide (n.ep<1)=false:=(by simp;omega);have b4:decide (1048576≤n.ep)=false:=(by simp;omega);have b5:decide (n.up<0)=false:=(by simp;omega);have b6:decide (1048576<n.up)=false:=(by simp;omega);have hwu:=bhk_ hm.ul hm.ml;have hund:nodeMay zs n→undoOk (runesI n.t) (n.U.map OpV.ps).reverse:=fun h=>h.2.2.1;by_cases hln:nodeLens zs n∧undoOk (runesI n.t) (n.U.map OpV.ps).reverse
   ·have hr:=kk_ (zs:=zs) (n:=n) ⟨⟨a1,a2⟩,⟨a3,a4⟩,⟨a5,a6⟩,a7,a8⟩ hln.1;obtain⟨⟨l1,l2,l3,l4⟩,hu⟩:=hln;have HU: ∀W,Below w.heap.size w W→Calls Tryz.prog 86 #[n.val] W (R_ W (.bool true)):=fun W hb=>(HU0 W hb).mono fun _ _ ⟨⟨b,e,k⟩,h⟩=>⟨by rw [e,k.2 ⟨hu,l2⟩],h⟩
    have HSD: ∀W x,Tabs W→x∈n.S→x.In W→Calls Tryz.prog 87 #[n.val,x.val] W fun r w'=>(∃b:Bool,r= .returned (.bool b)∧(b=true↔sideMay n.rd (runesI n.t) x))∧Below W.heap.size W w':=fun W x hT hx hi=>bhy_ W n x hT hi (hm.sides x hx) hm.text;have HRC:=fun W=>dx_ n.t W hm.text;have hg:nodeMay zs n↔((∀i (h:i<n.S.length),n.S[i].p=(peers zs n.me).getD i 0∧sideMay n.rd (runesI n.t) n.S[i])∧(0<n.me→ ∀x,n.S.head?=some x→x.j=n.rd)∧ ∀m∈n.M,markOk (runesI n.t) m):=
     hr.trans ⟨fun k=>k.2,fun k=>⟨hu,k⟩⟩
    have hs8:n.S.length≤8:=(by rw [←l1];exact vx_ t2);have h9: ¬((∀i (h:i<n.S.length),n.S[i].p=(peers zs n.me).getD i 0∧sideMay n.rd (runesI n.t) n.S[i])∧(0<n.me→ ∀x,n.S.head?=some x→x.j=n.rd)∧ ∀m∈n.M,markOk (runesI n.t) m)→nodeFault zs n=9:=fun k=>cq_ h0 (fun q=>k (hg.1 q));have hz0:((∀i (h:i<n.S.length),n.S[i].p=(peers zs n.me).getD i 0∧sideMay n.rd (runesI n.t) n.S[i])∧(0<n.me→ ∀x,n.S.head?=some x→x.j=n.rd)∧ ∀m∈n.M,markOk (runesI n.t) m)→nodeFault zs n=0:=fun k=>fv_ h0 (hg.2 k);by_cases hme:0<n.me
    ·have hpp:0<n.S.length:=(by rw [←l1];exact sk_ hme);cases hrd:n.rd with
     | true=>exact nw_ w T N Nc zs n hT hi hz hN (peers zs n.me) b1 b2 b3 b4 b5 b6 (by simp;omega) (by simpa using hme) hrd hwu l1 l3 hs8 hpp _ h9 hz0 HC HX HL HU HSD HRC
     | false=>
      obtain⟨_,q2,q3,q4⟩:=l4 hrd;exact nv_ w T N Nc zs n hT hi hz hN (peers zs n.me) b1 b2 b3 b4 b5 b6 (by simp;omega) (by simpa using hme) hrd (jq_.2 q2) hwu l1 l3 (by show _=_;omega) hs8 hpp _ h9 hz0 HC HX HL HU HSD HRC
    ·have hme0:n.me=0:=(by omega);cases hrd:n.rd with
     | true=>exact nx_ w T N Nc zs n hT hi hz hN (peers zs n.me) b1 b2 b3 b4 b5 b6 (by simpa using hme0) (by simp;omega) (by simp;omega) hrd hwu l1 l3 hs8 _ h9 hz0 HC HX HL HU HSD HRC
     | false=>exact absurd hme0 (l4 hrd).1
   ·rw [cq_ h0 (fun k=>hln ⟨k.2.1,hund k⟩)];have HU: ∃ub:Bool,(ub=true↔undoOk (runesI n.t) (n.U.map OpV.ps).reverse∧n.U.length≤12)∧ ∀W,Below w.heap.size w W→Calls Tryz.prog 86 #[n.val] W (R_ W (.bool ub)):=by
     by_cases hu:undoOk (runesI n.t) (n.U.map OpV.ps).reverse∧n.U.length≤12
     ·exact⟨true,by simp [hu],fun W hb=>(HU0 W hb).mono fun _ _ ⟨⟨b,e,k⟩,h⟩=>⟨by rw [e,k.2 hu],h⟩⟩
     ·exact⟨false,by simpa using hu,fun W hb=>(HU0 W hb).mono fun _ _ ⟨⟨b,e,k⟩,h⟩=>⟨by rw [e];cases b;rfl;exact absurd (k.1 rfl) hu,h⟩⟩
    obtain⟨ub,hub,HU⟩:=HU;have H: ¬((peers zs n.me).length=n.S.length∧ub=true∧n.M.length≤1∧(n.rd=false→n.me≠0∧n.t.toList= []∧n.U.length=0∧n.M.length=0)):=fun⟨k1,k2,k3,k4⟩=>
     hln ⟨⟨k1,(hub.1 k2).2,k3,fun q=>⟨(k4 q).1,jq_.1 (k4 q).2.1,(k4 q).2.2⟩⟩,(hub.1 k2).1⟩
    by_cases hme:0<n.me
    ·exact mx_ w T N Nc zs n hT hi hz hN (peers zs n.me) ub b1 b2 b3 b4 b5 b6 (by simp;omega) (by simpa using hme) hwu H HC HX HL HU
    ·have hme0:n.me=0:=(by omega);exact my_ w T N Nc zs n hT hi hz hN (peers zs n.me) ub b1 b2 b3 b4 b5 b6 (by simpa using hme0) (by simp;omega) (by simp;omega) hwu H HC HX HL HU
  ·rw [cq_ h0 (fun k=>hn k.1)];exact qe_ w T N Nc zs n hT hi hz hN (textFault n.t) (by unfold nodeNums at hn;rwa [hl]at hn) HC HX
 ·rw [dy_ h0];exact qf_ w T N Nc zs n hT hi hz hN _ (by simpa using h0) HC
theorem ob_(n:NodeV)(er:Int)(_he:(er !=0)=true)(HC:Hid (∀W,Below w.heap.size w W→Calls Tryz.prog 54 #[.slice T N Nc] W fun e w'=>e= .returned (.int .i64 er)∧W=w')):
 Calls Tryz.prog 22 #[.slice T N Nc,n.val] w (R_ w (.int .i64 er)):=by
 have k78_:K_ (∀(P:Prop) (h:P:=by
 go_wp2_with fail
 go_ret
 exact⟨rfl,HA.o.b⟩
 ),P):=⟨@q6_⟩
 exact m78_
theorem gi_(zs:List Int)(n:NodeV)(hT:Tabs w)(hi:n.In w)(hm:n.Small)(hz:Sl (· <w.heap.size) w 1 T N (zs.map (Value.int .i64)))(hN:N≤9223372036854775807):
 Calls Tryz.prog 22 #[.slice T N Nc,n.val] w (R_ w (.int .i64 (nodeFault zs n))):=by
 have hl:zs.length=N:=by have:=hz.1;simpa using this
 have HC: ∀W,Below w.heap.size w W→Calls Tryz.prog 54 #[.slice T N Nc] W fun e w'=>e= .returned (.int .i64 (treeFault zs))∧W=w':=fun W hb=>xe_ W T N Nc zs (Sl.la hz hb) hN;have HX:=fun W hT=>bs_ n.t W hT hm.text;by_cases h0:treeFault zs=0
 ·rw [h0]at HC;obtain⟨t1,t2,_⟩:=fl_ h0;have hN0:0<N:=by omega
  have hN7:N≤7:=by omega
  have hne: ∀ {P:Prop},(nodeMay zs n→P)→ ¬P→nodeFault zs n=9:=fun k q=>cq_ h0 (fun h=>q (k h));by_cases m1: ¬(0≤n.me∧n.me≤(N:Int) - 1)
  ·rw [hne (fun h=>⟨h.1.1.1,by have:=h.1.1.2;omega⟩) m1];exact uk_ w T N Nc n hT hi hN0 hN7 (by show n.me<0∨_;omega) HC
  replace m1:=Classical.not_not.1 m1
  by_cases m2: ¬(1≤n.ep∧n.ep≤1048575)
  ·rw [hne (fun h=>⟨h.1.2.1.1,by have:=h.1.2.1.2;omega⟩) m2];exact uj_ w T N Nc n hT hi hN0 hN7 m1 (by show n.ep<1∨_;omega) HC
  replace m2:=Classical.not_not.1 m2
  by_cases m3: ¬(0≤n.up∧n.up≤1048576)
  ·rw [hne (fun h=>h.1.2.2.1) m3];exact ul_ w T N Nc n hT hi hN0 hN7 m1 m2 (by show n.up<0∨_;omega) HC
  replace m3:=Classical.not_not.1 m3
  by_cases m4:n.me=0∧0<n.up
  ·rw [cq_ h0 (fun h=>h.1.2.2.2.1 m4)];exact um_ w T N Nc n hT hi hN0 hN7 m1 m2 m3 (by simpa using m4.1) (by simp;omega) HC
  by_cases m5: ¬textFault n.t=0
  ·rw [cq_ h0 (fun h=>m5 h.1.2.2.2.2)];by_cases hme:0<n.me
   ·exact qg_ w T N Nc n hT hi hN0 hN7 m1 m2 m3 (by simp;omega) (by simpa using hme) _ (by simpa using m5) HC HX
   ·exact qh_ w T N Nc n hT hi hN0 hN7 m1 m2 m3 (by simp;omega) (by simp;omega) (by simp;omega) _ (by simpa using m5) HC HX
  replace m5:=Classical.not_not.1 m5
  rw [m5]at HX;have hn:nodeNums zs n:=⟨⟨m1.1,by omega⟩,⟨m2.1,by omega⟩,m3,m4,m5⟩
  have HL:=fun W (hb:Below w.heap.size w W)=>bdb_ W T N Nc zs (Sl.la hz hb) h0 n.me m1.1 (by omega);by_cases hln:nodeLens zs n
  ·have hr:=kk_ (zs:=zs) (n:=n) hn hln;obtain⟨l1,l2,l3,l4⟩:=hln;have HSD: ∀W x,Tabs W→x∈n.S→x.In W→Calls Tryz.prog 61 #[n.val,x.val] W fun r w'=>(∃b:Bool,r= .returned (.bool b)∧(b=true↔sideMay n.rd (runesI n.t) x))∧Below W.heap.size W w':=fun W x hT hx hi=>bdp_ W n x hT hi (hm.sides x hx) hm.text;have HRC:=fun W=>iv_ n.t W hm.text;have HMK:=fun W m=>bco_ W n.t m hm.text;have HLO: ∀W (q:OpV),q∈n.U→OpIn (· <W.heap.size) W q.A q.ps→Calls Tryz.prog 59 #[.slice q.A q.ps.length q.c] W (R_ W (.tuple #[.int .i64 (lens q.ps).1,.int .i64 (lens q.ps).2])):=fun W q hq hs=>bq_ W q.A q.c q.ps hs (hm.undo q hq).len (hm.undo q hq).text;have HOF: ∀W (q:OpV),Tabs W→q∈n.U→OpIn (· <W.heap.size) W q.A q.ps→Calls Tryz.prog 60 #[.slice q.A q.ps.length q.c] W (R_ W (.int .i64 (opFault q.ps))):=fun W q hT hq hs=>bk_ W q.A q.c q.ps hT hs (hm.undo q hq).len (hm.undo q hq).text;have hs8:n.S.length≤8:=(by rw [←l1];exact vx_ t2);have h9: ¬nodeRest zs n→nodeFault zs n=9:=fun k=>cq_ h0 (fun q=>k (hr.1 q));have hz0:nodeRest zs n→nodeFault zs n=0:=fun k=>fv_ h0 (hr.2 k);by_cases hme:0<n.me
   ·have hpp:0<n.S.length:=(by rw [←l1];exact sk_ hme);cases hrd:n.rd with
    | true=>exact nz_ w T N Nc n hT hi hN0 hN7 (peers zs n.me) m1 m2 m3 (by simp;omega) (by simpa using hme) hrd l1 l3 l2 hs8 hpp _ h9 hz0 HC HX HL HSD HRC HMK HLO HOF
    | false=>
     obtain⟨_,q2,q3,q4⟩:=l4 hrd;exact ny_ w T N Nc n hT hi hN0 hN7 (peers zs n.me) m1 m2 m3 (by simp;omega) (by simpa using hme) hrd (jq_.2 q2) l1 l3 l2 ⟨q3,q4⟩ hs8 hpp _ h9 hz0 HC HX HL HSD HRC HMK HLO HOF
   ·have hme0:n.me=0:=(by omega);cases hrd:n.rd with
    | true=>exact oa_ w T N Nc n hT hi hN0 hN7 (peers zs n.me) m1 m2 m3 (by simpa using hme0) (by simp;omega) (by simp;omega) hrd l1 l3 l2 hs8 _ h9 hz0 HC HX HL HSD HRC HMK HLO HOF
    | false=>exact absurd hme0 (l4 hrd).1
  ·rw [cq_ h0 (fun k=>hln k.2.1)];have H: ¬((peers zs n.me).length=n.S.length∧n.U.length≤12∧n.M.length≤1∧(n.rd=false→n.me≠0∧n.t.toList= []∧n.U.length=0∧n.M.length=0)):=fun⟨k1,k2,k3,k4⟩=>
    hln ⟨k1,k2,k3,fun q=>⟨(k4 q).1,jq_.1 (k4 q).2.1,(k4 q).2.2⟩⟩
   by_cases hme:0<n.me
   ·exact mz_ w T N Nc n hT hi hN0 hN7 (peers zs n.me) m1 m2 m3 (by simp;omega) (by simpa using hme) H HC HX HL
   ·exact na_ w T N Nc n hT hi hN0 hN7 (peers zs n.me) m1 m2 m3 (by simp;omega) (by simp;omega) (by simp;omega) H HC HX HL
 ·rw [dy_ h0];exact ob_ w T N Nc n _ (by simpa using h0) HC
end
abbrev turnCells (n:NodeV) (P R:Value):Array Value:= #[.int .i64 n.me,.int .i64 n.ep,.int .i64 n.up,.bool n.rd,.string n.t,.slice n.sA n.S.length n.sc,.slice n.uA n.U.length n.uc,.slice n.mA n.M.length n.mc,P,R]
theorem bet_(w:World)(T:OA_)(N Nc:Nat)(zs:List Int)(n:NodeV)(hT:Tabs w)(hi:n.In w)(hm:n.Small)(hz:Sl (· <w.heap.size) w 1 T N (zs.map (Value.int .i64)))(hN:N≤9223372036854775807)(er:Int)(h0:nodeFault zs n=er)(hne:(er==0)=false):
 Calls Tryz.prog 19 #[.slice T N Nc,n.val] w (R_ w (.tuple #[.pointer none,.int .i64 er])):=by
 have H1:=h_ (fun W hT (hi:n.In W) hz=>lj_ W T N Nc zs n hT hi hm hz hN);rw [h0]at H1;have HT:=h_ hT;have HZ:=h_ hz;have HI:=h_ hi;have hne':(er !=0)=true:=by simp [bne,hne]
 clear hT hz hi hm h0;have k112_:K_ (∀(P:Prop) (h:P:=by
 go_enter Tryz.func19,Tryz.ntmps19
 go_wp2_with fail
 rw [HW.o];refine(H1.o _ (HT.o.la HA.o.b) (HI.o.la HA.o.b) (Sl.la HZ.o HA.o.b)).mono ?_;rintro r w1 ⟨rfl,hb1⟩;have HB:=h_ (HA.o.la hb1);clear hb1;go_wp2_with fail
 refine bodyPost_ret (v:=(.tuple #[.pointer none,.int .i64 er])) (by simp [results,Tryz.results19,go_sem]) rfl ?_;exact⟨rfl,HB.o.b⟩
 ),P):=⟨@q6_⟩
 exact m112_
structure WorkAt (T:TypeId) (W:World) (X:Nat) (n:NodeV) (A:OA_) (c:Nat) (L:List PostV) (R:Value):Prop where
 blk:W.heap[X]?=some (.cells (turnCells n (.slice A L.length c) R) T (0,0))
 posts:PostsOwn W (X+1) A c L
 sides:Sl (fun b=>b<W.heap.size∧b≠X∧(Value.slice A L.length c).ownBlock≠some b) W 10 n.sA n.S.length (n.S.flatMap SideV.cells)
theorem WorkAt.lt{T:TypeId}{W:World}{X:Nat}{n:NodeV}{A:Option Addr}{c:Nat}{L:List PostV}{R:Value}(h:WorkAt T W X n A c L R):X<W.heap.size:=(Array.getElem?_eq_some_iff.1 h.blk).1
theorem WorkAt.la{T:TypeId}{W W':World}{X:Nat}{n:NodeV}{A:Option Addr}{c:Nat}{L:List PostV}{R:Value}(h:WorkAt T W X n A c L R)(hb:Below W.heap.size W W'):WorkAt T W' X n A c L R:=
 ⟨(hb.block _ h.lt).trans h.blk,h.posts.la hb,h.sides.mv fun b hk=>⟨⟨by have:=hb.size;omega,hk.2⟩,hb.block b hk.1⟩⟩
structure PostedTo (T:TypeId) (w:World) (X:Nat) (n:NodeV) (A:OA_) (k c:Nat) (L:List PostV) (R:Value) (A':Option Addr) (c':Nat) (w':World):Prop where
 at_:WorkAt T w' X n A' c' L R
 turned:Turned w w' X (Value.slice A k c).ownBlock
 own:(Value.slice A' L.length c').ownBlock=(Value.slice A k c).ownBlock∨ ∀x,(Value.slice A' L.length c').ownBlock=some x→w.heap.size≤x
section
variable {T:TypeId}
include T
theorem PostedTo.self{w w':World}{X:Nat}{n:NodeV}{A:Option Addr}{c:Nat}{L:List PostV}{R:Value}(h:WorkAt T w X n A c L R)(hb:Below w.heap.size w w'):PostedTo T w X n A L.length c L R A c w':=
 ⟨h.la hb,Turned.of_below hb,.inl rfl⟩
theorem PostedTo.trans{w w1 w2:World}{X:Nat}{n:NodeV}{A A1 A2:Option Addr}{k c c1 c2:Nat}{L1 L2:List PostV}{R:Value}(h:PostedTo T w X n A k c L1 R A1 c1 w1)(g:PostedTo T w1 X n A1 L1.length c1 L2 R A2 c2 w2):PostedTo T w X n A k c L2 R A2 c2 w2:=by
 refine⟨g.at_,h.turned.trans g.turned h.own,?_⟩;rcases g.own with e | e
 ·rcases h.own with e1 | e1
  ·exact .inl (e.trans e1)
  ·exact .inr fun x hx=>e1 x (e.symm.trans hx)
 ·exact .inr fun x hx=>Nat.le_trans h.turned.size (e x hx)
theorem PostedTo.apart{w w':World}{X:Nat}{n:NodeV}{A A':Option Addr}{k c c':Nat}{L:List PostV}{R:Value}(h:PostedTo T w X n A k c L R A' c' w'){b:Nat}(hb:b<w.heap.size∧b≠X∧(Value.slice A k c).ownBlock≠some b):
 (b<w'.heap.size∧b≠X∧(Value.slice A' L.length c').ownBlock≠some b)∧w'.heap[b]?=w.heap[b]?:=by
 refine⟨⟨Nat.lt_of_lt_of_le hb.1 h.turned.size,hb.2.1,fun e=>?_⟩,h.turned.block b hb.1 hb.2.1 (fun e=>hb.2.2 e.symm)⟩;rcases h.own with e1 | e1
 ·exact hb.2.2 (e1.symm.trans e)
 ·have:=e1 b e;omega
theorem WorkAt.post{w W2 w3:World}{X:Nat}{n:NodeV}{A A':Option Addr}{c c':Nat}{L:List PostV}{R:Value}{x:PostV}(hT:T≠79)(h:WorkAt T w X n A c L R)(hW:Below w.heap.size w W2)(hx:OpIn (fun b=>(X+1≤b∧b<w.heap.size)∧(Value.slice A L.length c).ownBlock≠some b) w x.p.f.o.A x.p.f.o.ps)(hg:W2.grownBy w3 (Value.slice A L.length c).ownBlock)(hown:w3.ownsRow (X+1) 79 10 (.slice A' (L.length+1) c') (L.length+1) (L.flatMap PostV.cells++x.cells))(hat:(Value.slice A' (L.length+1) c').ownBlock=(Value.slice A L.length c).ownBlock∨(Value.slice A' (L.length+1) c').ownBlock=some W2.heap.size):
 PostedTo T w X n A L.length c (L++ [x]) R A' c' (w3.setCell ⟨X,8,none⟩ (.slice A' (L.length+1) c')):=by
 have hlen:(L++ [x]).length=L.length+1:=by simp
 have h2:=h.la hW;have hX2:=h2.lt;have hne:(Value.slice A L.length c).ownBlock≠some X:=s_ h2.posts.row h2.blk hT;have hX3:w3.heap[X]?=some (.cells (turnCells n (.slice A L.length c) R) T (0,0)):=(hg.block X hX2 (fun e=>hne e.symm)).trans h2.blk;have hx2:OpIn (fun b=>(X+1≤b∧b<W2.heap.size)∧(Value.slice A L.length c).ownBlock≠some b) W2 (PostV.op x).A (PostV.op x).ps:=hx.mv fun b hb=>⟨⟨⟨hb.1.1,by have:=hW.size;omega⟩,hb.2⟩,hW.block b hb.1.2⟩
 have hP:=RowOwn.push3 (f:=PostV.cells) (op:=PostV.op) h2.posts hx2 hg hown hat;have hz3:=hg.size;have hs4:(w3.setCell ⟨X,8,none⟩ (.slice A' (L.length+1) c')).heap.size=w3.heap.size:=by simp [World.setCell]
 have hP4:PostsOwn (w3.setCell ⟨X,8,none⟩ (.slice A' (L.length+1) c')) (X+1) A' c' (L++ [x]):=hP.kept (by omega) fun b hb _=>bH_ (by show b≠X;omega);have hO:(Value.slice A' (L++ [x]).length c').ownBlock=(Value.slice A L.length c).ownBlock∨ ∀y,(Value.slice A' (L++ [x]).length c').ownBlock=some y→w.heap.size≤y:=by
  rw [hlen];rcases hat with e | e
  ·exact .inl e
  ·exact .inr fun y hy=>by
    rw [e]at hy;have:=Option.some.inj hy;have:=hW.size;omega
 have hTu:Turned w (w3.setCell ⟨X,8,none⟩ (.slice A' (L.length+1) c')) X (Value.slice A L.length c).ownBlock:=
  ((Turned.of_below hW).trans (Turned.of_grown hg) (.inl rfl)).trans (Turned.of_set w3 X 8 _ _) (.inl rfl)
 refine⟨⟨?_,hP4,?_⟩,hTu,hO⟩
 ·rw [hlen];exact f_ 8 _ hX3
 ·refine h.sides.mv fun b hb=>⟨⟨by rw [hs4];have:=hW.size;omega,hb.2.1,fun e=>?_⟩,hTu.block b hb.1 hb.2.1 (fun e=>hb.2.2 e.symm)⟩
  rcases hO with e1 | e1
  ·exact hb.2.2 (e1.symm.trans e)
  ·have:=e1 b e;omega
end
theorem bdx_(S:Nat→Prop)(w:World):zeroN.InS S w:=⟨Sl.nil,(by intro x hx;cases hx),⟨Sl.nil,(by intro x hx;cases hx)⟩,Sl.nil⟩
theorem cm_(w:World)(X:Nat):Calls Tryz.prog 21 #[.pointer (some ⟨X,0,none⟩)] w fun e w'=>e= .returned (.pointer (some ⟨X,0,none⟩))∧w=w':=by
 go_enter Tryz.func21,Tryz.ntmps21
 go_wp2
 go_ret
 simp
theorem dh_{w:World}{R:Nat}{z0 z1 z2 z3 z4 z5 z6 z7 z8 z9:Value}{t:TypeId}(h:w.heap[R]?=some (.cells #[z0,z1,z2,z3,z4,z5,z6,z7,z8,z9] t (0,0)))(v0 v1 v2 v3 v4 v5 v6 v7 v8 v9:Value):
 ((((((((((w.setCell ⟨R,0,none⟩ v0).setCell ⟨R,1,none⟩ v1).setCell ⟨R,2,none⟩ v2).setCell ⟨R,3,none⟩ v3).setCell ⟨R,4,none⟩ v4).setCell ⟨R,5,none⟩ v5).setCell ⟨R,6,none⟩ v6).setCell ⟨R,7,none⟩ v7).setCell ⟨R,8,none⟩ v8).setCell ⟨R,9,none⟩ v9).heap[R]?=some (.cells #[v0,v1,v2,v3,v4,v5,v6,v7,v8,v9] t (0,0)):=by
 exact m42_
end Go.Proofs.YtacacoklddogmaaGreatDoor
