/- Lemmas. -/
import Derived.Test.YtacacoklddogmaaGreatDoorKJAF
import Derived.Test.YtacacoklddogmaaGreatDoorKJAG
import Derived.Test.YtacacoklddogmaaGreatDoorKLinkD
import Derived.Test.YtacacoklddogmaaGreatDoorKJAX
import Derived.Test.YtacacoklddogmaaGreatDoorCards
import Derived.Test.YtacacoklddogmaaGreatDoorTie
import Derived.Lib.LaidIn
import Derived.Lib.LaidU8T
import Derived.PinnedBridge
import Derived.Deep.DeepHandedRow
import Derived.Deep.DeepWitnessRowRef
import Derived.SizedLaws
namespace Go.Proofs.YtacacoklddogmaaGreatDoor
set_option maxHeartbeats 4000000
open Go.ChangeShapes Go.WideShapes Go.ChangeAt Go.RowKit Go.Lib Go.Shelf
set_option maxRecDepth 100000
theorem m129_{P:Prop}(h:P:=by
 have HC:=h_ (fun W hT hi=>bw_ W l hT hi hm);rw [if_pos hk]at HC;have HF:=h_ (fun W hT hs=>em_ W f.k f.h f.e f.o.A f.o.c f.o.ps f.s hT hs hfm.op.len hfm.op.text hfm.text);first
 |guard_hyp vCC
  rw [show frameFault ⟨f.k,f.h,f.e,f.o.ps,f.s⟩=0 from he]at HF
 |rw [show frameFault ⟨f.k,f.h,f.e,f.o.ps,f.s⟩=er from he]at HF
 have HI:=h_ hi;have HT:=h_ hT;have HO:=h_ hf;have e0:(l.e==0)=false:=by simpa using h0
 first
 |guard_hyp vCC
  clear hi hT hm hk hf hfm he h0
 |have e1:(er !=0)=true:=by simpa using h1
  clear hi hT hm hk hf hfm he h0 h1
 obtain⟨e,n,sA,sc,s,qA,qc,q,h⟩:=l;obtain⟨fk,fh,fe,⟨fA,fc,fp⟩,fs⟩:=f;dsimp only at*;first
 |guard_hyp vCC
  subst h1
 |skip
 go_enter Tryz.func116,Tryz.ntmps116
 have k188_:K_ (∀(P:Prop) (h:P:=by
 refine(HF.o _ (HT.o.la bz_) (Sl.la HO.o bz_)).mono ?_;rintro r w2 ⟨rfl,hb2⟩;obtain⟨⟨d2,os2⟩,rfl⟩:=e_ hb2;go_wp2_with fail
 first
 |guard_hyp vCC
  refine bodyPost_ret (v:= .tuple #[zeroL.val,.slice none 0 0,.int .i64 8]) (by simp [results,Tryz.results116,go_sem]) rfl ?_
 |refine bodyPost_ret (v:= .tuple #[zeroL.val,.slice none 0 0,.int .i64 er]) (by simp [results,Tryz.results116,go_sem]) rfl ?_
 exact m212_
 ),P):=⟨@q6_⟩
 exact m188_):P:=h
theorem m139_{P:Prop}(h:P:=by
 generalize lens x=L at*;generalize lens y=M at*;obtain⟨L1,L2⟩:=L;obtain⟨M1,M2⟩:=M;dsimp only at*;clear h1 h2 h3;go_enter Tryz.func141,Tryz.ntmps141
 go_wp2_with fail
 refine HX.o.mono ?_;rintro e w1 ⟨rfl,hb1⟩;go_wp2_with fail
 refine(HY.o _ (HT.o.la hb1) (Sl.la hy hb1)).mono ?_;rintro e w2 ⟨rfl,hb2⟩;have HB2:=h_ (bThen hb1 hb2);clear hb1 hb2;go_wp2_with fail
 refine(HLX.o _ (Sl.la hx HB2.o)).mono ?_;rintro e w3 ⟨rfl,hb3⟩;have HB3:=h_ (bThen HB2.o hb3);clear hb3;go_wp2_with fail
 refine(HLY.o _ (Sl.la hy HB3.o)).mono ?_;rintro e w4 ⟨rfl,hb4⟩;go_wp2_with fail
 go_ret
 exact⟨rfl,bThen HB3.o hb4⟩):P:=h
theorem m188_{P:Prop}(h:P:=by
 go_wp2_with fail
 refine(HC.o _ (HT.o.la bz_) (HI.o.la bz_)).mono ?_;rintro r w1 ⟨rfl,hb1⟩;obtain⟨⟨d1,os1⟩,rfl⟩:=e_ hb1;go_wp2_with fail
 exact k188_.o _):P:=h
theorem m212_{P:Prop}(h:P:=by
 exact⟨zeroL,none,0,[],rfl,rfl,rfl,fo_ _,PacketsIn.nil _,bz_⟩):P:=h
theorem m266_{P:Prop}(h:P:=by
 have HPS:=h_ (show(L'++ [(⟨pe,pn,pb,pa,⟨fk,fh,fe,⟨A2,c2,fp⟩,fs⟩⟩:PacketV)]).map PacketV.d=(List.range (L'++ [(⟨pe,pn,pb,pa,⟨fk,fh,fe,⟨A2,c2,fp⟩,fs⟩⟩:PacketV)]).length).map (fun i=>packetX (fillL l.d) (l.s.length+i)) by rw [hll,HT.o,List.map_append,hps.o];rfl);exact k266_.o _):P:=h
abbrev laid2:List (String × DataW Unit):= [("unicode/utf8.acceptRanges",Rows.laid_unicode_utf8_acceptRanges),("unicode/utf8.first",Rows.laid_unicode_utf8_first)]
theorem re_:(Rows.laid_unicode_utf8_acceptRanges:DataW Unit)=Lib.acceptData:=by kernel_rfl
theorem vc_:Rows.laid_unicode_utf8_first=Lib.firstData:=Pinned.utf8First_eq
theorem bhj_{W:World}(h:laidMetH Tryz.prog laid2 W):Tabs W:=by
 have h':laidMet Tryz.prog [("unicode/utf8.acceptRanges",Lib.acceptData),("unicode/utf8.first",Lib.firstData)] W:=by
  rw [←re_,←vc_];exact h
 exact utf8Tabs_of_readsT (U8Types.of196 Tryz.lays196) ⟨by kernel_rfl,by kernel_rfl,by kernel_rfl,by kernel_rfl,by kernel_rfl,by kernel_rfl,by kernel_rfl⟩ (Lib.laidMet.reads h' (.tail _ (.head _))) (Lib.laidMet.reads h' (.head _))
noncomputable def laidWorld (os:Os):World:=
 let w0:=World.holding Tryz.prog os ⟨#[],#[],[]⟩
 let put (h:Array Obj) (g:Nat) (cs:Array Value):Array Obj:=h.modify g fun
  | .cells _ t frozen=> .cells cs t frozen
  | o=>o
 let h1:=put w0.heap 0 (Lib.firstTab.map fun z=>Value.int .u8 z).toArray
 let h2:=put h1 1 ((List.range 16).flatMap fun i=> [Value.int .u8 (Lib.accLo i),Value.int .u8 (Lib.accHi i)]).toArray
 { w0 with heap:=h2 }
theorem bfc_(os:Os)(args:Array Value):laidMet Tryz.prog laid2 ((laidWorld os).forCall (fun _ _=>0) ⟨#[],args,[]⟩).memory:=by
 show laidMet Tryz.prog [("unicode/utf8.acceptRanges",Rows.laid_unicode_utf8_acceptRanges),("unicode/utf8.first",Rows.laid_unicode_utf8_first)] _;rw [re_,vc_];exact(LaidIn.of_run (l:= [("unicode/utf8.acceptRanges",Lib.acceptData),("unicode/utf8.first",Lib.firstData)]) [1,0] 8 (by kernel_rfl) (by kernel_rfl) (by kernel_rfl) (by kernel_rfl)).met
end Go.Proofs.YtacacoklddogmaaGreatDoor
namespace Go.Proofs.YtacacoklddogmaaGreatDoor
set_option maxHeartbeats 4000000
open Go.ChangeShapes Go.WideShapes Go.ChangeAt Go.RowKit
set_option maxRecDepth 100000
theorem infoPacket:(Tryz.prog.info? 48).map (fun i=>(i.zero,i.size,i.bytes))=some (some (.agg #[.int .i64 0,.int .i64 0,.bool false,.int .i64 0,.int .i64 0,.int .i64 0,.int .i64 0,.slice none 0 0,.string ⟨#[]⟩]),9,96):=by kernel_rfl
abbrev PacketsOwn (w:World) (base:Nat) (A:OA_) (c:Nat) (L:List PacketV):Prop:=RowOwn 48 9 PacketV.cells PacketV.op w base A c L
theorem PacketsOwn.in_{w:World}{base:Nat}{A:Option Addr}{c:Nat}{L:List PacketV}(h:PacketsOwn w base A c L):PacketsIn w A L:=
 ⟨(Sl.of_own _ h.row).mv fun _ hx=>⟨hx.2,rfl⟩,fun o ho=>(h.each o ho).mv fun _ hx=>⟨hx.1.2,rfl⟩⟩
structure PostV where
 who:Int
 p:PacketV
instance:Inhabited PostV:=⟨⟨0,default⟩⟩
def PostV.cells (x:PostV):List Value:= .int .i64 x.who :: x.p.cells
theorem PostV.cells_len(x:PostV):x.cells.length=10:=rfl
abbrev PostV.op (x:PostV):OpV:=x.p.f.o
structure PostD where
 who:Int
 p:PacketD
abbrev PostV.d (x:PostV):PostD:=⟨x.who,x.p.d⟩
structure PostsIn (w:World) (A:OA_) (L:List PostV):Prop where
 row:Sl (· <w.heap.size) w 10 A L.length (L.flatMap PostV.cells)
 each: ∀x∈L,OpIn (· <w.heap.size) w x.p.f.o.A x.p.f.o.ps
theorem PostsIn.la{w w':World}{A:Option Addr}{L:List PostV}(h:PostsIn w A L)(hb:Below w.heap.size w w'):PostsIn w' A L:=⟨h.row.la hb,fun r hr=>Sl.la (h.each r hr) hb⟩
theorem PostsIn.at_{w:World}{A:Option Addr}{L:List PostV}(h:PostsIn w A L){k:Nat}(hk:k<L.length):
 ∃b o,A=some ⟨b,o,none⟩∧b<w.heap.size∧w.cell? ⟨b,o+k*10,none⟩=some (.int .i64 L[k].who)∧w.cell? ⟨b,o+k*10+1,none⟩=some (.int .i64 L[k].p.ep)∧w.cell? ⟨b,o+k*10+2,none⟩=some (.int .i64 L[k].p.nu)∧w.cell? ⟨b,o+k*10+3,none⟩=some (.bool L[k].p.b)∧w.cell? ⟨b,o+k*10+4,none⟩=some (.int .i64 L[k].p.ak)∧
  w.cell? ⟨b,o+k*10+5,none⟩=some (.int .i64 L[k].p.f.k)∧w.cell? ⟨b,o+k*10+6,none⟩=some (.int .i64 L[k].p.f.h)∧w.cell? ⟨b,o+k*10+7,none⟩=some (.int .i64 L[k].p.f.e)∧
  w.cell? ⟨b,o+k*10+8,none⟩=some (.slice L[k].p.f.o.A L[k].p.f.o.ps.length L[k].p.f.o.c)∧w.cell? ⟨b,o+k*10+9,none⟩=some (.string L[k].p.f.s)∧OpIn (· <w.heap.size) w L[k].p.f.o.A L[k].p.f.o.ps:=by
 obtain⟨b,o,e,hb,hc⟩:=bh_ PostV.cells 10 PostV.cells_len h.row hk;exact⟨b,o,e,hb,hc 0 _ rfl,hc 1 _ rfl,hc 2 _ rfl,hc 3 _ rfl,hc 4 _ rfl,hc 5 _ rfl,hc 6 _ rfl,hc 7 _ rfl,hc 8 _ rfl,hc 9 _ rfl,h.each _ (List.getElem_mem hk)⟩
theorem infoPost:(Tryz.prog.info? 79).map (fun i=>(i.zero,i.size,i.bytes))=some (some (.agg #[.int .i64 0,.int .i64 0,.int .i64 0,.bool false,.int .i64 0,.int .i64 0,.int .i64 0,.int .i64 0,.slice none 0 0,.string ⟨#[]⟩]),10,104):=by kernel_rfl
abbrev PostsOwn (w:World) (base:Nat) (A:OA_) (c:Nat) (L:List PostV):Prop:=RowOwn 79 10 PostV.cells PostV.op w base A c L
theorem PostsOwn.in_{w:World}{base:Nat}{A:Option Addr}{c:Nat}{L:List PostV}(h:PostsOwn w base A c L):PostsIn w A L:=
 ⟨(Sl.of_own _ h.row).mv fun _ hx=>⟨hx.2,rfl⟩,fun o ho=>(h.each o ho).mv fun _ hx=>⟨hx.1.2,rfl⟩⟩
theorem RowOwn.push3{α:Type}{t:TypeId}{n:Nat}{f:α→List Value}{op:α→OpV}{wr w3:World}{base:Nat}{Ao A':Option Addr}{co c':Nat}{L:List α}{x:α}(hO:RowOwn t n f op wr base Ao co L)
 (hx:OpIn (fun b=>(base≤b∧b<wr.heap.size)∧(Value.slice Ao L.length co).ownBlock≠some b) wr (op x).A (op x).ps) (hg:wr.grownBy w3 (Value.slice Ao L.length co).ownBlock)
 (hown:w3.ownsRow base t n (.slice A' (L.length+1) c') (L.length+1) (L.flatMap f++f x))
 (hat:(Value.slice A' (L.length+1) c').ownBlock=(Value.slice Ao L.length co).ownBlock∨(Value.slice A' (L.length+1) c').ownBlock=some wr.heap.size):RowOwn t n f op w3 base A' c' (L++ [x]):=by
 have hs3:=hg.size;have hlen:(L++ [x]).length=L.length+1:=by simp
 have hnew: ∀b,b<wr.heap.size→(Value.slice Ao L.length co).ownBlock≠some b→(Value.slice A' (L.length+1) c').ownBlock≠some b:=fun b hb hne e=>by
  rcases hat with h | h
  ·exact hne (h.symm.trans e)
  ·rw [h]at e;simp at e;omega
 refine⟨by rw [hlen];simpa using hown,fun p hp=>?_⟩;rw [hlen];have hall: ∀p∈L++ [x],OpIn (fun b=>(base≤b∧b<wr.heap.size)∧(Value.slice Ao L.length co).ownBlock≠some b) wr (op p).A (op p).ps:=fun p hp=>by
  rcases List.mem_append.1 hp with hp | hp
  ·exact hO.each p hp
  ·obtain rfl:p=x:=(by simpa using hp);exact hx
 refine(hall p hp).mv fun b hb=>?_;exact⟨⟨⟨hb.1.1,by omega⟩,hnew b hb.1.2 hb.2⟩,hg.block b hb.1.2 (fun e=>hb.2 e.symm)⟩
theorem mapLen{α β:Type}{f:α→β}{L L':List α}(h:L'.map f=L.map f):L'.length=L.length:=by rw [←List.length_map (f:=f),h,List.length_map]
section
variable {L L':List OpV}(h:L'.map OpV.ps=L.map OpV.ps)(i:Nat)
include L L' h i
theorem ps_at:L'[i]?.map OpV.ps=L[i]?.map OpV.ps:=by
 have:=congrArg (fun l=>l[i]?) h;simpa using this
theorem bgn_:badOp L' i=badOp L i:=by
 have h1:=ps_at h i;have hl:=mapLen h;unfold badOp;by_cases hi:i<L.length
 ·have hi':i<L'.length:=by omega
  rw [List.getElem?_eq_getElem hi,List.getElem?_eq_getElem hi']at h1;simp only [Option.map_some,Option.some.injEq]at h1;rw [List.getElem?_eq_getElem hi,List.getElem?_eq_getElem hi'];dsimp only;rw [h1];rcases i with _ | i
  ·rfl
  ·have h2:=ps_at h i;have hj:i<L.length:=(by omega);have hj':i<L'.length:=(by omega);rw [List.getElem?_eq_getElem hj,List.getElem?_eq_getElem hj']at h2;simp only [Option.map_some,Option.some.injEq]at h2;dsimp only;rw [List.getElem?_eq_getElem hj,List.getElem?_eq_getElem hj'];dsimp only;rw [h2]
 ·rw [List.getElem?_eq_none (by omega),List.getElem?_eq_none (by omega)]
end
theorem gr_{s h:Int}{L L':List OpV}(hd:L'.map OpV.ps=L.map OpV.ps)(hk:edgeMay s h L):edgeMay s h L':=by
 obtain⟨k1,k2,k3⟩:=hk;have hl:=mapLen hd;exact⟨k1,by omega,fun i hi=>by rw [bgn_ hd];exact k3 i (by omega)⟩
theorem bao_{r:Int}{L L':List OpV}(hd:L'.map OpV.ps=L.map OpV.ps)(hk:lastFits r L):lastFits r L':=by
 intro o ho;have h1:=congrArg List.getLast? hd;rw [List.getLast?_map,List.getLast?_map,ho]at h1;rcases hq:L.getLast? with _ | q
 ·rw [hq]at h1;cases h1
 ·rw [hq]at h1;simp only [Option.map_some,Option.some.injEq]at h1;rw [h1];exact hk q hq
theorem bdq_{rd:Bool}{r:Int}{x x':SideV}(h:x'.d=x.d)(hk:sideMay rd r x):sideMay rd r x':=by
 obtain⟨p,j,s,hh,A,c,L,k⟩:=x;obtain⟨p',j',s',hh',A',c',L',k'⟩:=x';simp only [SideV.d,SideD.mk.injEq]at h;obtain⟨rfl,rfl,rfl,rfl,h5,h6⟩:=h;obtain⟨⟨k1,k2⟩,k3⟩:=hk;refine⟨⟨gr_ h5 k1,gt_ h6 k2⟩,?_⟩;dsimp only at k3⊢;have he:k'.e=k.e:=by
  have:=congrArg LinkD.e h6;exact this
 by_cases hj:j'=false
 ·rw [if_pos hj]at k3⊢;exact k3
 ·rw [if_neg hj]at k3⊢;exact⟨bao_ h5 k3.1,k3.2.1,by rw [he];exact k3.2.2⟩
section
variable {zs:List Int}{n n':NodeV}(h:n'.d=n.d)
include zs n n' h
theorem sa_(hk:nodeMay zs n):nodeMay zs n':=by
 obtain⟨me,ep,up,rd,t,sA,sc,S,uA,uc,U,mA,mc,M⟩:=n;obtain⟨me',ep',up',rd',t',sA',sc',S',uA',uc',U',mA',mc',M'⟩:=n';simp only [NodeV.d,NodeD.mk.injEq]at h;obtain⟨rfl,rfl,rfl,rfl,rfl,h6,h7,rfl⟩:=h;have l6:=mapLen h6;have l7:=mapLen h7;obtain⟨k1,k2,k3,k4,k5,k6⟩:=hk;refine⟨k1,?_,?_,?_,?_,k6⟩
 ·unfold nodeLens at k2⊢;dsimp only at k2⊢;rw [l6,l7];exact k2
 ·dsimp only at k3⊢;rw [h7];exact k3
 ·intro i hi;have hi':i<S.length:=by(try dsimp only at hi);omega
  have h1:=k4 i hi';have h2:=sd_at h6 hi' hi;dsimp only at h1⊢;have hp:S'[i].p=S[i].p:=congrArg SideD.p h2;exact⟨by rw [hp];exact h1.1,bdq_ h2 h1.2⟩
 ·intro hm x hx;dsimp only at hx⊢;have h1:=congrArg List.head? h6;rw [List.head?_map,List.head?_map,hx]at h1;rcases hq:S.head? with _ | q
  ·rw [hq]at h1;cases h1
  ·rw [hq]at h1;simp only [Option.map_some,Option.some.injEq]at h1;have hj:x.j=q.j:=congrArg SideD.j h1;rw [hj];exact k5 hm q hq
theorem xq_:nodeFault zs n'=nodeFault zs n:=by
 by_cases ht:treeFault zs=0
 ·by_cases hk:nodeMay zs n
  ·rw [fv_ ht hk,fv_ ht (sa_ h hk)]
  ·rw [cq_ ht hk,cq_ ht (fun q=>hk (sa_ h.symm q))]
 ·rw [dy_ ht,dy_ ht]
end
theorem pc_{L L':List OpV}(h:L'.map OpV.ps=L.map OpV.ps)(hk: ∀o∈L,o.Small): ∀o∈L',o.Small:=by
 intro o ho;have:o.ps∈L.map OpV.ps:=by rw [←h];exact List.mem_map.2 ⟨o,ho,rfl⟩
 obtain⟨q,hq,e⟩:=List.mem_map.1 this;obtain⟨o1,o2⟩:=hk q hq;exact⟨e ▸ o1,e ▸ o2⟩
theorem SideV.Small.of_d{x x':SideV}(h:x'.d=x.d)(hk:x.Small):x'.Small:=by
 have h5:x'.L.map OpV.ps=x.L.map OpV.ps:=congrArg SideD.L h;exact⟨by rw [mapLen h5];exact hk.len,pc_ h5 hk.ops,LinkV.Small.of_d (congrArg SideD.k h) hk.link⟩
theorem NodeV.Small.of_d{n n':NodeV}(h:n'.d=n.d)(hk:n.Small):n'.Small:=by
 have h6:n'.S.map SideV.d=n.S.map SideV.d:=congrArg NodeD.S h;have h7:n'.U.map OpV.ps=n.U.map OpV.ps:=congrArg NodeD.U h;have h8:n'.M=n.M:=congrArg NodeD.M h;have h4:n'.t=n.t:=congrArg NodeD.t h;refine⟨by rw [h4];exact hk.text,by rw [mapLen h6];exact hk.sl,fun x hx=>?_,by rw [mapLen h7];exact hk.ul,pc_ h7 hk.undo,by rw [h8];exact hk.ml⟩;have:x.d∈n.S.map SideV.d:=by rw [←h6];exact List.mem_map.2 ⟨x,hx,rfl⟩
 obtain⟨q,hq,e⟩:=List.mem_map.1 this;exact SideV.Small.of_d e.symm (hk.sides q hq)
def fillN (x:LinkD):Nat:=min x.q.length (min (8 - x.s.length) (1048576 - x.n).toNat)
def fillL (x:LinkD):LinkD:=⟨x.e,x.n+fillN x,x.s++x.q.take (fillN x),x.q.drop (fillN x),x.h⟩
instance:Inhabited FrameD:=⟨(default:FrameV).d⟩
def packetX (x:LinkD) (k:Nat):PacketD:=⟨x.e,x.n - x.s.length+k,false,x.h,x.s.getD k default⟩
def fillP (x:LinkD):List PacketD:=(List.range (fillN x)).map fun i=>packetX (fillL x) (x.s.length+i)
theorem kn_(l:LinkV)(k:Nat):packetX l.d k=packetD l k:=by
 unfold packetX packetD;simp only [List.length_map,PacketD.mk.injEq,true_and];simp only [List.getD_eq_getElem?_getD,List.getElem?_map];cases l.s[k]? <;> rfl
structure LinkSt (w:World) (base X:Nat) (l:LinkV):Prop where
 at_:LinkAt w X l
 own:OwnsAt w base 5 l.sA l.s.length l.sc (l.s.flatMap FrameV.cells)
 s: ∀f∈l.s,OpIn (fun b=>(base≤b∧b<w.heap.size)∧b≠X∧(Value.slice l.sA l.s.length l.sc).ownBlock≠some b) w f.o.A f.o.ps
 qr:Sl (fun b=>(base≤b∧b<w.heap.size)∧b≠X∧(Value.slice l.sA l.s.length l.sc).ownBlock≠some b) w 5 l.qA l.q.length (l.q.flatMap FrameV.cells)
 q: ∀f∈l.q,OpIn (fun b=>(base≤b∧b<w.heap.size)∧b≠X∧(Value.slice l.sA l.s.length l.sc).ownBlock≠some b) w f.o.A f.o.ps
 qcap:l.q.length≤l.qc
 ne:(Value.slice l.sA l.s.length l.sc).ownBlock≠some X
structure Upon (base X:Nat) (w w':World):Prop where
 os:w'.os=w.os
 tape:w'.tape=w.tape
 output:w'.output=w.output
 size:w.heap.size≤w'.heap.size
 block: ∀k,k<base→k≠X→w'.heap[k]?=w.heap[k]?
theorem Upon.refl(base X:Nat)(w:World):Upon base X w w:=⟨rfl,rfl,rfl,Nat.le_refl _,fun _ _ _=>rfl⟩
section
variable {base X:Nat}
include base X
theorem Upon.trans{w w1 w2:World}(h:Upon base X w w1)(k:Upon base X w1 w2):Upon base X w w2:=
 ⟨k.os.trans h.os,k.tape.trans h.tape,k.output.trans h.output,Nat.le_trans h.size k.size,fun x hx hb=>(k.block x hx hb).trans (h.block x hx hb)⟩
theorem Upon.of_below{w w':World}(h:Below w.heap.size w w')(hb:base≤w.heap.size):Upon base X w w':=⟨h.os,h.tape,h.output,h.size,fun k hk _=>h.block k (by omega)⟩
theorem Upon.set(w:World)(j:Nat)(v:Value):Upon base X w (w.setCell ⟨X,j,none⟩ v):=⟨rfl,rfl,rfl,by simp [World.setCell],fun _ _ hb=>bH_ hb⟩
theorem Upon.grown{w w':World}{ob:Option Nat}(h:w.grownBy w' ob)(hb:base≤w.heap.size)(ho: ∀g,ob=some g→base≤g):Upon base X w w':=
 ⟨h.os,h.tape,h.output,h.size,fun k hk _=>h.block k (by omega) (fun e=>by have:=ho k e.symm;omega)⟩
end
theorem LinkSt.la{w w':World}{base X:Nat}{l:LinkV}(h:LinkSt w base X l)(hb:Below w.heap.size w w'):LinkSt w' base X l:=by
 have hz:=hb.size;exact⟨(hb.block _ (a_ h.at_).2.2.2.2.2.2.2.2.2.2).trans h.at_,h.own.kept hb.size (fun g hg=>hb.block g (h.own.lt hg).2),fun f hf=>(h.s f hf).mv fun b hx=>⟨⟨⟨hx.1.1,by omega⟩,hx.2⟩,hb.block b hx.1.2⟩,
  h.qr.mv fun b hx=>⟨⟨⟨hx.1.1,by omega⟩,hx.2⟩,hb.block b hx.1.2⟩,fun f hf=>(h.q f hf).mv fun b hx=>⟨⟨⟨hx.1.1,by omega⟩,hx.2⟩,hb.block b hx.1.2⟩,h.qcap,h.ne⟩
theorem LinkSt.in_{w:World}{base X:Nat}{l:LinkV}(h:LinkSt w base X l):l.In w:=
 ⟨⟨h.own.sl.mv fun _ hb=>⟨hb.2,rfl⟩,fun f hf=>(h.s f hf).mv fun _ hb=>⟨hb.1.2,rfl⟩⟩,⟨h.qr.mv fun _ hb=>⟨hb.1.2,rfl⟩,fun f hf=>(h.q f hf).mv fun _ hb=>⟨hb.1.2,rfl⟩⟩⟩
def lenAt (w:World) (X:Nat):Nat:=match w.cell? ⟨X,2,none⟩with
 | some (.slice _ n _)=>n
 | _=>0
def Spare (X:Nat) (ob:Option Nat) (w w':World):Prop:= ∀b,b<w.heap.size→b≠X→ob≠some b→w'.heap[b]?=w.heap[b]?
theorem Spare.set{X:Nat}{ob:Option Nat}{w w':World}(h:Spare X ob w w')(j:Nat)(v:Value):Spare X ob w (w'.setCell ⟨X,j,none⟩ v):=fun b hb hX hn=>(bH_ hX).trans (h b hb hX hn)
theorem Spare.below{X:Nat}{ob:Option Nat}{w w1 w2:World}(h:Spare X ob w w1)(hz:w.heap.size≤w1.heap.size)(hb:Below w1.heap.size w1 w2):Spare X ob w w2:=fun b hl hX hn=>(hb.block b (by omega)).trans (h b hl hX hn)
def Moved (w:World) (ob ob':Option Nat):Prop:=ob'=ob∨ ∃g,ob'=some g∧w.heap.size≤g
theorem Spare.grown{X:Nat}{ob ob':Option Nat}{w w1 w2:World}(h:Spare X ob w w1)(hm:Moved w ob ob')(hz:w.heap.size≤w1.heap.size)(hg:w1.grownBy w2 ob'):Spare X ob w w2:=fun b hl hX hn=>
 (hg.block b (by omega) (fun e => by
   rcases hm with h1 | ⟨g,h1,h2⟩
   · exact hn (by rw [←h1,←e])
   · rw [h1]at e
     injection e with e
     omega)).trans (h b hl hX hn)
theorem Moved.next{w w1:World}{ob ob' ob2:Option Nat}(h:Moved w ob ob')(hz:w.heap.size≤w1.heap.size)(hat:ob2=ob'∨ ∃g,ob2=some g∧w1.heap.size≤g):Moved w ob ob2:=by
 rcases hat with rfl | ⟨g,h1,h2⟩
 ·exact h
 ·exact .inr ⟨g,h1,by omega⟩
def RetFill (w:World) (base X:Nat) (d:LinkD) (ob:Option Nat) (e:Ending) (w':World):Prop:=
 ∃l A c L,e= .returned (.slice A L.length c)∧l.d=fillL d∧L.map PacketV.d=fillP d∧LinkSt w' base X l∧PacketsOwn w' w.heap.size A c L∧Upon base X w w'∧Spare X ob w w'∧
  ∃wm,LinkSt wm base X l∧Below wm.heap.size wm w'∧PacketsOwn w' wm.heap.size A c L∧w.heap.size≤wm.heap.size
def moveL (x:LinkD) (m:Nat):LinkD:=⟨x.e,x.n+m,x.s++x.q.take m,x.q.drop m,x.h⟩
theorem OwnsAt.la{w w':World}{base size n c:Nat}{A:Option Addr}{xs:List Value}(h:OwnsAt w base size A n c xs)(hb:Below w.heap.size w w'):OwnsAt w' base size A n c xs:=h.kept hb.size fun _ hg=>hb.block _ (h.lt hg).2
theorem LinkSt.after{w W2 w3:World}{base X:Nat}{l:LinkV}(k:LinkSt w base X l)(hW:Below w.heap.size w W2)(hg:W2.grownBy w3 (Value.slice l.sA l.s.length l.sc).ownBlock):LinkAt w3 X l:=by
 have hXl:X<w.heap.size:=(a_ k.at_).2.2.2.2.2.2.2.2.2.2;exact(hg.block X (Nat.lt_of_lt_of_le hXl hW.size) (fun e1=>k.ne e1.symm)).trans ((hW.block X hXl).trans k.at_)
theorem LinkSt.push{w W2 w3:World}{base X:Nat}{e n h:Int}{sA qA A':Option Addr}{sc qc c':Nat}{s q:List FrameV}{f:FrameV}(k:LinkSt w base X ⟨e,n,sA,sc,s,qA,qc,q,h⟩)(hW:Below w.heap.size w W2)
 (hf:OpIn (fun b=>(base≤b∧b<w.heap.size)∧b≠X∧(Value.slice sA s.length sc).ownBlock≠some b) w f.o.A f.o.ps) (hg:W2.grownBy w3 (Value.slice sA s.length sc).ownBlock)
 (hown:OwnsAt w3 base 5 A' (s.length+1) c' (s.flatMap FrameV.cells++f.cells))
 (hat:(Value.slice A' (s.length+1) c').ownBlock=(Value.slice sA s.length sc).ownBlock∨ ∃g,(Value.slice A' (s.length+1) c').ownBlock=some g∧W2.heap.size≤g):
 LinkSt (w3.setCell ⟨X,2,none⟩ (.slice A' (s.length+1) c')) base X ⟨e,n,A',c',s++ [f],qA,qc,q,h⟩:=by
 have hs3:=hg.size;have hs2:=hW.size;have hXl:X<w.heap.size:=(a_ k.at_).2.2.2.2.2.2.2.2.2.2;have hold: ∀b,b<w.heap.size→b≠X→(Value.slice sA s.length sc).ownBlock≠some b→(w3.setCell ⟨X,2,none⟩ (.slice A' (s.length+1) c')).heap[b]?=w.heap[b]?:=fun b hb hbX hne=>
  (bH_ hbX).trans ((hg.block b (by omega) (fun e=>hne e.symm)).trans (hW.block b hb))
 have hlen:(s++ [f]).length=s.length+1:=by simp
 have hne: ∀b,b<w.heap.size→(Value.slice sA s.length sc).ownBlock≠some b→(Value.slice A' (s++ [f]).length c').ownBlock≠some b:=fun b hb hn1 e1=>by
  rw [hlen]at e1;rcases hat with hh | ⟨g,hh,hl⟩
  ·exact hn1 (hh.symm.trans e1)
  ·rw [hh]at e1;cases e1;omega
 have hXo:(Value.slice sA s.length sc).ownBlock≠some X:=k.ne;have hXn:=hne X hXl hXo;have key: ∀b,((base≤b∧b<w.heap.size)∧b≠X∧(Value.slice sA s.length sc).ownBlock≠some b)→((base≤b∧b<(w3.setCell ⟨X,2,none⟩ (.slice A' (s.length+1) c')).heap.size)∧b≠X∧(Value.slice A' (s++ [f]).length c').ownBlock≠some b)∧(w3.setCell ⟨X,2,none⟩ (.slice A' (s.length+1) c')).heap[b]?=w.heap[b]?:=fun b hb=>
  ⟨⟨⟨hb.1.1,by simp [World.setCell];omega⟩,hb.2.1,hne b hb.1.2 hb.2.2⟩,hold b hb.1.2 hb.2.1 hb.2.2⟩
 refine⟨?_,?_,fun g hgm=>?_,k.qr.mv key,fun g hgm=>(k.q g hgm).mv key,k.qcap,hXn⟩
 ·show(w3.setCell ⟨X,2,none⟩ (.slice A' (s.length+1) c')).heap[X]?=_;rw [show(LinkV.mk e n A' c' (s++ [f]) qA qc q h).s.length=s.length+1 from hlen];exact f_ 2 _ ((hg.block X (by omega) (fun e1=>hXo e1.symm)).trans ((hW.block X hXl).trans k.at_))
 ·show OwnsAt _ base 5 A' (s++ [f]).length c' ((s++ [f]).flatMap FrameV.cells);rw [hlen,List.flatMap_append];simp only [List.flatMap_cons,List.flatMap_nil,List.append_nil];refine hown.kept (by simp [World.setCell]) fun g hg=>bH_ (fun e1=>hXn ?_);rw [hlen,hg];exact congrArg some e1
 ·rcases List.mem_append.1 hgm with hgm | hgm
  ·exact(k.s g hgm).mv key
  ·obtain rfl:g=f:=(by simpa using hgm);exact hf.mv key
theorem Sl.tail{S:Nat→Prop}{w:World}{n m:Nat}{A:Option Addr}{xs ys:List Value}(h:Sl S w n A (m+1) (xs++ys))(hx:xs.length=n)(hn:0<m+1):Sl S w n (A.map (fun x=>x.add n)) m ys:=by
 obtain⟨b,o,rfl,hb,hc⟩:=h.2 hn;refine⟨?_,fun _=>⟨b,o+n,by simp [Addr.add],hb,fun j u hu=>?_⟩⟩
 ·have:=h.1;rw [List.length_append,hx,Nat.add_mul]at this;omega
 ·have:=hc (n+j) u (by rw [List.getElem?_append_right (by omega),hx,Nat.add_sub_cancel_left];exact hu);rwa [←Nat.add_assoc]at this
theorem LinkSt.pop{w:World}{base X:Nat}{e n h:Int}{sA qA qA':Option Addr}{sc qc qc':Nat}{s q:List FrameV}{f:FrameV}(k:LinkSt w base X ⟨e,n,sA,sc,s,qA,qc,f :: q,h⟩)(hA:qA'=qA.map (fun x=>x.add 5)∨q= [])(hc:qc'=qc - 1):
 LinkSt ((w.setCell ⟨X,3,none⟩ (.slice qA' q.length qc')).setCell ⟨X,1,none⟩ (.int .i64 (n+1))) base X ⟨e,n+1,sA,sc,s,qA',qc',q,h⟩:=by
 have hb: ∀b,b≠X→((w.setCell ⟨X,3,none⟩ (.slice qA' q.length qc')).setCell ⟨X,1,none⟩ (.int .i64 (n+1))).heap[b]?=w.heap[b]?:=fun b hb=>(bH_ hb).trans (bH_ hb);have key: ∀b,((base≤b∧b<w.heap.size)∧b≠X∧(Value.slice sA s.length sc).ownBlock≠some b)→((base≤b∧b<((w.setCell ⟨X,3,none⟩ (.slice qA' q.length qc')).setCell ⟨X,1,none⟩ (.int .i64 (n+1))).heap.size)∧b≠X∧(Value.slice sA s.length sc).ownBlock≠some b)∧((w.setCell ⟨X,3,none⟩ (.slice qA' q.length qc')).setCell ⟨X,1,none⟩ (.int .i64 (n+1))).heap[b]?=w.heap[b]?:=fun b hx=>
  ⟨⟨⟨hx.1.1,by simp [World.setCell];omega⟩,hx.2⟩,hb b hx.2.1⟩
 refine⟨f_ 1 _ (f_ 3 _ k.at_),k.own.kept (by simp [World.setCell]) (fun g hg=>hb g (fun e1=>?_)),fun g hg=>(k.s g hg).mv key,?_,fun g hg=>(k.q g (List.mem_cons_of_mem _ hg)).mv key,by have:=k.qcap;simp at this;show q.length≤qc';omega,k.ne⟩
 ·subst e1;exact k.ne hg
 ·have hq:Sl (fun b=>(base≤b∧b<w.heap.size)∧b≠X∧(Value.slice sA s.length sc).ownBlock≠some b) w 5 qA (q.length+1) (f.cells++q.flatMap FrameV.cells):=k.qr;rcases hA with rfl | rfl
  ·exact(hq.tail rfl (by omega)).mv key
  ·exact⟨by simp,fun h=>absurd h (by simp)⟩
theorem jh_{x:LinkD}{m:Nat}{e n h:Int}{s q:List FrameD}{f:FrameD}(hd:(⟨e,n,s,f :: q,h⟩:LinkD)=moveL x m):(⟨e,n+1,s++ [f],q,h⟩:LinkD)=moveL x (m+1):=by
 unfold moveL at hd⊢;simp only [LinkD.mk.injEq]at hd⊢;obtain⟨h1,h2,h3,h4,h5⟩:=hd;have hlt:m<x.q.length:=by
  have:=congrArg List.length h4;simp at this;omega
 have hc:=List.drop_eq_getElem_cons hlt;rw [←h4]at hc;injection hc with hc1 hc2
 refine⟨h1,by omega,?_,hc2,h5⟩;rw [List.take_succ_eq_append_getElem hlt,←List.append_assoc,←h3,hc1]
theorem gb_{w:World}{X n c:Nat}{A:Option Addr}(h:w.cell? ⟨X,2,none⟩=some (.slice A n c)):lenAt w X=n:=by
 unfold lenAt;rw [h]
theorem ew_(w:World)(base X:Nat)(l:LinkV)(h:LinkSt w base X l)(hbs:base≤w.heap.size)(hs:l.s.length≤8)(hn:1≤l.n∧l.n≤1048576)(hq:l.q.length≤1048577)(hm:(∀f∈l.s,f.o.ps.length≤1048576)∧ ∀f∈l.q,f.o.ps.length≤1048576):
 Calls Tryz.prog 113 #[.pointer (some ⟨X,0,none⟩)] w (RetFill w base X l.d (Value.slice l.sA l.s.length l.sc).ownBlock):=by
 obtain⟨i0,hi0,hz0,hz1,hz2⟩:=info_parts infoPacket;obtain⟨j0,hj0,hy0,hy1,hy2⟩:=info_parts infoFrame;have HL:=h_ h;obtain⟨x0,x1,x2,x3,x4,f0,f1,f2,f3,f4,hxz⟩:=a_ h.at_;have HM:=h_ hm;have hxe:=h.at_;clear h hm hxe;go_enter Tryz.func113,Tryz.ntmps113
 go_wp2_with fail
 go_loopw [] (fun wr=> ∃(m:Nat) (lm:LinkV),lm.d=moveL l.d m∧m≤l.q.length∧l.s.length+m≤8∧l.n+m≤1048576∧LinkSt wr base X lm∧((∀f∈lm.s,f.o.ps.length≤1048576)∧ ∀f∈lm.q,f.o.ps.length≤1048576)∧Upon base X w wr∧(Spare X (Value.slice l.sA l.s.length l.sc).ownBlock w wr∧Moved w (Value.slice l.sA l.s.length l.sc).ownBlock (Value.slice lm.sA lm.s.length lm.sc).ownBlock)) (fun wr=>8 - lenAt wr X)
 case atStart=>exact⟨0,l,by unfold moveL;simp,Nat.zero_le _,by omega,by omega,HL.o,HM.o,Upon.refl _ _ _,fun _ _ _ _=>rfl,.inl rfl⟩
 case round=>
  obtain⟨m,lm,hd,hm1,hm2,hm3,hL,hM,hU,hSP,hMV⟩:=hrel;clear x0 x1 x2 x3 x4 f0 f1 f2 f3 f4 hxz;obtain⟨e,n,sA,sc,s,qA,qc,q,hh⟩:=lm;obtain⟨x0,x1,x2,x3,x4,f0,f1,f2,f3,f4,hxz⟩:=a_ hL.at_;have hd':=hd;simp only [LinkV.d,moveL,LinkD.mk.injEq]at hd';obtain⟨d1,d2,d3,d4,d5⟩:=hd';have hsl:s.length=l.s.length+m:=by
   have:=congrArg List.length d3;simp at this;omega
  have hql:q.length=l.q.length - m:=by
   have:=congrArg List.length d4;simpa using this
  dsimp only at x0 x1 x2 x3 x4 hM;have HD:=h_ hd;have HL:=h_ hL;have HU:=h_ hU;have HSP:=h_ hSP;have HMV:=h_ hMV;have HM:=h_ hM;have hsz:=hU.size;have HSL:=h_ hsl;have HQL:=h_ hql;have HN:=h_ d2;clear hd hL hU hM hsl hql d1 d2 d3 d4 d5 hSP hMV;by_cases hgo:0<q.length∧s.length<8∧n<1048576
  ·obtain⟨c1,c2,c3⟩:=hgo;cases q with
   | nil=>simp at c1
   | cons fr q=>
   obtain⟨b,o,rfl,hbs,hcq⟩:=bh_ FrameV.cells 5 FrameV.cells_len HL.o.qr (k:=0) c1;have g0:=hcq 0 _ rfl;have g1:=hcq 1 _ rfl;have g2:=hcq 2 _ rfl;have g3:=hcq 3 _ rfl;have g4:=hcq 4 _ rfl;simp only [List.getElem_cons_zero,Nat.zero_mul,Nat.add_zero]at g0 g1 g2 g3 g4;have HOP:=h_ (HL.o.q fr (by simp));obtain⟨fk,fh,fe,⟨fA,fc,fp⟩,fs⟩:=fr;dsimp only [FrameV.o,OpV.val]at g0 g1 g2 g3 g4;clear hcq;go_wp2_with(refine z_ ?_)
   refine⟨?_⟩;go_region_law (first
    | (refine qz_ _ rfl _ _ 56 rfl base 46 j0 (.agg #[.int .i64 0,.int .i64 0,.int .i64 0,.slice none 0 0,.string ⟨#[]⟩]) 5 64 Tryz.underlying56 hj0 hy0 hy1 hy2 rfl (by decide) _ _ _ _ rfl (HL.o.own.la bz_) (fun _=>True) _ _ _ _ rfl (by first | exact bl_ (by rfl) (by simp) | exact Sl.mv (bl_ (W:=wr) (by rfl) rfl) (fun _ _=>⟨trivial,rfl⟩)) ?_ ?_ ?_ ?_ ?_ ?_;(intro u hu;simp at hu;rcases hu with rfl | rfl | rfl | rfl | rfl <;> rfl);(decide);(unfold maxLen;omega);omega;(simp;omega);intro A' c' w3 hown' hgrow hat;obtain⟨y0,y1,y2,y3,y4,z0,z1,z2,z3,z4,yz⟩:=a_ (HL.o.after (show Below wr.heap.size wr _ from bz_) hgrow)))
   all_goals(
    have hbW:Below wr.heap.size wr _:=(show Below wr.heap.size wr (wr.alloc (.cells #[.int .i64 fk,.int .i64 fh,.int .i64 fe,.slice fA fp.length fc,.string fs] 46)).drew from bz_)
    refine u_ (fun G=>LinkSt G base X ⟨e,n,A',c',s++ [⟨fk,fh,fe,⟨fA,fc,fp⟩,fs⟩],some ⟨b,o,none⟩,qc,⟨fk,fh,fe,⟨fA,fc,fp⟩,fs⟩ :: q,hh⟩∧Upon base X w G∧(Spare X (Value.slice l.sA l.s.length l.sc).ownBlock w G∧Moved w (Value.slice l.sA l.s.length l.sc).ownBlock (Value.slice A' (s.length+1) c').ownBlock)) ⟨HL.o.push (f:=⟨fk,fh,fe,⟨fA,fc,fp⟩,fs⟩) hbW HOP.o hgrow hown' hat,(HU.o.trans (Upon.of_below hbW (by omega))).trans ((Upon.grown hgrow (by have:=hbW.size;omega) (fun g hg=>(HL.o.own.lt hg).1)).trans (Upon.set _ _ _)),((HSP.o.below hsz hbW).grown HMV.o (Nat.le_trans hsz hbW.size) hgrow).set 2 _,HMV.o.next (Nat.le_trans hsz hbW.size) hat⟩ ?_;clear hown' hgrow hat y0 y1 y2 y3 y4 z0 z1 z2 z3 z4 yz hbW;rintro G ⟨hL2,hU2,hSP2,hMV2⟩;have HSP2:=h_ hSP2;have HMV2:=h_ hMV2;have hl0:=gb_ x2;clear x0 x1 x2 x3 x4 f0 f1 f2 f3 f4 hxz;obtain⟨x0,x1,x2,x3,x4,f0,f1,f2,f3,f4,hxz⟩:=a_ hL2.at_;have HL2:=h_ hL2;have HU2:=h_ hU2;clear hL2 hU2 hSP2 hMV2;have hw:wrap64 (n+1)=n+1:=(by have:=HN.o;unfold wrap64;omega);have HS:=h_ (show s.length=l.s.length+m from HSL.o);go_wp2_with fail
    have hqc:q.length+1≤qc:=HL2.o.qcap;have hql:q.length+1=l.q.length - m:=HQL.o;have hnn:=HN.o
    (try rw [hw])
    have hP: ∀qA',qA'=(if qc=1 then some ⟨b,o,none⟩else some ⟨b,o+5,none⟩)→LinkSt ((G.setCell ⟨X,3,none⟩ (.slice qA' q.length (qc - 1))).setCell ⟨X,1,none⟩ (.int .i64 (n+1))) base X ⟨e,n+1,A',c',s++ [⟨fk,fh,fe,⟨fA,fc,fp⟩,fs⟩],qA',qc - 1,q,hh⟩:=fun qA' hq=>by
     refine HL2.o.pop ?_ rfl;by_cases h1:qc=1
     ·exact .inr (List.eq_nil_of_length_eq_zero (by omega))
     ·exact .inl (by rw [hq,if_neg h1];rfl)
    have hP':=hP _ rfl;go_roundw
    case rel=>exact⟨m+1,⟨e,n+1,A',c',s++ [⟨fk,fh,fe,⟨fA,fc,fp⟩,fs⟩],_,qc - 1,q,hh⟩,(show LinkD.mk e (n+1) ((s++ [(⟨fk,fh,fe,⟨fA,fc,fp⟩,fs⟩:FrameV)]).map FrameV.d) (q.map FrameV.d) hh=_ by rw [List.map_append];exact jh_ HD.o),by omega,by have:=HS.o;omega,by push_cast;omega,hP',⟨fun f hf=>by
     rcases List.mem_append.1 hf with hf | hf
     · exact HM.o.1 f hf
     · obtain rfl:=List.mem_singleton.1 hf
       exact HM.o.2 _ (List.mem_cons_self ..),fun f hf=>HM.o.2 f (List.mem_cons_of_mem _ hf)⟩,HU2.o.trans ((Upon.set _ _ _).trans (Upon.set _ _ _)),(HSP2.o.set 3 _).set 1 _,(by have h9:=HMV2.o;rw [←show(s++ [(⟨fk,fh,fe,⟨fA,fc,fp⟩,fs⟩:FrameV)]).length=s.length+1 by simp]at h9;exact h9)⟩
    case measure=>
     have h2:=gb_ (a_ hP'.at_).2.2.1;have:=HS.o;rw [h2,hl0];simp;omega)
  ·have hmN:m=fillN l.d:=by
    have h1:=HSL.o;have h2:=HQL.o;have h3:=HN.o;unfold fillN;simp only [List.length_map];omega
   have HF:=h_ (show(⟨e,n,sA,sc,s,qA,qc,q,hh⟩:LinkV).d=fillL l.d from HD.o.trans (by rw [hmN];rfl));have HMN:=h_ (show s.length=l.s.length+fillN l.d by rw [←hmN];exact HSL.o);have hn1:1≤n∧n≤1048576∧s.length≤8:=(by have:=HN.o;have:=HSL.o;exact⟨by omega,by omega,by omega⟩);have hle:l.s.length≤s.length:=(by have:=HSL.o;omega);have HPK:=h_ (fun W k hk2 hs=>bfh_ W ⟨e,n,sA,sc,s,qA,qc,q,hh⟩ k hk2 hs HM.o.1 hn1);dsimp only at HPK;obtain⟨w1,hw1⟩:=q2_ (wr);subst hw1;clear hmN;go_wp2_with fail
   all_goals(
    go_loopw [4,5] (fun out i wr=> ∃(j:Nat) (L':List PacketV) (Ao:OA_) (co:Nat),i= .int .i64 j∧Hid (j=l.s.length+L'.length)∧j≤s.length∧out= .slice Ao L'.length co∧Hid (L'.map PacketV.d=(List.range L'.length).map (fun i=>packetX (fillL l.d) (l.s.length+i)))∧PacketsOwn wr w1.heap.size Ao co L'∧Below w1.heap.size w1 wr) (fun _ i _=>s.length - (intOf i).toNat)
    case atStart=>exact⟨l.s.length,[],none,0,rfl,rfl,hle,rfl,rfl,RowOwn.nil _ _,Below.refl _ _⟩
    case round=>
     obtain⟨j,L',Ao,co,rfl,hj,hjs,rfl,hps,hown,hbw⟩:=hrel;clear x0 x1 x2 x3 x4 f0 f1 f2 f3 f4 hxz;have HLR:=h_ (HL.o.la hbw);obtain⟨x0,x1,x2,x3,x4,f0,f1,f2,f3,f4,hxz⟩:=a_ HLR.o.at_;have hsz2:=hbw.size;dsimp only at x0 x1 x2 x3 x4;by_cases hlt:j<s.length
     ·have HT:=h_ (show(List.range (L'.length+1)).map (fun i=>packetX (fillL l.d) (l.s.length+i))=(List.range L'.length).map (fun i=>packetX (fillL l.d) (l.s.length+i))++ [packetD ⟨e,n,sA,sc,s,qA,qc,q,hh⟩ j] by rw [List.range_succ,List.map_append,←kn_,HF.o,hj.o];rfl);have HP:=h_ (fun W hs=>HPK.o W j hlt hs);have HO:=h_ hown;have hL8:L'.length≤8:=(by have:=hj.o;omega);clear hown;generalize packetD ⟨e,n,sA,sc,s,qA,qc,q,hh⟩ j=pk at*;obtain⟨pe,pn,pb,pa,⟨fk,fh,fe,fp,fs⟩⟩:=pk;unfold RetPacket at HP;dsimp only at HP;go_wp2_with fail
      refine(HP.o _ HLR.o.in_.s).mono ?_;rintro r w2 ⟨A2,c2,rfl,ho2,hb2⟩;have HX:=h_ ((HO.o.la hb2).row.alloc (.cells #[.int .i64 pe,.int .i64 pn,.bool pb,.int .i64 pa,.int .i64 fk,.int .i64 fh,.int .i64 fe,.slice A2 fp.length c2,.string fs] 48));have HO2:=h_ ho2;have HB2:=h_ hb2;have hzw:=hb2.size;clear ho2 hb2;go_wp2_with(refine bb_ rfl ?_)
      refine⟨?_⟩;refine l_ _ rfl _ _ 90 rfl w1.heap.size 48 i0 (.agg #[.int .i64 0,.int .i64 0,.bool false,.int .i64 0,.int .i64 0,.int .i64 0,.int .i64 0,.slice none 0 0,.string ⟨#[]⟩]) 9 96 Tryz.underlying90 hi0 hz0 hz1 hz2 rfl (by decide) _ _ _ rfl HX.o (fun _=>True) _ _ _ _ rfl (bl_ (by rfl) (by simp)) ?c1 ?c2 ?c3 ?c4 ?_
      case c1=>intro u hu;simp at hu;rcases hu with rfl | rfl | rfl | rfl | rfl | rfl | rfl | rfl | rfl <;> rfl
      case c2=>unfold maxLen;omega
      case c3=>omega
      case c4=>simp;omega
      intro A' c' w3 hown' hgrow hat;have hP:=RowOwn.push (f:=PacketV.cells) (op:=PacketV.op) (x:=⟨pe,pn,pb,pa,⟨fk,fh,fe,⟨A2,c2,fp⟩,fs⟩⟩) HO.o hsz2 HB2.o HO2.o hgrow hown' hat;have hF:=bm_ hbw HB2.o hgrow (fun g hg=>(HO.o.row.lt g hg).1);clear hown' hgrow hat;go_wp2_with fail
      go_roundw
      case rel=>
       have hll:(L'++ [(⟨pe,pn,pb,pa,⟨fk,fh,fe,⟨A2,c2,fp⟩,fs⟩⟩:PacketV)]).length=L'.length+1:=(by simp);have HJ:=h_ (show j+1=l.s.length+(L'++ [(⟨pe,pn,pb,pa,⟨fk,fh,fe,⟨A2,c2,fp⟩,fs⟩⟩:PacketV)]).length by have:=hj.o;omega);have k266_:K_ (∀(P:Prop) (h:P:=by
       exact⟨j+1,L'++ [(⟨pe,pn,pb,pa,⟨fk,fh,fe,⟨A2,c2,fp⟩,fs⟩⟩:PacketV)],A',c',by go_num,HJ,by omega,by rw [hll],HPS,hP,hF⟩
       ),P):=⟨@q6_⟩
       exact m266_
      case measure=>simp [intOf];omega
     ·have HK:=h_ (show L'.length=fillN l.d by have:=hj.o;have:=HMN.o;omega);go_wp2_with fail
      go_ret
      refine⟨⟨e,n,sA,sc,s,qA,qc,q,hh⟩,Ao,co,L',rfl,HF.o,?_,HLR.o,hown.mono hsz,HU.o.trans (Upon.of_below hbw (by omega)),HSP.o.below (by omega) hbw,w1,HL.o,hbw,hown,hsz⟩;rw [hps.o,HK.o];unfold fillP;simp only [List.length_map])
theorem RowOwn.push2{α:Type}{t:TypeId}{n:Nat}{f:α→List Value}{op:α→OpV}{wr W2 w3:World}{base:Nat}{Ao A':Option Addr}{co c':Nat}{L:List α}{x:α}(hO:RowOwn t n f op wr base Ao co L)(hbs:base≤wr.heap.size)(hW:Below wr.heap.size wr W2)
 (hx:OpIn (fun b=>wr.heap.size≤b∧b<W2.heap.size) W2 (op x).A (op x).ps) (hg:W2.grownBy w3 (Value.slice Ao L.length co).ownBlock)
 (hown:w3.ownsRow base t n (.slice A' (L.length+1) c') (L.length+1) (L.flatMap f++f x))
 (hat:(Value.slice A' (L.length+1) c').ownBlock=(Value.slice Ao L.length co).ownBlock∨(Value.slice A' (L.length+1) c').ownBlock=some W2.heap.size):RowOwn t n f op w3 base A' c' (L++ [x]):=by
 have vCF:=h_ trivial;exact m131_
theorem dw_{wr wr0 w2 W2:World}{A:Option Addr}{ps:List PartD}(h:OpIn (fun b=>wr0.heap.size≤b∧b<w2.heap.size) w2 A ps)(h0:wr.heap.size≤wr0.heap.size)(hb:Below w2.heap.size w2 W2):OpIn (fun b=>wr.heap.size≤b∧b<W2.heap.size) W2 A ps:=
 h.mv fun b hx=>⟨⟨Nat.le_trans h0 hx.1,Nat.lt_of_lt_of_le hx.2 hb.size⟩,hb.block b hx.2⟩
abbrev zeroL:LinkV:=⟨0,0,none,0,[],none,0,[],0⟩
structure OutAt (w0 w:World) (R X base:Nat) (l lx:LinkV):Prop where
 p:LinkAt w w0.heap.size l
 r:LinkAt w R zeroL
 x:LinkAt w X lx
 b:Below w0.heap.size w0 w
 s:base≤w.heap.size
theorem OutAt.la{w0 w w':World}{R X base:Nat}{l lx:LinkV}(k:OutAt w0 w R X base l lx)(hb:Below w.heap.size w w'):OutAt w0 w' R X base l lx:=
 ⟨(hb.block _ (a_ k.p).2.2.2.2.2.2.2.2.2.2).trans k.p,(hb.block _ (a_ k.r).2.2.2.2.2.2.2.2.2.2).trans k.r,(hb.block _ (a_ k.x).2.2.2.2.2.2.2.2.2.2).trans k.x,bThen k.b hb,Nat.le_trans k.s hb.size⟩
theorem OutAt.grown{w0 w w3:World}{R X base:Nat}{l lx:LinkV}{ob:Option Nat}(k:OutAt w0 w R X base l lx)(hP:w0.heap.size<R∧R<X∧X<base)(hg:w.grownBy w3 ob)(hob: ∀g,ob=some g→base≤g):OutAt w0 w3 R X base l lx:=by
 have hs:=k.s;have hn: ∀b,b<base→some b≠ob:=fun b hb e=>by have:=hob b e.symm;omega
 exact⟨(hg.block _ (by omega) (hn _ (by omega))).trans k.p,(hg.block _ (by omega) (hn _ (by omega))).trans k.r,(hg.block _ (by omega) (hn _ (by omega))).trans k.x,k.b.grown hg (by omega) (fun g h=>by have:=hob g h;omega),Nat.le_trans k.s hg.size⟩
section
variable {w0 w:World}{R X base:Nat}{l:LinkV}{e n h:Int}{sA qA A:Option Addr}{sc qc c:Nat}{s q L:List FrameV}(k:OutAt w0 w R X base l ⟨e,n,sA,sc,s,qA,qc,q,h⟩)(hP:w0.heap.size<R∧R<X∧X<base){m:Nat}(hm:L.length=m)
include w0 w R X base l e n h sA qA A sc qc c s q L k hP m hm
theorem OutAt.sent:OutAt w0 (w.setCell ⟨X,2,none⟩ (.slice A m c)) R X base l ⟨e,n,A,c,L,qA,qc,q,h⟩:=
 ⟨(bH_ (by show w0.heap.size≠X;omega)).trans k.p,(bH_ (by show R≠X;omega)).trans k.r,by subst hm;exact f_ 2 _ k.x,bSet k.b (p:=⟨X,2,none⟩) (by show w0.heap.size≤X;omega) _,by simpa [World.setCell]using k.s⟩
theorem OutAt.queue:OutAt w0 (w.setCell ⟨X,3,none⟩ (.slice A m c)) R X base l ⟨e,n,sA,sc,s,A,c,L,h⟩:=
 ⟨(bH_ (by show w0.heap.size≠X;omega)).trans k.p,(bH_ (by show R≠X;omega)).trans k.r,by subst hm;exact f_ 3 _ k.x,bSet k.b (p:=⟨X,3,none⟩) (by show w0.heap.size≤X;omega) _,by simpa [World.setCell]using k.s⟩
end
structure FramesTo (w:World) (base mid:Nat) (A:OA_) (c:Nat) (L:List FrameV):Prop where
 own:FramesOwn w base A c L
 low: ∀g,(Value.slice A L.length c).ownBlock=some g→g<mid
 ops: ∀f∈L,OpIn (fun b=>(base≤b∧b<mid)∧(Value.slice A L.length c).ownBlock≠some b) w f.o.A f.o.ps
theorem FramesTo.of{w:World}{base:Nat}{A:Option Addr}{c:Nat}{L:List FrameV}(h:FramesOwn w base A c L):FramesTo w base w.heap.size A c L:=⟨h,fun g hg=>(h.row.lt g hg).2,h.each⟩
theorem FramesTo.kept{w w':World}{base mid:Nat}{A:Option Addr}{c:Nat}{L:List FrameV}(h:FramesTo w base mid A c L)(hm:mid≤w'.heap.size)(hk: ∀b,base≤b→b<mid→w'.heap[b]?=w.heap[b]?):FramesTo w' base mid A c L:=by
 refine⟨⟨⟨h.own.row.1,?_⟩,fun f hf=>(h.ops f hf).mv fun b hb=>⟨⟨⟨hb.1.1,by omega⟩,hb.2⟩,hk b hb.1.1 hb.1.2⟩⟩,h.low,fun f hf=>(h.ops f hf).mv fun b hb=>⟨hb,hk b hb.1.1 hb.1.2⟩⟩;rcases h.own.row.2 with hn | ⟨g,cap,cur,e,hb,hg,rest⟩
 ·exact .inl hn
 ·have hlt:=h.low g (by rw [e];rfl);exact .inr ⟨g,cap,cur,e,hb,(hk g hb hlt).trans hg,rest⟩
theorem FramesTo.mono{w:World}{base base' mid:Nat}{A:Option Addr}{c:Nat}{L:List FrameV}(h:FramesTo w base mid A c L)(hb:base'≤base):FramesTo w base' mid A c L:=
 ⟨h.own.mono hb,h.low,fun f hf=>(h.ops f hf).mv fun _ hx=>⟨⟨⟨Nat.le_trans hb hx.1.1,hx.1.2⟩,hx.2⟩,rfl⟩⟩
def RetOwn (w:World) (d:LinkD) (e:Ending) (w':World):Prop:=
 ∃(l:LinkV) (mid:Nat),e= .returned l.val∧l.d=d∧(w.heap.size≤mid∧mid≤w'.heap.size)∧FramesTo w' w.heap.size mid l.sA l.sc l.s∧FramesOwn w' mid l.qA l.qc l.q∧Below w.heap.size w w'
theorem dl_(w:World)(l:LinkV)(hi:l.In w)(hm:l.Small):Calls Tryz.prog 111 #[l.val] w (RetOwn w l.d):=by
 obtain⟨j0,hj0,hy0,hy1,hy2⟩:=info_parts infoFrame;obtain⟨e,n,sA,sc,s,qA,qc,q,h⟩:=l;obtain⟨W1,hW1⟩:=q2_ (w.alloc (.cells #[.int .i64 e,.int .i64 n,.slice sA s.length sc,.slice qA q.length qc,.int .i64 h] 58));obtain⟨W2,hW2⟩:=q2_ (W1.alloc (.cells #[.int .i64 0,.int .i64 0,.slice none 0 0,.slice none 0 0,.int .i64 0] 58));obtain⟨WA,hWA⟩:=q2_ (W2.alloc (.cells #[.int .i64 e,.int .i64 n,.slice none 0 0,.slice none 0 0,.int .i64 h] 58));have k155_:K_ (∀(P:Prop) (h:P:=by
 have HOA:=h_ (show OutAt w WA W1.heap.size W2.heap.size WA.heap.size ⟨e,n,sA,sc,s,qA,qc,q,h⟩ ⟨e,n,none,0,[],none,0,[],h⟩from
  ⟨(k3.block _ (by omega)).trans ((k2.block _ (by omega)).trans (by rw [hW1];exact heap_alloc_new _ _)),(k3.block _ (by omega)).trans (by rw [hW2];exact heap_alloc_new _ _),by rw [hWA];exact heap_alloc_new _ _,bThen k1 (bThen k2 k3),Nat.le_refl _⟩)
 have HW:=h_ (show((w.alloc (.cells #[.int .i64 e,.int .i64 n,.slice sA s.length sc,.slice qA q.length qc,.int .i64 h] 58)).alloc (.cells #[.int .i64 0,.int .i64 0,.slice none 0 0,.slice none 0 0,.int .i64 0] 58)).alloc (.cells #[.int .i64 e,.int .i64 n,.slice none 0 0,.slice none 0 0,.int .i64 h] 58)=WA by rw [hWA,hW2,hW1]);obtain⟨R,hR⟩:=q2_ (W1.heap.size);obtain⟨X,hX⟩:=q2_ (W2.heap.size);have HE1:=h_ (show w.heap.size+1+1=X by omega);have HE2:=h_ (show w.heap.size+1=R by omega);have hP:w.heap.size<R∧R<X∧X<WA.heap.size:=by omega
 rw [←hR,←hX]at HOA;have HI:=h_ hi;have HM:=h_ hm;have hsl:=hm.sl;have hql:=hm.ql;clear hR hX k1 k2 k3 g1 g2 g3 hWA hW2 hW1 hi hm;go_enter Tryz.func111,Tryz.ntmps111
 go_wp2_with fail
 rw [HW.o,HE1.o,HE2.o];go_loopw [18] (fun i wr=> ∃(k:Nat) (L':List FrameV) (Ao:OA_) (co:Nat),i= .int .i64 k∧k≤s.length∧L'.length=k∧Hid (L'.map FrameV.d=(s.take k).map FrameV.d)∧OutAt w wr R X WA.heap.size ⟨e,n,sA,sc,s,qA,qc,q,h⟩ ⟨e,n,Ao,co,L',none,0,[],h⟩∧FramesOwn wr WA.heap.size Ao co L') (fun i _=>s.length - (intOf i).toNat)
 case atStart=>exact⟨0,[],none,0,rfl,Nat.zero_le _,rfl,rfl,HOA.o,RowOwn.nil _ _⟩
 case round=>
  obtain⟨k,L',Ao,co,rfl,hk,hL',hps,hout,hown⟩:=hrel;subst hL';have HOUT:=h_ hout;have hsz:=hout.s;obtain⟨x0,x1,x2,x3,x4,f0,f1,f2,f3,f4,hxz⟩:=a_ hout.x;have hbw:=h_ hout.b;have HO:=h_ hown
  (try dsimp only at x0 x1 x2 x3 x4)
  clear hout hown;by_cases hlt:L'.length<s.length
  ·obtain⟨b,o,rfl,hbs,g0,g1,g2,g3,g4,hop⟩:=(FramesIn.la HI.o.s hbw.o).at_ hlt;have hsm:=(HM.o.s _ (List.getElem_mem hlt)).op.len;have HT:=h_ (show(s.take (L'.length+1)).map FrameV.d=(s.take L'.length).map FrameV.d++ [s[L'.length].d] by rw [List.take_succ_eq_append_getElem hlt,List.map_append];rfl)
   (try dsimp only at hsm)
   generalize s[L'.length]=f at*;obtain⟨fk,fh,fe,⟨fA,fc,fp⟩,fs⟩:=f
   (try dsimp only at*)
   have HC:=h_ (fun W hs=>dv_ W fk fh fe fA fc fp fs hs hsm);have HOP:=h_ hop;clear hop hsm;go_wp2_with(refine z_ ?_)
   refine⟨?_⟩;go_region_law (first
    | (refine bg_ _ rfl _ _ 56 rfl WA.heap.size 46 j0 (.agg #[.int .i64 0,.int .i64 0,.int .i64 0,.slice none 0 0,.string ⟨#[]⟩]) 5 64 Tryz.underlying56 hj0 hy0 hy1 hy2 rfl (by decide) _ _ _ rfl (HO.o.la bz_).row (fun _=>True) _ _ _ _ rfl (bl_ (by rfl) (by simp)) ?_ ?_ ?_ ?_ ?_;(intro u hu;simp at hu;rcases hu with rfl | rfl | rfl | rfl | rfl <;> rfl);(unfold maxLen;omega);omega;(simp;omega);intro A' c' w3 hown' hgrow hat;obtain⟨y0,y1,y2,y3,y4,z0,z1,z2,z3,z4,yz⟩:=a_ ((HOUT.o.la (show Below wr.heap.size wr _ from bz_)).grown hP hgrow (fun g hg=>(HO.o.row.lt g hg).1)).x)
    | (go_simp;go_at_call 112;refine(HC.o _ ?_).mono ?_;exact Sl.la HOP.o bz_;rintro r w2 ⟨A2,c2,rfl,ho2,hb2⟩;obtain⟨⟨d2,os2⟩,rfl⟩:=e_ hb2))
   all_goals(
    have hll:(L'++ [(⟨fk,fh,fe,⟨A2,c2,fp⟩,fs⟩:FrameV)]).length=L'.length+1:=(by simp);have hP3:=RowOwn.push2 (x:=(⟨fk,fh,fe,⟨A2,c2,fp⟩,fs⟩:FrameV)) HO.o (by omega) (show Below wr.heap.size wr _ from bz_) (dw_ ho2 (by simp) bz_) hgrow hown' hat;have hO3:=((HOUT.o.la (show Below wr.heap.size wr _ from bz_)).grown hP hgrow (fun g hg=>(HO.o.row.lt g hg).1)).sent (A:=A') (c:=c') hP hll;refine u_ (fun G=>OutAt w G R X WA.heap.size ⟨e,n,some ⟨b,o,none⟩,sc,s,qA,qc,q,h⟩ ⟨e,n,A',c',(L'++ [(⟨fk,fh,fe,⟨A2,c2,fp⟩,fs⟩:FrameV)]),none,0,[],h⟩∧FramesOwn G WA.heap.size A' c' (L'++ [(⟨fk,fh,fe,⟨A2,c2,fp⟩,fs⟩:FrameV)])) ⟨hO3,hP3.kept (by simp [World.setCell]) (fun g hg _=>bH_ (by show g≠X;omega))⟩ ?_;clear hP3 hO3 hown' hgrow hat ho2 hb2 y0 y1 y2 y3 y4 z0 z1 z2 z3 z4 yz;rintro G ⟨hO4,hP4⟩;go_wp2_with fail
    go_roundw
    case rel=>exact⟨L'.length+1,L'++ [(⟨fk,fh,fe,⟨A2,c2,fp⟩,fs⟩:FrameV)],A',c',by go_num,by omega,hll,by rw [List.map_append,hps.o,HT.o];rfl,hO4,hP4⟩
    case measure=>simp [intOf];omega)
  ·obtain hk':L'.length=s.length:=(by omega);rw [hk',List.take_length]at hps;have HLS:=h_ hk';obtain⟨wm,hwm⟩:=q2_ (wr);subst hwm;have hmid:=hsz;have HS1:=h_ (FramesTo.of HO.o);have HD1:=h_ hps.o;have HOM:=HOUT;clear hk' hps;obtain⟨p0,p1,p2,p3,p4,_,_,_,_,_,_⟩:=a_ HOUT.o.p
   (try dsimp only at p0 p1 p2 p3 p4)
   go_wp2_with fail
   go_loopw [33] (fun i wr=> ∃(k:Nat) (Lq:List FrameV) (Bo:OA_) (cq:Nat),i= .int .i64 k∧k≤q.length∧Lq.length=k∧Hid (Lq.map FrameV.d=(q.take k).map FrameV.d)∧OutAt w wr R X WA.heap.size ⟨e,n,sA,sc,s,qA,qc,q,h⟩ ⟨e,n,Ao,co,L',Bo,cq,Lq,h⟩∧FramesOwn wr wm.heap.size Bo cq Lq∧Upon wm.heap.size X wm wr) (fun i _=>q.length - (intOf i).toNat)
   case atStart=>exact⟨0,[],none,0,rfl,Nat.zero_le _,rfl,rfl,HOM.o,RowOwn.nil _ _,Upon.refl _ _ _⟩
   case round=>
    obtain⟨k,Lq,Bo,cq,rfl,hk,hL',hps,hout,hown,hup⟩:=hrel;subst hL';have HOUT:=h_ hout;have hsz:=hout.s;obtain⟨x0,x1,x2,x3,x4,f0,f1,f2,f3,f4,hxz⟩:=a_ hout.x;have hbw:=h_ hout.b;have hszm:=hup.size;have HUP:=h_ hup;have HO:=h_ hown
    (try dsimp only at x0 x1 x2 x3 x4)
    clear hout hown hup;by_cases hlt:Lq.length<q.length
    ·obtain⟨b,o,rfl,hbs,g0,g1,g2,g3,g4,hop⟩:=(FramesIn.la HI.o.q hbw.o).at_ hlt;have hsm:=(HM.o.q _ (List.getElem_mem hlt)).op.len;have HT:=h_ (show(q.take (Lq.length+1)).map FrameV.d=(q.take Lq.length).map FrameV.d++ [q[Lq.length].d] by rw [List.take_succ_eq_append_getElem hlt,List.map_append];rfl)
     (try dsimp only at hsm)
     generalize q[Lq.length]=f at*;obtain⟨fk,fh,fe,⟨fA,fc,fp⟩,fs⟩:=f
     (try dsimp only at*)
     have HC:=h_ (fun W hs=>dv_ W fk fh fe fA fc fp fs hs hsm);have HOP:=h_ hop;clear hop hsm;go_wp2_with(refine z_ ?_)
     refine⟨?_⟩;go_region_law (first
      | (refine bg_ _ rfl _ _ 56 rfl wm.heap.size 46 j0 (.agg #[.int .i64 0,.int .i64 0,.int .i64 0,.slice none 0 0,.string ⟨#[]⟩]) 5 64 Tryz.underlying56 hj0 hy0 hy1 hy2 rfl (by decide) _ _ _ rfl (HO.o.la bz_).row (fun _=>True) _ _ _ _ rfl (bl_ (by rfl) (by simp)) ?_ ?_ ?_ ?_ ?_;(intro u hu;simp at hu;rcases hu with rfl | rfl | rfl | rfl | rfl <;> rfl);(unfold maxLen;omega);omega;(simp;omega);intro A' c' w3 hown' hgrow hat;obtain⟨y0,y1,y2,y3,y4,z0,z1,z2,z3,z4,yz⟩:=a_ ((HOUT.o.la (show Below wr.heap.size wr _ from bz_)).grown hP hgrow (fun g hg=>Nat.le_trans hmid (HO.o.row.lt g hg).1)).x)
      | (go_simp;go_at_call 112;refine(HC.o _ ?_).mono ?_;exact Sl.la HOP.o bz_;rintro r w2 ⟨A2,c2,rfl,ho2,hb2⟩;obtain⟨⟨d2,os2⟩,rfl⟩:=e_ hb2))
     all_goals(
      have hll:(Lq++ [(⟨fk,fh,fe,⟨A2,c2,fp⟩,fs⟩:FrameV)]).length=Lq.length+1:=(by simp);have hP3:=RowOwn.push2 (x:=(⟨fk,fh,fe,⟨A2,c2,fp⟩,fs⟩:FrameV)) HO.o (by omega) (show Below wr.heap.size wr _ from bz_) (dw_ ho2 (by simp) bz_) hgrow hown' hat;have hO3:=((HOUT.o.la (show Below wr.heap.size wr _ from bz_)).grown hP hgrow (fun g hg=>Nat.le_trans hmid (HO.o.row.lt g hg).1)).queue (A:=A') (c:=c') hP hll;have hU3:=(HUP.o.trans (Upon.of_below (show Below wr.heap.size wr _ from bz_) (by omega))).trans (Upon.grown (X:=X) hgrow (by simp;omega) (fun g hg=>(HO.o.row.lt g hg).1));refine u_ (fun G=>OutAt w G R X WA.heap.size ⟨e,n,sA,sc,s,some ⟨b,o,none⟩,qc,q,h⟩ ⟨e,n,Ao,co,L',A',c',(Lq++ [(⟨fk,fh,fe,⟨A2,c2,fp⟩,fs⟩:FrameV)]),h⟩∧FramesOwn G wm.heap.size A' c' (Lq++ [(⟨fk,fh,fe,⟨A2,c2,fp⟩,fs⟩:FrameV)])∧Upon wm.heap.size X wm G) ⟨hO3,hP3.kept (by simp [World.setCell]) (fun g hg _=>bH_ (by show g≠X;omega)),hU3.trans (Upon.set _ _ _)⟩ ?_;clear hP3 hO3 hU3 hown' hgrow hat ho2 hb2 y0 y1 y2 y3 y4 z0 z1 z2 z3 z4 yz;rintro G ⟨hO4,hP4,hU4⟩;go_wp2_with fail
      go_roundw
      case rel=>exact⟨Lq.length+1,Lq++ [(⟨fk,fh,fe,⟨A2,c2,fp⟩,fs⟩:FrameV)],A',c',by go_num,by omega,hll,by rw [List.map_append,hps.o,HT.o];rfl,hO4,hP4,hU4⟩
      case measure=>simp [intOf];omega)
    ·obtain hk':Lq.length=q.length:=(by omega);rw [hk',List.take_length]at hps;have HOUT3:=HOUT;obtain⟨r0,r1,r2,r3,r4,s0,s1,s2,s3,s4,hrz⟩:=a_ HOUT.o.r;have n1: ¬R=X:=(by omega);have n2: ¬X=R:=(by omega);have HDQ:=h_ hps.o;clear hk' hps;go_wp2_with fail
     obtain⟨W5,hW5⟩:=q2_ ((((((wr.setCell ⟨R,0,none⟩ (.int .i64 e)).setCell ⟨R,1,none⟩ (.int .i64 n)).setCell ⟨R,2,none⟩ (.slice Ao L'.length co)).setCell ⟨R,3,none⟩ (.slice Bo Lq.length cq)).setCell ⟨R,4,none⟩ (.int .i64 h)));rw [←hW5];have hO:Only R wr W5:=(by rw [hW5];exact(((q5_.trans q5_).trans q5_).trans q5_).trans q5_);have hR5:LinkAt W5 R ⟨e,n,Ao,co,L',Bo,cq,Lq,h⟩:=by
      have h1:=f_ 4 (.int .i64 h) (f_ 3 (.slice Bo Lq.length cq) (f_ 2 (.slice Ao L'.length co) (f_ 1 (.int .i64 n) (f_ 0 (.int .i64 e) HOUT.o.r))));show W5.heap[R]?=some (Obj.cells #[.int .i64 e,.int .i64 n,.slice Ao L'.length co,.slice Bo Lq.length cq,.int .i64 h] 58 (0,0));rw [hW5];exact h1
     clear hW5;have hzO:=hO.size;refine u_ (fun G=>LinkAt G R ⟨e,n,Ao,co,L',Bo,cq,Lq,h⟩∧FramesTo G w.heap.size wm.heap.size Ao co L'∧FramesOwn G wm.heap.size Bo cq Lq∧Below w.heap.size w G∧wm.heap.size≤G.heap.size) ⟨hR5,?_,HO.o.kept hO.size (fun b hb hl=>hO.block b hl (by omega)),HOUT.o.b.trans (hO.below (by omega) (by omega)),by omega⟩ ?_
     ·refine((HS1.o.kept (w':=wr) hszm (fun b hb hl=>HUP.o.block b hl (by omega))).kept (by omega) (fun b hb hl=>hO.block b (by omega) (by omega))).mono (by omega)
     rintro G ⟨hR6,hS6,hQ6,hB6,hz6⟩;have hwm:w.heap.size≤wm.heap.size:=(by omega);clear hR5 hO hzO r0 r1 r2 r3 r4 s0 s1 s2 s3 s4 hrz;obtain⟨r0,r1,r2,r3,r4,_,_,_,_,_,_⟩:=a_ hR6;refine bodyPost_ret (v:=(⟨e,n,Ao,co,L',Bo,cq,Lq,h⟩:LinkV).val) (by simp [results,Tryz.results111,go_sem,r0,r1,r2,r3,r4]) rfl ?_;exact⟨⟨e,n,Ao,co,L',Bo,cq,Lq,h⟩,wm.heap.size,rfl,by simp only [LinkV.d,HD1.o,HDQ.o],⟨hwm,hz6⟩,hS6,hQ6,hB6⟩
 ),P):=⟨@q6_⟩
 exact m155_
theorem LinkSt.plain{w3 W:World}{B0 mid:Nat}{l:LinkV}(hS:FramesTo w3 B0 mid l.sA l.sc l.s)(hQ:FramesOwn w3 mid l.qA l.qc l.q)(hm:B0≤mid∧mid≤w3.heap.size)(hW:Below w3.heap.size w3 W)(hX:LinkAt W w3.heap.size l):LinkSt W B0 w3.heap.size l:=by
 have hz:=hW.size;have hq: ∀b,b<w3.heap.size→mid≤b→(Value.slice l.sA l.s.length l.sc).ownBlock≠some b:=fun b _ h e1=>by have:=hS.low b e1;omega
 refine⟨hX,(OwnsAt.of_row hS.own.row).la hW,fun f hf=>(hS.ops f hf).mv fun b hb=>⟨⟨⟨by omega,by omega⟩,by omega,hb.2⟩,hW.block b (by omega)⟩,?_,fun f hf=>(hQ.each f hf).mv fun b hb=>⟨⟨⟨by omega,by omega⟩,by omega,hq b hb.1.2 hb.1.1⟩,hW.block b hb.1.2⟩,(ky_ hQ.row).1,fun e1=>?_⟩
 ·exact(Sl.of_own _ hQ.row).mv fun b hb=>⟨⟨⟨by omega,by omega⟩,by omega,hq b hb.2 hb.1⟩,hW.block b hb.2⟩
 ·have:=hS.low _ e1;omega
theorem LinkSt.make{w3 W2 w5:World}{B0 mid:Nat}{e n h:Int}{sA qA A':Option Addr}{sc qc c':Nat}{s q:List FrameV}{f:FrameV}(hS:FramesTo w3 B0 mid sA sc s)(hQ:FramesOwn w3 mid qA qc q)(hm:B0≤mid∧mid≤w3.heap.size)(hW:Below w3.heap.size w3 W2)(hX:LinkAt W2 w3.heap.size ⟨e,n,sA,sc,s,qA,qc,q,h⟩)
 (hf:OpIn (fun b=>w3.heap.size<b∧b<W2.heap.size) W2 f.o.A f.o.ps) (hg:W2.grownBy w5 (Value.slice qA q.length qc).ownBlock)
 (hown:w5.ownsRow mid 46 5 (.slice A' (q.length+1) c') (q.length+1) (q.flatMap FrameV.cells++f.cells))
 (hat:(Value.slice A' (q.length+1) c').ownBlock=(Value.slice qA q.length qc).ownBlock∨(Value.slice A' (q.length+1) c').ownBlock=some W2.heap.size):
 LinkSt (w5.setCell ⟨w3.heap.size,3,none⟩ (.slice A' (q.length+1) c')) B0 w3.heap.size ⟨e,n,sA,sc,s,A',c',q++ [f],h⟩:=by
 have hz:=hW.size;have hXl:w3.heap.size<W2.heap.size:=(a_ hX).2.2.2.2.2.2.2.2.2.2;have hz5:=hg.size;have hlen:(q++ [f]).length=q.length+1:=by simp
 have hqX:(Value.slice qA q.length qc).ownBlock≠some w3.heap.size:=fun e1=>by have:=(hQ.row.lt _ e1).2;omega
 have hold: ∀b,b<W2.heap.size→b≠w3.heap.size→(Value.slice qA q.length qc).ownBlock≠some b→(w5.setCell ⟨w3.heap.size,3,none⟩ (.slice A' (q.length+1) c')).heap[b]?=W2.heap[b]?:=fun b hb hbX hne=>
  (bH_ hbX).trans (hg.block b hb (fun e1=>hne e1.symm))
 have hsn: ∀b,b<mid→(Value.slice qA q.length qc).ownBlock≠some b:=fun b hb e1=>by have:=(hQ.row.lt b e1).1;omega
 have hss: ∀b,mid≤b→(Value.slice sA s.length sc).ownBlock≠some b:=fun b hb e1=>by have:=hS.low b e1;omega
 have hA5: ∀b,(Value.slice A' (q.length+1) c').ownBlock=some b→mid≤b∧b<w5.heap.size:=fun b e1=>hown.lt b e1;have hzs:(w5.setCell ⟨w3.heap.size,3,none⟩ (.slice A' (q.length+1) c')).heap.size=w5.heap.size:=by simp [World.setCell]
 have hAX:(Value.slice A' (q.length+1) c').ownBlock≠some w3.heap.size:=fun e1=>by
  rcases hat with h1 | h1
  ·exact hqX (h1.symm.trans e1)
  ·rw [h1]at e1;injection e1 with e1
   omega
 refine⟨?_,?_,fun g hgm=>?_,?_,fun g hgm=>?_,?_,?_⟩
 ·show(w5.setCell ⟨w3.heap.size,3,none⟩ (.slice A' (q.length+1) c')).heap[w3.heap.size]?=_;rw [show(LinkV.mk e n sA sc s A' c' (q++ [f]) h).q.length=q.length+1 from hlen];exact f_ 3 _ ((hg.block _ hXl (fun e1=>hqX e1.symm)).trans hX)
 ·refine((OwnsAt.of_row hS.own.row).la hW).kept (by rw [hzs];exact hz5) fun g hgo=>hold g ?_ ?_ (hsn g (hS.low g hgo))
  ·have:=hS.low g hgo;omega
  ·have:=hS.low g hgo;omega
 ·exact(hS.ops g hgm).mv fun b hb=>⟨⟨⟨by omega,by rw [hzs];omega⟩,by omega,hb.2⟩,(hold b (by omega) (by omega) (hsn b hb.1.2)).trans (hW.block b (by omega))⟩
 ·show Sl _ _ 5 A' (q++ [f]).length ((q++ [f]).flatMap FrameV.cells);rw [hlen,List.flatMap_append];simp only [List.flatMap_cons,List.flatMap_nil,List.append_nil];have h1:=(OwnsAt.of_row hown).sl;refine h1.mv fun b hb=>⟨⟨⟨by have:=(hA5 b hb.1).1;omega,by rw [hzs];exact hb.2⟩,fun e1=>hAX (by rw [←e1];exact hb.1),hss b (hA5 b hb.1).1⟩,bH_ (fun e1=>hAX ?_)⟩
  rw [hb.1];exact congrArg some e1
 ·rcases List.mem_append.1 hgm with hgm | hgm
  ·exact(hQ.each g hgm).mv fun b hb=>⟨⟨⟨by omega,by rw [hzs];omega⟩,by omega,hss b hb.1.1⟩,(hold b (by omega) (by omega) hb.2).trans (hW.block b hb.1.2)⟩
  ·obtain rfl:g=f:=(by simpa using hgm);refine hf.mv fun b hb=>⟨⟨⟨by omega,by rw [hzs];omega⟩,by omega,hss b (by omega)⟩,hold b hb.2 (by omega) (fun e1=>?_)⟩
   have:=(hQ.row.lt b e1).2;omega
 ·show(q++ [f]).length≤c';rw [hlen];exact(ky_ hown).1
 ·exact hss _ hm.2
theorem eg_{w0 W w3:World}{ob:Option Nat}(hg:W.grownBy w3 ob)(hb:Below w0.heap.size w0 W)(ho: ∀g,ob=some g→w0.heap.size≤g):Below w0.heap.size w0 w3:=Below.grown hb hg hb.size ho
theorem es_{W w5 W4:World}{ob:Option Nat}(hg:W.grownBy w5 ob)(hb:Below W4.heap.size W4 W): ∃WQ,WQ=W∧WQ.grownBy w5 ob∧Below W4.heap.size W4 WQ:=⟨W,rfl,hg,hb⟩
def RetSend (w:World) (d:LinkD) (D:List PacketD) (er:Int) (e:Ending) (w':World):Prop:=
 ∃(l:LinkV) (A:OA_) (c:Nat) (L:List PacketV),e= .returned (.tuple #[l.val,.slice A L.length c,.int .i64 er])∧l.d=d∧L.map PacketV.d=D∧l.In w'∧PacketsIn w' A L∧Below w.heap.size w w'
theorem fo_(w:World):zeroL.In w:=⟨FramesIn.nil _,FramesIn.nil _⟩
def sendE (l:LinkV) (f:FrameD):Int:=if¬linkMay l then 9 else if l.e=0 then 12 else if frameFault f≠0 then frameFault f else if l.n=1048576 then 8 else 0
def waitL (x:LinkD) (f:FrameD):LinkD:=⟨x.e,x.n,x.s,x.q++ [f],x.h⟩
section
variable(w:World) (l:LinkV) (f:FrameV) (hT:Tabs w) (hi:l.In w) (hm:l.Small) (hf:OpIn (· <w.heap.size) w f.o.A f.o.ps) (hfm:f.Small)
include hT hi hm
theorem zr_(hk: ¬linkMay l):Calls Tryz.prog 116 #[l.val,frameV f.k f.h f.e f.o.A f.o.ps.length f.o.c f.s] w (RetSend w zeroL.d [] 9):=by
 have HC:=h_ (fun W hT hi=>bw_ W l hT hi hm);rw [if_neg hk]at HC;have HI:=h_ hi;have HT:=h_ hT;clear hi hT hm;obtain⟨e,n,sA,sc,s,qA,qc,q,h⟩:=l;obtain⟨fk,fh,fe,⟨fA,fc,fp⟩,fs⟩:=f;go_enter Tryz.func116,Tryz.ntmps116
 have k188_:K_ (∀(P:Prop) (h:P:=by
 refine bodyPost_ret (v:= .tuple #[zeroL.val,.slice none 0 0,.int .i64 9]) (by simp [results,Tryz.results116,go_sem]) rfl ?_;exact m212_
 ),P):=⟨@q6_⟩
 exact m188_
theorem bbm_(hk:linkMay l)(h0:l.e=0):Calls Tryz.prog 116 #[l.val,frameV f.k f.h f.e f.o.A f.o.ps.length f.o.c f.s] w (RetSend w zeroL.d [] 12):=by
 have HC:=h_ (fun W hT hi=>bw_ W l hT hi hm);rw [if_pos hk]at HC;have HI:=h_ hi;have HT:=h_ hT;clear hi hT hm hk;obtain⟨e,n,sA,sc,s,qA,qc,q,h⟩:=l;obtain⟨fk,fh,fe,⟨fA,fc,fp⟩,fs⟩:=f;dsimp only at h0;subst h0;go_enter Tryz.func116,Tryz.ntmps116
 have k188_:K_ (∀(P:Prop) (h:P:=by
 refine bodyPost_ret (v:= .tuple #[zeroL.val,.slice none 0 0,.int .i64 12]) (by simp [results,Tryz.results116,go_sem]) rfl ?_;exact m212_
 ),P):=⟨@q6_⟩
 exact m188_
include hf hfm
theorem zq_(hk:linkMay l)(h0:l.e≠0)(er:Int)(he:frameFault f.d=er)(h1:er≠0):Calls Tryz.prog 116 #[l.val,frameV f.k f.h f.e f.o.A f.o.ps.length f.o.c f.s] w (RetSend w zeroL.d [] er):=by
 exact m129_
theorem bbo_(hk:linkMay l)(h0:l.e≠0)(he:frameFault f.d=0)(h1:l.n=1048576):Calls Tryz.prog 116 #[l.val,frameV f.k f.h f.e f.o.A f.o.ps.length f.o.c f.s] w (RetSend w zeroL.d [] 8):=by
 have vCC:=h_ trivial;exact m129_
end
def Wk (w:World) (X:Nat) (A:OA_) (c:Nat) (ps:LP_) (l:List (Int × Int)):Prop:= ∃k m,WalkAt w X A ps.length c k m∧WOk ps k m∧l=remS ps k m
theorem Wk.kept{w w':World}{X:Nat}{A:Option Addr}{c:Nat}{ps:List PartD}{l:List (Int × Int)}(h:Wk w X A c ps l)(hb:w'.heap[X]?=w.heap[X]?):Wk w' X A c ps l:=by
 obtain⟨k,m,h1,h2⟩:=h;exact⟨k,m,hb.trans h1,h2⟩
theorem Wk.lt{w:World}{X:Nat}{A:Option Addr}{c:Nat}{ps:List PartD}{l:List (Int × Int)}(h:Wk w X A c ps l):X<w.heap.size:=by
 obtain⟨k,m,h1,_⟩:=h;exact(Array.getElem?_eq_some_iff.1 h1).1
def Parts (w:World) (X:Nat) (A:OA_) (ps:LP_) (k n:Int) (s:ByteArray) (b:Bool):Prop:=
 ∀W,W.heap[X]?=w.heap[X]?→OpIn (· <W.heap.size) W A ps→Calls Tryz.prog 142 #[.pointer (some ⟨X,0,none⟩)] W (R_ W (.tuple #[partV k n s,.bool b]))
def Passes (w:World) (X:Nat) (A:OA_) (c:Nat) (ps:LP_) (j:Nat) (l:List (Int × Int)):Prop:=
 ∀W,W.heap[X]?=w.heap[X]?→OpIn (· <W.heap.size) W A ps→Calls Tryz.prog 144 #[.pointer (some ⟨X,0,none⟩),.int .i64 j] W fun e w'=>e= .returned (.tuple #[])∧Wk w' X A c ps l∧Only X W w'
section
variable {w:World}{X:Nat}{A:Option Addr}{c:Nat}{ps:List PartD}{l:List (Int × Int)}
theorem yr_{k m j sz:Nat}(hok:okParts ps)(hlen:ps.length≤1048576)(hX:WalkAt w X A ps.length c k m)(hw:WOk ps k m)(hk:k<ps.length)(hj:j≤4000){pk pn:Int}{pt:ByteArray}(hsz:m+sz=(partSteps ps[k]).length)(hjs:j≤sz)
 (HP:Parts w X A ps pk pn pt true) (HS: ∀W,Calls Tryz.prog 126 #[partV pk pn pt] W (R_ W (.int .i64 sz))):Passes w X A c ps j ((remS ps k m).drop j):=by
 intro W hW hop;have hm:=hw.lt hk;have hb:=(ea_ (ek_ hok _ (List.getElem_mem hk))).2;have hX':WalkAt W X A ps.length c k m:=hW.trans hX;by_cases he:j=sz
 ·obtain⟨h1,h2⟩:=WOk.next (j:=j) (k':=k+1) (m':=0) hok hw hk (by omega) (.inl ⟨by omega,rfl,rfl⟩);refine(bfm_ W X A c k m ps.length j sz (by omega) (by omega) (by omega) hX' pk pn pt true (by rw [he];simp) (h_ (HP W hW hop)) (h_ HS)).mono ?_;rintro e w' ⟨rfl,h3,h4⟩;exact⟨rfl,⟨_,_,h3,h1,h2.symm⟩,h4⟩
 ·obtain⟨h1,h2⟩:=WOk.next (j:=j) (k':=k) (m':=m+j) hok hw hk (by omega) (.inr ⟨by omega,rfl,rfl⟩);refine(bhf_ W X A c k m ps.length j sz (by omega) (by omega) (by omega) hX' pk pn pt true (by simp;omega) (h_ (HP W hW hop)) (h_ HS)).mono ?_;rintro e w' ⟨rfl,h3,h4⟩;exact⟨rfl,⟨_,_,h3,h1,h2.symm⟩,h4⟩
theorem Wk.view(hok:okParts ps)(hlen:ps.length≤1048576)(ht: ∀p∈ps,p.text.size≤1048576)(h:Wk w X A c ps l):
 (l= []∧Parts w X A ps 0 0 ⟨#[]⟩ false)∨
 (∃Y l',Y≠ []∧(∀r∈Y,Scal r)∧Y.length≤4000∧l=insS Y++l'∧Parts w X A ps 2 0 (runesBytes Y) true∧ ∀j,j≤Y.length→Passes w X A c ps j (insS (Y.drop j)++l'))∨
 (∃(q:Int) (n:Nat) (l':List (Int × Int)),(q=1∨q=3)∧0<n∧n≤4000∧l=othS q n++l'∧Parts w X A ps q n ⟨#[]⟩ true∧ ∀j,j≤n→Passes w X A c ps j (othS q (n - j)++l')):=by
 obtain⟨k,m,hX,hw,rfl⟩:=h;rcases hw.cases hok with⟨hk,hr⟩ | ⟨hk,Y,h2,hY,hsc,hY4,hr,hh⟩ | ⟨hk,q,n,h2,hq,hn0,hn4,hr,hh⟩
 ·refine .inl ⟨hr,fun W hW hop=>?_⟩;have hX':WalkAt W X A ps.length c k m:=hW.trans hX;subst hk;exact bfi_ W X A c m ps.length hX'
 ·have hm:=hw.lt hk;have hYl:m+Y.length=(partSteps ps[k]).length:=by
   have h1:=hr;rw [gv_ hk (Nat.le_of_lt hm)]at h1;have h2:=congrArg List.length h1;simp only [List.length_append,insS,List.length_map,List.length_drop]at h2;omega
  have hP:Parts w X A ps 2 0 (runesBytes Y) true:=fun W hW hop=>by
   have hX':WalkAt W X A ps.length c k m:=hW.trans hX;have h3:=bfj_ W X A c k m ps hX' hop hk h2 (ht _ (List.getElem_mem hk)) (by rw [ee_ h2]at hm;simpa [insS]using hm);rw [rm_ h2,PartD.mk.injEq]at hh;rw [hh.1,hh.2.1,hh.2.2]at h3;exact h3
  refine .inr (.inl ⟨Y,_,hY,hsc,hY4,hr,hP,fun j hj=>?_⟩);have h4:=yr_ (j:=j) (sz:=Y.length) hok hlen hX hw hk (by omega) hYl hj hP (fun W=>by
   have h5:=gh_ 0 (runesBytes Y) W (by have:=(cz_ Y).2;omega);rwa [←bo_,gp_ Y hsc]at h5)
  rwa [hr,List.drop_append_of_le_length (by simpa [insS]using hj),show(insS Y).drop j=insS (Y.drop j) by simp [insS]]at h4
 ·have hm:=hw.lt hk;have hYl:m+n=(partSteps ps[k]).length:=by
   have h1:=hr;rw [gv_ hk (Nat.le_of_lt hm)]at h1;have h2:=congrArg List.length h1;simp only [List.length_append,othS,List.length_replicate,List.length_drop]at h2;omega
  have hP:Parts w X A ps q n ⟨#[]⟩ true:=fun W hW hop=>by
   have hX':WalkAt W X A ps.length c k m:=hW.trans hX;have hf:=ek_ hok _ (List.getElem_mem hk);obtain⟨_,h5,h6,_⟩:=di_ hf h2;have hb:=(ea_ hf).2;have h3:=bfl_ W X A c k m ps hX' hop hk h2 (by omega) (by omega) (by omega);rw [rn_ h2,PartD.mk.injEq]at hh;rw [hh.1,hh.2.1,hh.2.2]at h3;exact h3
  refine .inr (.inr ⟨q,n,_,hq,hn0,hn4,hr,hP,fun j hj=>?_⟩);have h4:=yr_ (j:=j) (sz:=n) hok hlen hX hw hk (by omega) hYl hj hP (fun W=>bfv_ q n ⟨#[]⟩ W (by rcases hq with rfl | rfl <;> rfl));rwa [hr,List.drop_append_of_le_length (by simpa [othS]using hj),show(othS q n).drop j=othS q (n - j) by simp [othS]]at h4
end
def bothErr (x y:LP_):Int:=if opFault x≠0 then opFault x else if opFault y≠0 then opFault y else if(lens x).1≠(lens y).1 then 10 else 0
theorem bbw_(w:World)(A B:OA_)(c d:Nat)(x y:LP_)(hT:Tabs w)(hx:OpIn (· <w.heap.size) w A x)(hy:OpIn (· <w.heap.size) w B y)(hxl:x.length≤1048576)(hyl:y.length≤1048576)(hxt: ∀p∈x,p.text.size≤1048576)(hyt: ∀p∈y,p.text.size≤1048576):
 Calls Tryz.prog 141 #[.slice A x.length c,.slice B y.length d] w (R_ w (.int .i64 (bothErr x y))):=by
 have HX:=h_ (bt_ w A c x hT hx hxl hxt);have HY:=h_ (fun W hT hs=>bt_ W B d y hT hs hyl hyt);have HLX:=h_ (fun W hs=>cs_ W A c x hs hxl hxt);have HLY:=h_ (fun W hs=>cs_ W B d y hs hyl hyt);have HT:=h_ hT;clear hT hxl hyl hxt hyt;unfold bothErr;by_cases h1:opFault x=0
 ·rw [if_neg (by simpa using h1)];rw [h1]at HX;by_cases h2:opFault y=0
  ·rw [if_neg (by simpa using h2)];rw [h2]at HY;by_cases h3:(lens x).1=(lens y).1
   ·rw [if_neg (by simpa using h3)];have e3:((lens x).1 !=(lens y).1)=false:=(by simpa using h3);exact m139_
   ·rw [if_pos h3];have e3:((lens x).1 !=(lens y).1)=true:=(by simpa using h3);exact m139_
  ·rw [if_pos h2];have e2:(opFault y !=0)=true:=(by simpa using h2);generalize opFault y=z at*;clear h1 h2 HLX HLY;go_enter Tryz.func141,Tryz.ntmps141
   go_wp2_with fail
   refine HX.o.mono ?_;rintro e w1 ⟨rfl,hb1⟩;go_wp2_with fail
   refine(HY.o _ (HT.o.la hb1) (Sl.la hy hb1)).mono ?_;rintro e w2 ⟨rfl,hb2⟩;go_wp2_with fail
   go_ret
   exact⟨rfl,bThen hb1 hb2⟩
 ·rw [if_pos h1];have e1:(opFault x !=0)=true:=by simpa using h1
  generalize opFault x=z at*;clear h1 HLX HLY HY;go_enter Tryz.func141,Tryz.ntmps141
  go_wp2_with fail
  refine HX.o.mono ?_;rintro e w1 ⟨rfl,hb1⟩;go_wp2_with fail
  go_ret
  exact⟨rfl,hb1⟩
def fitsErr (x y:LP_):Int:=if opFault x≠0 then opFault x else opFault y
def fitsV (n:Int) (u v:Value):Value:=if n=0 then .tuple #[u,v,.int .i64 0]else .tuple #[.slice none 0 0,.slice none 0 0,.int .i64 n]
theorem nc_{n:Int}(h: ¬n=0)(u v:Value):fitsV n u v= .tuple #[.slice none 0 0,.slice none 0 0,.int .i64 n]:=if_neg h
theorem vd_(u v:Value):fitsV 0 u v= .tuple #[u,v,.int .i64 0]:=rfl
def RetTwo (w:World) (x y:LP_) (er:Int) (e:Ending) (w':World):Prop:=
 ∃A c B d,e= .returned (.tuple #[.slice A x.length c,.slice B y.length d,.int .i64 er])∧OpIn (fun b=>w.heap.size≤b∧b<w'.heap.size) w' A x∧OpIn (fun b=>w.heap.size≤b∧b<w'.heap.size) w' B y∧Below w.heap.size w w'
theorem bhn_(w:World)(A B:OA_)(c d:Nat)(x y:LP_)(hT:Tabs w)(hx:OpIn (· <w.heap.size) w A x)(hy:OpIn (· <w.heap.size) w B y)(hxl:x.length≤1048576)(hyl:y.length≤1048576)(hxt: ∀p∈x,p.text.size≤1048576)(hyt: ∀p∈y,p.text.size≤1048576):
 Calls Tryz.prog 143 #[.slice A x.length c,.slice B y.length d] w (R_ w (fitsV (fitsErr x y) (.slice A x.length c) (.slice B y.length d))):=by
 have HX:=h_ (fun W hT hs=>bt_ W A c x hT hs hxl hxt);have HY:=h_ (fun W hT hs=>bt_ W B d y hT hs hyl hyt);have HT:=h_ hT;have HSX:=h_ hx;have HSY:=h_ hy;clear hT hxl hyl hxt hyt hx hy;have hW0: ∀wr,Below (w.alloc (.cells #[.slice A x.length c,.slice B y.length d] 30)).heap.size (w.alloc (.cells #[.slice A x.length c,.slice B y.length d] 30)) wr→Below w.heap.size w wr:=fun wr h=>bThen bA_ h;go_enter Tryz.func143,Tryz.ntmps143
 go_wp2_with fail
 go_loopw [4,5,6,14] (fun r1 r2 r3 i wr=> ∃(k:Nat),k≤2∧i= .int .i64 k∧r1= .slice none 0 0∧r2= .slice none 0 0∧r3= .int .i64 0∧Hid ((0<k→opFault x=0)∧(1<k→opFault y=0))∧Below (w.alloc (.cells #[.slice A x.length c,.slice B y.length d] 30)).heap.size (w.alloc (.cells #[.slice A x.length c,.slice B y.length d] 30)) wr)
  (fun _ _ _ i _=>2 - (intOf i).toNat)
 case atStart=>exact⟨0,by omega,rfl,rfl,rfl,rfl,⟨by omega,by omega⟩,Below.refl _ _⟩
 case round=>
  obtain⟨k,hk,rfl,rfl,rfl,rfl,hok,hbw⟩:=hrel;have q0:wr.cell? ⟨w.heap.size,0,none⟩=some (.slice A x.length c):=(hbw.cell (p:=⟨w.heap.size,0,none⟩) (by simp)).trans (by simp [go_sem]);have q1:wr.cell? ⟨w.heap.size,1,none⟩=some (.slice B y.length d):=(hbw.cell (p:=⟨w.heap.size,1,none⟩) (by simp)).trans (by simp [go_sem]);have hwr:=hW0 wr hbw;have HW:=h_ hbw;clear hbw;rcases(show k=0∨k=1∨k=2 by omega)with rfl | rfl | rfl
  ·have HC:=h_ HX.o;by_cases hx:opFault x=0
   ·rw [hx]at HC;have hr:Hid ((0<1→opFault x=0)∧(1<1→opFault y=0)):=⟨fun _=>hx,by omega⟩
    clear hx hok;go_wp2_with fail
    refine(HC.o _ (HT.o.la hwr) (Sl.la HSX.o hwr)).mono ?_;rintro e w1 ⟨rfl,hb1⟩;obtain⟨⟨d1,os1⟩,rfl⟩:=e_ hb1;go_wp2_with fail
    go_roundw
    case rel=>exact⟨1,by omega,by go_num,rfl,rfl,rfl,hr,bThen HW.o bz_⟩
    case measure=>simp [intOf]
   ·have hz:=h_ (show fitsErr x y=opFault x from if_pos hx);have hnz:=h_ (show¬opFault x=0 from hx);have hne:(opFault x !=0)=true:=(by simpa using hx);clear hok;generalize opFault x=z at*;clear hx;go_wp2_with fail
    refine(HC.o _ (HT.o.la hwr) (Sl.la HSX.o hwr)).mono ?_;rintro e w1 ⟨rfl,hb1⟩;obtain⟨⟨d1,os1⟩,rfl⟩:=e_ hb1;go_wp2_with fail
    go_ret3
    rw [hz.o,nc_ hnz.o];exact⟨rfl,bThen hwr bz_⟩
  ·have HC:=h_ HY.o;have hf0:=hok.o.1 (by omega);by_cases hx:opFault y=0
   ·rw [hx]at HC;have hr:Hid ((0<2→opFault x=0)∧(1<2→opFault y=0)):=⟨fun _=>hf0,fun _=>hx⟩
    clear hx hok hf0;go_wp2_with fail
    refine(HC.o _ (HT.o.la hwr) (Sl.la HSY.o hwr)).mono ?_;rintro e w1 ⟨rfl,hb1⟩;obtain⟨⟨d1,os1⟩,rfl⟩:=e_ hb1;go_wp2_with fail
    go_roundw
    case rel=>exact⟨2,by omega,by go_num,rfl,rfl,rfl,hr,bThen HW.o bz_⟩
    case measure=>simp [intOf]
   ·have hz:=h_ (show fitsErr x y=opFault y from if_neg (by simpa using hf0));have hnz:=h_ (show¬opFault y=0 from hx);have hne:(opFault y !=0)=true:=(by simpa using hx);clear hok;generalize opFault y=z at*;clear hx hf0;go_wp2_with fail
    refine(HC.o _ (HT.o.la hwr) (Sl.la HSY.o hwr)).mono ?_;rintro e w1 ⟨rfl,hb1⟩;obtain⟨⟨d1,os1⟩,rfl⟩:=e_ hb1;go_wp2_with fail
    go_ret3
    rw [hz.o,nc_ hnz.o];exact⟨rfl,bThen hwr bz_⟩
  ·have hz:=h_ (show fitsErr x y=0 from(if_neg (by simpa using hok.o.1 (by omega))).trans (hok.o.2 (by omega)));clear hok;go_wp2_with fail
   go_ret3
   rw [hz.o,vd_];exact⟨rfl,hwr⟩
end Go.Proofs.YtacacoklddogmaaGreatDoor
namespace Go.Proofs.YtacacoklddogmaaGreatDoor
set_option maxHeartbeats 4000000
open Go.ChangeShapes Go.WideShapes Go.ChangeAt Go.RowKit Go.Joins Go.Deep
set_option maxRecDepth 100000
theorem list9{α:Type}{l:List α}(h:l.length=9): ∃a b c d e f g i j,l= [a,b,c,d,e,f,g,i,j]:=by
 match l,h with
 | [a,b,c,d,e,f,g,i,j],_=>exact⟨a,b,c,d,e,f,g,i,j,rfl⟩
section
variable {H:Type}{enc:TypeId × Value→H}{w:World}{m:Nat}
theorem xr_{cs:List Value}{y:DataW H × List MemPlace}(h:DataW.trod enc Tryz.prog w 0 (fun _=>true) true m 48 cs=some y)(hb:Rows.uptoBulk y.1≤1048576):
 ∃(ep nu:Int) (b:Bool) (ak k hd e:Int) (A:OA_) (c:Nat) (ps:LP_) (s:ByteArray),cs= [.int .i64 ep,.int .i64 nu,.bool b,.int .i64 ak,.int .i64 k,.int .i64 hd,.int .i64 e,.slice A ps.length c,.string s]∧
  (ps.length≤c∧c≤9223372036854775807∧OpIn (· <w.heap.size) w A ps∧ps.length≤1048576∧ ∀p∈ps,p.Fit)∧s.size≤1048576:=by
 obtain⟨ys,n,_,hy,hlen,hyl,hf⟩:=DataW.trod_struct Tryz.underlying48 h;rw [show Tryz.prog.cellsOf 48=9 by kernel_rfl]at hlen;obtain⟨c0,c1,c2,c3,c4,c5,c6,c7,c8,rfl⟩:=list9 hlen;obtain⟨y0,y1,y2,y3,y4,rfl⟩:=list5 hyl;have h0:DataW.trod enc Tryz.prog w 0 (fun _=>true) true n 3 ((List.drop 0 [c0,c1,c2,c3,c4,c5,c6,c7,c8]).take (Tryz.prog.cellsOf 3))=some y0:=hf 0 _ rfl;have h1:DataW.trod enc Tryz.prog w 0 (fun _=>true) true n 3 ((List.drop 1 [c0,c1,c2,c3,c4,c5,c6,c7,c8]).take (Tryz.prog.cellsOf 3))=some y1:=hf 1 _ rfl;have h2:DataW.trod enc Tryz.prog w 0 (fun _=>true) true n 4 ((List.drop 2 [c0,c1,c2,c3,c4,c5,c6,c7,c8]).take (Tryz.prog.cellsOf 4))=some y2:=hf 2 _ rfl;have h3:DataW.trod enc Tryz.prog w 0 (fun _=>true) true n 3 ((List.drop 3 [c0,c1,c2,c3,c4,c5,c6,c7,c8]).take (Tryz.prog.cellsOf 3))=some y3:=hf 3 _ rfl;have h4:DataW.trod enc Tryz.prog w 0 (fun _=>true) true n 46 ((List.drop 4 [c0,c1,c2,c3,c4,c5,c6,c7,c8]).take (Tryz.prog.cellsOf 46))=some y4:=hf 4 _ rfl;rw [show Tryz.prog.cellsOf 3=1 by kernel_rfl]at h0 h1 h3;rw [show Tryz.prog.cellsOf 4=1 by kernel_rfl]at h2;rw [show Tryz.prog.cellsOf 46=5 by kernel_rfl]at h4;have h0':DataW.trod enc Tryz.prog w 0 (fun _=>true) true n 3 [c0]=some y0:=h0;have h1':DataW.trod enc Tryz.prog w 0 (fun _=>true) true n 3 [c1]=some y1:=h1;have h2':DataW.trod enc Tryz.prog w 0 (fun _=>true) true n 4 [c2]=some y2:=h2;have h3':DataW.trod enc Tryz.prog w 0 (fun _=>true) true n 3 [c3]=some y3:=h3;have h4':DataW.trod enc Tryz.prog w 0 (fun _=>true) true n 46 [c4,c5,c6,c7,c8]=some y4:=h4;obtain⟨ep,rfl,_⟩:=cj_ Tryz.underlying3 h0';obtain⟨nu,rfl,_⟩:=cj_ Tryz.underlying3 h1';obtain⟨b,e2,_⟩:=DataW.trod_bool Tryz.underlying4 h2';have e2':c2= .bool b:=by simpa using e2
 subst e2';obtain⟨ak,rfl,_⟩:=cj_ Tryz.underlying3 h3';have hb4:Rows.uptoBulk y4.1≤1048576:=by
  rw [hy]at hb;exact cg_ (ys:= [y0,y1,y2,y3,y4]) rfl hb (j:=4) rfl
 obtain⟨k,hd,e,A,c,ps,s,hcs,_,_,_,h5,h6⟩:=pb_ h4' hb4;injection hcs with e4 hcs
 injection hcs with e5 hcs
 injection hcs with e6 hcs
 injection hcs with e7 hcs
 injection hcs with e8 hcs
 subst e4 e5 e6 e7 e8;exact⟨ep,nu,b,ak,k,hd,e,A,c,ps,s,rfl,h5,h6⟩
end
end Go.Proofs.YtacacoklddogmaaGreatDoor
