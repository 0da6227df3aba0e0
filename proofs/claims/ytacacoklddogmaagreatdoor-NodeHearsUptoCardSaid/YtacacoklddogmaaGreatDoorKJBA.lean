/- Lemmas. -/
import Derived.Test.YtacacoklddogmaaGreatDoorKJAD
import Derived.BigRegion
namespace Go.Proofs.YtacacoklddogmaaGreatDoor
set_option maxHeartbeats 4000000
open Go.ChangeShapes Go.WideShapes Go.ChangeAt Go.RowKit
set_option maxRecDepth 100000
theorem m237_{P:Prop}(h:P:=by
 show(s.n.S.map SideV.d).getD i default=_;rw [ci_,List.getD_eq_getElem?_getD,List.getElem?_eq_getElem hi];rfl):P:=h
section
variable {zs:List Int}{n:NodeV}(h:nodeFault zs n=0)
include zs n h
theorem dg_:nodeMay zs n:=by
 unfold nodeFault at h;split at h
 ·exact absurd h (by assumption)
 ·split at h
  ·assumption
  ·cases h
theorem dd_: ∀x∈n.S,linkMay x.k:=by
 intro x hx;obtain⟨i,hi,rfl⟩:=List.mem_iff_getElem.1 hx;exact((dg_ h).2.2.2.1 i hi).2.1.2
end
theorem bbd_(w:World)(s h0:Int)(A:OA_)(c:Nat)(L:List OpV)(HT:Hid (Tabs w))(HS:Hid (OpsIn w A L))(HM:Hid (∀o∈L,o.Small))(B:OA_)(cc:Nat)(ps:LP_)(HP:Hid (OpIn (· <w.heap.size) w B ps))(hd:Int)(hw:wrap64 (s - (L.length:Int))=s - L.length)(_f1:decide (hd<s - (L.length:Int))=false)(_f2:decide (s<hd)=false)(_f3:(h0==1048576)=false)(K:Nat)(hK:K<=L.length)(hK1:wrap64 (hd - (s - (L.length:Int)))=(K:Int))(hh1:wrap64 (h0+1)=h0+1)(hsp:SmallD ps)(_hLm:L.length<=1048576)(HC:Hid (∀W,Tabs W->OpsIn W A L->(∀o∈L,o.Small)->Calls Tryz.prog 122 #[edgeV s h0 A L.length c] W (R_ W (.int .i64 0))))(HF:Hid (∀W,Tabs W->OpIn (· <W.heap.size) W B ps->Calls Tryz.prog 96 #[.slice B ps.length cc] W (R_ W (.int .i64 0))))(HO:Hid (∀W,OpsIn W A L->Calls Tryz.prog 127 #[edgeV s h0 A L.length c] W (RetEdge W s h0 L)))(HD:Hid (∀W,OpIn (· <W.heap.size) W B ps->Calls Tryz.prog 100 #[.slice B ps.length cc] W fun e w'=> ∃A2 c2,e= .returned (.slice A2 ps.length c2)∧w'.ownsRow W.heap.size 73 3 (.slice A2 ps.length c2) ps.length (opCells ps)∧Below W.heap.size W w')):
 Calls Tryz.prog 132 #[edgeV s h0 A L.length c,.slice B ps.length cc,.int .i64 hd,.bool false] w (RetHear w (hearOut s (h0+1) (hearG false [] ps ((L.map OpV.ps).drop K)))):=by
 have vW:=h_ trivial;exact m13_
def hearAns (s h:Int) (L:List OpV) (x:LP_) (heard:Int) (up:Bool):Int × Int × List (List PartD) × List PartD × Int:=
 if¬edgeMay s h L then(0,0,[],[],9)else if opFault x≠0 then(0,0,[],[],opFault x)else if heard<s - L.length∨s<heard then(0,0,[],[],2)else if h=1048576 then(0,0,[],[],8)
 else hearOut s (h+1) (hearG up [] x ((L.map OpV.ps).drop (heard - (s - L.length)).toNat))
theorem RetHear.no{w:World}{er:Int}{e:Ending}{w':World}(h:e= .returned (.tuple #[edgeV 0 0 none 0 0,.slice none 0 0,.int .i64 er])∧Below w.heap.size w w'):RetHear w (0,0,[],[],er) e w':=
 ⟨none,0,[],none,0,h.1,rfl,⟨Sl.nil,by simp⟩,Sl.nil,h.2⟩
theorem fm_{x:Int}(h1: -1048576<=x)(h2:x<=4194304):wrap64 x=x:=by
 unfold wrap64;omega
section
variable(w:World) (s h:Int) (A:OA_) (c:Nat) (L:List OpV) (hT:Tabs w) (hs:OpsIn w A L) (hm: ∀o∈L,o.Small) (hll:L.length<=1048576) (B:OA_) (cc:Nat) (ps:LP_) (hop:OpIn (· <w.heap.size) w B ps) (hsp:SmallD ps) (hd:Int) (up:Bool)
include w s h A c L hT hs hm hll B cc ps hop hsp hd up
theorem bgb_:
 Calls Tryz.prog 132 #[edgeV s h A L.length c,.slice B ps.length cc,.int .i64 hd,.bool up] w (RetHear w (hearAns s h L ps hd up)):=by
 have HC:=fun W hT hs hm=>ij_ W s h A c L hT hs hm;have HF:=fun W hT hs=>bt_ W B cc ps hT hs hsp.1 hsp.2;unfold hearAns;by_cases h1:edgeMay s h L
 ·rw [if_neg (fun k=>k h1)];rw [show edgeErr s h L=0 from if_pos h1]at HC;obtain⟨⟨⟨a1,a2⟩,a3,a4⟩,a5,_⟩:=h1;have hw:wrap64 (s - (L.length:Int))=s - L.length:=fm_ (by omega) (by omega);by_cases h2:opFault ps=0
  ·rw [if_neg (fun k=>k h2)];rw [h2]at HF;by_cases h3:hd<s - (L.length:Int)
   ·rw [if_pos (.inl h3)];exact(bbe_ w s h A c L hT hs hm B cc ps hop hd up hw (by simpa using h3) HC HF).mono fun _ _ k=> .no k
   by_cases h4:s<hd
   ·rw [if_pos (.inr h4)];exact(zc_ w s h A c L hT hs hm B cc ps hop hd up hw (by simpa using h3) (by simpa using h4) HC HF).mono fun _ _ k=> .no k
   rw [if_neg (by omega)];by_cases h5:h=1048576
   ·rw [if_pos h5];exact(zb_ w s h A c L hT hs hm B cc ps hop hd up hw (by simpa using h3) (by simpa using h4) (by simpa using h5) HC HF).mono fun _ _ k=> .no k
   rw [if_neg h5];obtain⟨K,hK⟩: ∃K:Nat,hd - (s - (L.length:Int))=K:=⟨(hd - (s - (L.length:Int))).toNat,by omega⟩
   rw [hK,Int.toNat_natCast];cases up
   ·exact bbd_ w s h A c L hT hs hm B cc ps hop hd hw (by simpa using h3) (by simpa using h4) (by simpa using h5) K (by omega) (by rw [hK];exact fm_ (by omega) (by omega)) (fm_ (by omega) (by omega)) hsp hll HC HF (fun W hs=>own_c W s h A c L hs hll hm) (fun W hs=>dj_ W B cc ps hs hsp.1)
   ·exact bea_ w s h A c L hT hs hm B cc ps hop hd hw (by simpa using h3) (by simpa using h4) (by simpa using h5) K (by omega) (by rw [hK];exact fm_ (by omega) (by omega)) (fm_ (by omega) (by omega)) hsp hll HC HF (fun W hs=>own_c W s h A c L hs hll hm) (fun W hs=>dj_ W B cc ps hs hsp.1)
  ·rw [if_pos h2];exact(wu_ w s h A c L hT hs hm B cc ps hop hd up _ (by simpa using h2) HC HF).mono fun _ _ k=> .no k
 ·rw [if_pos h1];rw [show edgeErr s h L=9 from if_neg h1]at HC;exact(wv_ w s h A c L hT hs hm B cc ps hop hd up HC).mono fun _ _ k=> .no k
theorem beb_:
 Calls Tryz.prog 118 #[edgeV s h A L.length c,.slice B ps.length cc,.int .i64 hd,.bool up] w (RetHear w (hearAns s h L ps hd up)):=by
 have HC:=fun W hT hs hm=>jx_ W s h A c L hT hs hm;have HF:=fun W hT hs=>bk_ W B cc ps hT hs hsp.1 hsp.2;unfold hearAns;by_cases h1:edgeMay s h L
 ·rw [if_neg (fun k=>k h1)];rw [show edgeB s h L=true from decide_eq_true h1]at HC;obtain⟨⟨⟨a1,a2⟩,a3,a4⟩,a5,_⟩:=h1;have hw:wrap64 (s - (L.length:Int))=s - L.length:=fm_ (by omega) (by omega);by_cases h2:opFault ps=0
  ·rw [if_neg (fun k=>k h2)];rw [h2]at HF;by_cases h3:hd<s - (L.length:Int)
   ·rw [if_pos (.inl h3)];exact(ze_ w s h A c L hT hs hm B cc ps hop hd up hw h3 HC HF).mono fun _ _ k=> .no k
   by_cases h4:s<hd
   ·rw [if_pos (.inr h4)];exact(wx_ w s h A c L hT hs hm B cc ps hop hd up hw h4 HC HF).mono fun _ _ k=> .no k
   rw [if_neg (by omega)];by_cases h5:h=1048576
   ·rw [if_pos h5];exact(ww_ w s h A c L hT hs hm B cc ps hop hd up hw (by omega) (by omega) (by simp;omega) HC HF).mono fun _ _ k=> .no k
   rw [if_neg h5];obtain⟨K,hK⟩: ∃K:Nat,hd - (s - (L.length:Int))=K:=⟨(hd - (s - (L.length:Int))).toNat,by omega⟩
   rw [hK,Int.toNat_natCast];cases up
   ·exact zd_ w s h A c L hT hs hm B cc ps hop hd hw (by omega) (by omega) (by simp;omega) K (by omega) (h_ (by omega)) a1 a2 a5 (fm_ (by omega) (by omega)) hsp HC HF
   ·exact bbf_ w s h A c L hT hs hm B cc ps hop hd hw (by omega) (by omega) (by simp;omega) K (by omega) (h_ (by omega)) a1 a2 a5 (fm_ (by omega) (by omega)) hsp HC HF
  ·rw [if_pos h2];exact(tn_ w s h A c L hT hs hm B cc ps hop hd up _ (by simpa using h2) (by simpa using h2) HC HF).mono fun _ _ k=> .no k
 ·rw [if_pos h1];rw [show edgeB s h L=false from decide_eq_false h1]at HC;exact(to_ w s h A c L hT hs hm B cc ps hop hd up HC).mono fun _ _ k=> .no k
end
def overG:List PartD->List (List PartD)->Nat->List (List PartD)
 | _,U,0=>U
 | o,U,i+1=>if trE o (U.getD i [])=0 then overG (trL o (U.getD i [])) (U.set i (trR o (U.getD i []))) i else []
section
variable {o:List PartD}{U:List (List PartD)}{i:Nat}
include o U i
theorem jl_(h:trE o (U.getD i [])=0):overG o U (i+1)=overG (trL o (U.getD i [])) (U.set i (trR o (U.getD i []))) i:=by
 show(if _ then _ else _)=_;rw [if_pos h]
theorem jm_(h:trE o (U.getD i [])≠0):overG o U (i+1)= []:=by
 show(if _ then _ else _)=_;rw [if_neg h]
end
def overDD (o:LP_) (D:EdD):EdD:=⟨⟨D.n.me,D.n.ep,D.n.up,D.n.rd,D.n.t,D.n.S,overG o D.n.U D.n.U.length,D.n.M⟩,D.L,D.R⟩
def edgeHD (D:EdD) (i:Nat) (es eh:Int) (L:List (List PartD)):EdD:=
 ⟨⟨D.n.me,D.n.ep,D.n.up,D.n.rd,D.n.t,D.n.S.set i ⟨(D.n.S.getD i default).p,(D.n.S.getD i default).j,es,eh,L,(D.n.S.getD i default).k⟩,D.n.U,D.n.M⟩,D.L,D.R⟩
def linkDD (D:EdD) (i:Nat) (k:LinkD) (P:List PacketD):EdD:=
 ⟨⟨D.n.me,D.n.ep,D.n.up,D.n.rd,D.n.t,D.n.S.set i ⟨(D.n.S.getD i default).p,(D.n.S.getD i default).j,(D.n.S.getD i default).s,(D.n.S.getD i default).h,(D.n.S.getD i default).L,k⟩,D.n.U,D.n.M⟩,D.L++P.map (PostD.mk (D.n.S.getD i default).p),D.R⟩
noncomputable def hearAnsD (s h:Int) (L:List (List PartD)) (x:LP_) (heard:Int) (up:Bool):Int × Int × List (List PartD) × List PartD × Int:=by
 classical
 exact hearAns s h (opsV L) x heard up
noncomputable def heardDD (D:EdD) (i:Nat) (f:FrameD):EdD:=
 let a:=hearAnsD (D.n.S.getD i default).s (D.n.S.getD i default).h (D.n.S.getD i default).L f.op f.heard (decide (D.n.me=0) || decide (0<i))
 if a.2.2.2.2≠0 then D else if applyErr D.n.t a.2.2.2.1≠0 then D
 else spreadD a.2.2.2.1 i (overDD a.2.2.2.1 (shiftD false a.2.2.2.1 (textD (edgeHD D i a.1 a.2.1 a.2.2.1) (applyText D.n.t a.2.2.2.1))))
def wholeDD (D:EdD) (t:ByteArray):EdD:=
 ⟨⟨D.n.me,D.n.ep,D.n.up,true,t,D.n.S.set 0 ⟨(D.n.S.getD 0 default).p,true,(D.n.S.getD 0 default).s,(D.n.S.getD 0 default).h,(D.n.S.getD 0 default).L,(D.n.S.getD 0 default).k⟩,D.n.U,D.n.M⟩,D.L,D.R⟩
noncomputable def toldDD (D:EdD) (i:Nat) (f:FrameD):EdD:=
 if f.kind=1∧(D.n.S.getD i default).j=true then heardDD D i f
 else if f.kind=3∧i=0∧0<D.n.me∧(D.n.S.getD i default).j=false∧f.epoch=D.n.ep then wholeDD D f.text else D
noncomputable def sessDD (D:EdD) (i:Nat) (p:PacketD):EdD:=
 let D1:=linkDD D i (fillL (nextL (D.n.S.getD i default).k p)) (heardPk (D.n.S.getD i default).k p)
 if isNext (D.n.S.getD i default).k p then toldDD D1 i p.frame else D1
def openL (e:Int):LinkV:=⟨e,1,none,0,[],none,0,[],0⟩
noncomputable def joinedDD (D:EdD) (i:Nat) (p:PacketD):EdD:=
 sendDD (sessDD ⟨⟨D.n.me,D.n.ep,D.n.up,D.n.rd,D.n.t,D.n.S.set i ⟨(D.n.S.getD i default).p,true,0,0,[],(openL p.epoch).d⟩,D.n.U,D.n.M⟩,D.L,D.R⟩ i p) i ⟨3,0,p.epoch,[],D.n.t⟩
def awayN (n:NodeD) (up:Int):NodeD:=⟨n.me,if n.ep<1048575 then n.ep+1 else n.ep,up,false,⟨#[]⟩,n.S.map (fun x=>⟨x.p,false,0,0,[],⟨0,1,[],[],0⟩⟩),[],[]⟩
def Turns (T:TypeId) (base X:Nat) (W:World) (s:EdV) (W':World) (s':EdV):Prop:=EdAt T W' base X s'∧Below base W W'∧Stay W X s W' s'
section
variable {T:TypeId}{W W1 W':World}{base X:Nat}{s s1 s':EdV}
theorem Turns.trans(h:Turns T base X W s W1 s1)(k:Turns T base X W1 s1 W' s'):Turns T base X W s W' s':=⟨k.1,h.2.1.trans k.2.1,h.2.2.trans k.2.2⟩
theorem Turns.of_below(h:EdAt T W base X s)(hb:Below W.heap.size W W'):Turns T base X W s W' s:=⟨h.la hb,hb.mono h.base_le,Stay.of_below hb⟩
theorem Turns.la(h:Turns T base X W s W1 s1)(hb:Below W1.heap.size W1 W'):Turns T base X W s W' s1:=h.trans (Turns.of_below h.1 hb)
theorem EdAt.put(hT:TurnT T)(h:EdAt T W base X s)(hO:Only X W W'){n':NodeV}(hn:n'.sA=s.n.sA∧n'.sc=s.n.sc∧n'.S=s.n.S)
 (hm:(n'.mA=s.n.mA∧n'.mc=s.n.mc∧n'.M=s.n.M)∨n'.mA=none∧n'.mc=0∧n'.M= []) (hu:(n'.uA=s.n.uA∧n'.uc=s.n.uc∧n'.U=s.n.U)∨n'.uA=none∧n'.uc=0∧n'.U= [])
 (hb:W'.heap[X]?=some (.cells (turnCells n' (.slice s.A s.L.length s.c) (.slice s.RA s.RL.length s.rc)) T (0,0))):Turns T base X W s W' ⟨n',s.A,s.c,s.L,s.RA,s.rc,s.RL⟩:=by
 have hmo: ∀b,n'.mOwn=some b->s.n.mOwn=some b:=fun b k=>by
  rcases hm with⟨e1,e2,e3⟩ | ⟨e1,e2,e3⟩
  ·rw [<-k];unfold NodeV.mOwn;rw [e1,e2,e3]
  ·unfold NodeV.mOwn at k;rw [e1]at k;simp [Value.ownBlock]at k
 have huo: ∀b,n'.uOwn=some b->s.n.uOwn=some b:=fun b k=>by
  rcases hu with⟨e1,e2,e3⟩ | ⟨e1,e2,e3⟩
  ·rw [<-k];unfold NodeV.uOwn;rw [e1,e2,e3]
  ·unfold NodeV.uOwn at k;rw [e1]at k;simp [Value.ownBlock]at k
 have hso:n'.sOwn=s.n.sOwn:=by unfold NodeV.sOwn;rw [hn.1,hn.2.1,hn.2.2]
 have kp: ∀b,(Value.slice s.A s.L.length s.c).ownBlock=some b->W'.heap[b]?=W.heap[b]?:=fun b hb=>hO.block b (h.busy.prow.lt b hb).2 (fun e=>s_ h.busy.prow h.busy.blk hT.p (by rw [hb,e]));have ks: ∀b,s.n.sOwn=some b->W'.heap[b]?=W.heap[b]?:=fun b hb=>hO.block b (h.busy.srow.lt b hb).2 (fun e=>s_ h.busy.srow h.busy.blk hT.s (by rw [<-e];exact hb));have km: ∀b,s.n.mOwn=some b->W'.heap[b]?=W.heap[b]?:=fun b hb=>hO.block b (h.mrow.lt b hb).2 (fun e=>s_ h.mrow h.busy.blk hT.m (by rw [<-e];exact hb));have ku: ∀b,s.n.uOwn=some b->W'.heap[b]?=W.heap[b]?:=fun b hb=>hO.block b (h.urow.lt b hb).2 (fun e=>s_ h.urow h.busy.blk hT.u (by rw [<-e];exact hb));have kr: ∀b,(Value.slice s.RA s.RL.length s.rc).ownBlock=some b->W'.heap[b]?=W.heap[b]?:=fun b hb=>hO.block b (h.rrow.lt b hb).2 (fun e=>s_ h.rrow h.busy.blk hT.r (by rw [hb,e]));have hex: ∀b,(∀r∈ [s.n.mOwn,s.n.uOwn,(Value.slice s.RA s.RL.length s.rc).ownBlock],r≠some b)-> ∀r∈ [n'.mOwn,n'.uOwn,(Value.slice s.RA s.RL.length s.rc).ownBlock],r≠some b:=fun b k r hr e=>by
  simp only [List.mem_cons,List.not_mem_nil,or_false]at hr;rcases hr with rfl | rfl | rfl
  ·exact k s.n.mOwn (by simp) (hmo b e)
  ·exact k s.n.uOwn (by simp) (huo b e)
  ·exact k _ (by simp) e
 have key: ∀b,FreeX W base X (Value.slice s.A s.L.length s.c).ownBlock s.n.sOwn [s.n.mOwn,s.n.uOwn,(Value.slice s.RA s.RL.length s.rc).ownBlock] b->FreeX W' base X (Value.slice s.A s.L.length s.c).ownBlock n'.sOwn [n'.mOwn,n'.uOwn,(Value.slice s.RA s.RL.length s.rc).ownBlock] b∧W'.heap[b]?=W.heap[b]?:=fun b k=>by
  rw [hso];exact⟨⟨⟨k.1.1,Nat.lt_of_lt_of_le k.1.2 hO.size⟩,k.2.1,k.2.2.1,k.2.2.2.1,hex b k.2.2.2.2⟩,hO.block b k.1.2 k.2.1⟩
 refine⟨⟨⟨fun r hr y hy=>?_,h.busy.lo,hb,ba_ h.busy.prow kp,?_,fun x hx=>(h.busy.pops x hx).mv fun b k=>⟨⟨k.1,(key b k.2).1⟩,(key b k.2).2⟩,fun x hx=>?_⟩,?_,?_,ba_ h.rrow kr,fun o ho=>?_,fun x hx=>(h.rops x hx).mv key⟩,hO.below h.busy.lo h.base_le,fun b k=>⟨⟨⟨k.1.1,Nat.lt_of_lt_of_le k.1.2 hO.size⟩,k.2.1,k.2.2.1,?_,hex b k.2.2.2.2⟩,hO.block b k.1.2 k.2.1⟩⟩
 ·simp only [List.mem_cons,List.not_mem_nil,or_false]at hr;have h9: ∀r∈ [s.n.mOwn,s.n.uOwn,(Value.slice s.RA s.RL.length s.rc).ownBlock],r=some y->(y<W'.heap.size∧y≠X)∧(Value.slice s.A s.L.length s.c).ownBlock≠some y∧(Value.slice n'.sA n'.S.length n'.sc).ownBlock≠some y:=fun r hr hy=>by
   have h8:=h.busy.exl r hr y hy;have hs9:(Value.slice n'.sA n'.S.length n'.sc).ownBlock=(Value.slice s.n.sA s.n.S.length s.n.sc).ownBlock:=hso;rw [hs9];exact⟨⟨Nat.lt_of_lt_of_le h8.1.1 hO.size,h8.1.2⟩,h8.2⟩
  rcases hr with rfl | rfl | rfl
  ·exact h9 s.n.mOwn (by simp) (hmo y hy)
  ·exact h9 s.n.uOwn (by simp) (huo y hy)
  ·exact h9 _ (by simp) hy
 ·show W'.ownsRow base 60 10 (.slice n'.sA n'.S.length n'.sc) n'.S.length (n'.S.flatMap SideV.cells);rw [hn.1,hn.2.1,hn.2.2];exact ba_ h.busy.srow ks
 ·have hx':x∈n'.S:=hx;rw [hn.2.2]at hx';exact(h.busy.side x hx').mv key
 ·show W'.ownsRow base 53 2 (.slice n'.mA n'.M.length n'.mc) n'.M.length (n'.M.flatMap markCells);rcases hm with⟨e1,e2,e3⟩ | ⟨e1,e2,e3⟩
  ·rw [e1,e2,e3];exact ba_ h.mrow km
  ·rw [e1,e2,e3];exact World.ownsRow_nil _ _ _ _
 ·show W'.ownsRow base 30 1 (.slice n'.uA n'.U.length n'.uc) n'.U.length (n'.U.map OpV.val);rcases hu with⟨e1,e2,e3⟩ | ⟨e1,e2,e3⟩
  ·rw [e1,e2,e3];exact ba_ h.urow ku
  ·rw [e1,e2,e3];exact World.ownsRow_nil _ _ _ _
 ·have ho':o∈n'.U:=ho;rcases hu with⟨_,_,e3⟩ | ⟨_,_,e3⟩
  ·rw [e3]at ho';exact(h.undo o ho').mv key
  ·rw [e3]at ho';cases ho'
 ·show n'.sOwn≠some b;rw [hso];exact k.2.2.2.1
abbrev EdV.side (s:EdV) (i:Nat) (y:SideV):EdV:=⟨s.n.side i y,s.A,s.c,s.L,s.RA,s.rc,s.RL⟩
section
variable(hT:TurnT T) (h:EdAt T W base X s) {i g:Nat}
include hT h i g
theorem EdAt.setRow(hg:s.n.sA=some ⟨g,0,none⟩)(y:SideV)(hy:y.InS (FreeX W base X (Value.slice s.A s.L.length s.c).ownBlock s.n.sOwn [s.n.mOwn,s.n.uOwn,(Value.slice s.RA s.RL.length s.rc).ownBlock]) W)(hO:Only g W W')(hz:W'.heap.size=W.heap.size)(hr:W'.ownsRow base 60 10 (.slice s.n.sA s.n.S.length s.n.sc) s.n.S.length ((s.n.S.set i y).flatMap SideV.cells)):Turns T base X W s W' (s.side i y):=by
 have hB:=h.busy.setSide (s:=i) hT.s hg y hy hO hz hr;have hso:(s.n.side i y).sOwn=s.n.sOwn:=by simp [NodeV.sOwn,NodeV.side]
 have hQ:s.n.sOwn=some g:=by rw [NodeV.sOwn,hg];rfl
 have ht:Touch W W' X (Value.slice s.A s.L.length s.c).ownBlock s.n.sOwn (Value.slice s.A s.L.length s.c).ownBlock:=fy_ hO hQ;have hst:Stay W X s W' (s.side i y):=Stay.touch (s:=s) (s':=s.side i y) hso rfl rfl rfl ht;exact⟨EditAt.touched h ⟨rfl,rfl,rfl⟩ ⟨rfl,rfl,rfl⟩ hso hB ht,hst.below h hO.os hO.tape hO.output hO.size,hst⟩
section
variable(hi:i<s.n.S.length) (hg:s.n.sA=some ⟨g,0,none⟩)
include hi hg
theorem EdAt.setSide(y:SideV)(hy:y.InS (FreeX W base X (Value.slice s.A s.L.length s.c).ownBlock s.n.sOwn [s.n.mOwn,s.n.uOwn,(Value.slice s.RA s.RL.length s.rc).ownBlock]) W)(hW:W'=((((((((((W.setCell ⟨g,i*10,none⟩ (.int .i64 y.p)).setCell ⟨g,i*10+1,none⟩ (.bool y.j)).setCell ⟨g,i*10+2,none⟩ (.int .i64 y.s)).setCell ⟨g,i*10+3,none⟩ (.int .i64 y.h)).setCell ⟨g,i*10+4,none⟩ (.slice y.A y.L.length y.c)).setCell ⟨g,i*10+5,none⟩ (.int .i64 y.k.e)).setCell ⟨g,i*10+6,none⟩ (.int .i64 y.k.n)).setCell ⟨g,i*10+7,none⟩ (.slice y.k.sA y.k.s.length y.k.sc)).setCell ⟨g,i*10+8,none⟩ (.slice y.k.qA y.k.q.length y.k.qc)).setCell ⟨g,i*10+9,none⟩ (.int .i64 y.k.h))):Turns T base X W s W' (s.side i y):=by
 have hr:=h.busy.srow;rw [hg]at hr;obtain⟨r1,r2,r3⟩:=bfp_ y hr hi;rw [<-hW]at r1 r2 r3;exact h.setRow hT hg y hy r2 r3 (by rw [hg];exact r1)
theorem EdAt.setCell1(j:Bool):
 Turns T base X W s (W.setCell ⟨g,i*10+1,none⟩ (.bool j)) (s.side i ⟨s.n.S[i].p,j,s.n.S[i].s,s.n.S[i].h,s.n.S[i].A,s.n.S[i].c,s.n.S[i].L,s.n.S[i].k⟩):=by
 have hr:=h.busy.srow;rw [hg]at hr;obtain⟨r1,_⟩:=hr.stored (i*10+1) (.bool j);refine h.setRow hT hg _ (?_:SideV.InS _ _ _) q5_ (by simp [World.setCell]) ?_
 ·have:=h.busy.side _ (List.getElem_mem hi);exact⟨this.ops,this.op,this.s,this.so,this.q,this.qo⟩
 ·rw [hg];have e:(s.n.S.flatMap SideV.cells).set (i*10+1) (.bool j)=(s.n.S.set i ⟨s.n.S[i].p,j,s.n.S[i].s,s.n.S[i].h,s.n.S[i].A,s.n.S[i].c,s.n.S[i].L,s.n.S[i].k⟩).flatMap SideV.cells:=by
   have hM: ∀r∈s.n.S.map SideV.cells,r.length=10:=fun r hr=>by
    exact m277_
   have hsM:i<(s.n.S.map SideV.cells).length:=(by simpa using hi);rw [List.flatMap_def,List.flatMap_def,fg_ 10 _ _ hM i 1 hsM (by omega),List.map_set];congr 2;rw [List.getElem_map];rfl
  rw [<-e];exact r1
end
end
end
theorem ix_(s:EdV)(i:Nat)(y:SideV):(s.side i y).d=⟨⟨s.d.n.me,s.d.n.ep,s.d.n.up,s.d.n.rd,s.d.n.t,s.d.n.S.set i y.d,s.d.n.U,s.d.n.M⟩,s.d.L,s.d.R⟩:=by
 refine EdD.ext' ?_ rfl rfl;exact NodeV.side_d s.n i y
abbrev EdV.link (s:EdV) (i:Nat) (l:LinkV):EdV:=⟨s.n.link i l,s.A,s.c,s.L,s.RA,s.rc,s.RL⟩
theorem EdAt.setLink{T:TypeId}{W W':World}{base X:Nat}{s:EdV}(hT:TurnT T)(h:EdAt T W base X s){i g:Nat}(hi:i<s.n.S.length)(hg:s.n.sA=some ⟨g,0,none⟩)(l:LinkV)
 (hl:l.InS (FreeX W base X (Value.slice s.A s.L.length s.c).ownBlock s.n.sOwn [s.n.mOwn,s.n.uOwn,(Value.slice s.RA s.RL.length s.rc).ownBlock]) W)
 (hW:W'=(((((W.setCell ⟨g,i*10+5,none⟩ (.int .i64 l.e)).setCell ⟨g,i*10+6,none⟩ (.int .i64 l.n)).setCell ⟨g,i*10+7,none⟩ (.slice l.sA l.s.length l.sc)).setCell ⟨g,i*10+8,none⟩ (.slice l.qA l.q.length l.qc)).setCell ⟨g,i*10+9,none⟩ (.int .i64 l.h))):Turns T base X W s W' (s.link i l):=by
 have hB:=h.busy.setLink hT.s hi hg l hl;have hO:Only g W (((((W.setCell ⟨g,i*10+5,none⟩ (.int .i64 l.e)).setCell ⟨g,i*10+6,none⟩ (.int .i64 l.n)).setCell ⟨g,i*10+7,none⟩ (.slice l.sA l.s.length l.sc)).setCell ⟨g,i*10+8,none⟩ (.slice l.qA l.q.length l.qc)).setCell ⟨g,i*10+9,none⟩ (.int .i64 l.h)):=(((q5_.trans q5_).trans q5_).trans q5_).trans q5_;rw [<-hW]at hB hO;have hso:(s.n.link i l).sOwn=s.n.sOwn:=by simp [NodeV.sOwn,NodeV.link]
 have ht:Touch W W' X (Value.slice s.A s.L.length s.c).ownBlock s.n.sOwn (Value.slice s.A s.L.length s.c).ownBlock:=fy_ hO (by rw [NodeV.sOwn,hg];rfl);have hst:Stay W X s W' (s.link i l):=Stay.touch (s:=s) (s':=s.link i l) hso rfl rfl rfl ht;exact⟨EditAt.touched h ⟨rfl,rfl,rfl⟩ ⟨rfl,rfl,rfl⟩ hso hB ht,hst.below h hO.os hO.tape hO.output hO.size,hst⟩
theorem yl_(s:EdV)(i:Nat)(l:LinkV):(s.link i l).d=⟨⟨s.d.n.me,s.d.n.ep,s.d.n.up,s.d.n.rd,s.d.n.t,s.d.n.S.set i ⟨(s.d.n.S.getD i default).p,(s.d.n.S.getD i default).j,(s.d.n.S.getD i default).s,(s.d.n.S.getD i default).h,(s.d.n.S.getD i default).L,l.d⟩,s.d.n.U,s.d.n.M⟩,s.d.L,s.d.R⟩:=by
 refine EdD.ext' ((ki_ s.n i l).trans ?_) rfl rfl;simp only [ci_]
abbrev EdV.post (s:EdV) (A:OA_) (c:Nat) (who:Int) (K:List PacketV):EdV:=⟨s.n,A,c,s.L++K.map (PostV.mk who),s.RA,s.rc,s.RL⟩
section
variable(w:World) (base X:Nat) (s:EdV) (i:Nat) (hi:i<s.n.S.length)
include w base X s i hi
theorem bdf_(h:EdAt 71 w base X s)(pA:OA_)(pc:Nat)(K:List PacketV)(hK:PksS (fun b=>X+1<=b∧FreeX w base X (Value.slice s.A s.L.length s.c).ownBlock s.n.sOwn [s.n.mOwn,s.n.uOwn,(Value.slice s.RA s.RL.length s.rc).ownBlock] b) w pA K)(hl:s.L.length+K.length<=1099511627776):
 Calls Tryz.prog 35 #[.pointer (some ⟨X,0,none⟩),.int .i64 i,.slice pA K.length pc] w fun e w'=>e= .returned (.tuple #[])∧ ∃A' c',Turns 71 base X w s w' (s.post A' c' s.n.S[i].p K):=by
 refine(bde_ w X s.n s.A s.c s.L (.slice s.RA s.RL.length s.rc) i hi pA pc K (h.busy.work (by decide)) (hK.row.mv fun b k=>⟨⟨k.2.1.2,k.2.2.1,k.2.2.2.1⟩,rfl⟩) (fun p hp=>(hK.each p hp).mv fun b k=>⟨⟨⟨k.1,k.2.1.2⟩,k.2.2.2.1⟩,rfl⟩) hl).mono ?_;rintro e w' ⟨rfl,A',c',hp⟩;obtain⟨k1,k2⟩:=EditAt.posted bi_ h hK hp;exact⟨rfl,A',c',k1,k2,Stay.touch (s:=s) (s':=s.post A' c' s.n.S[i].p K) rfl rfl rfl rfl (hp.touch s.n.sOwn)⟩
theorem vz_(h:EdAt 35 w base X s)(pA:OA_)(pc:Nat)(K:List PacketV)(hK:PksS (fun b=>X+1<=b∧FreeX w base X (Value.slice s.A s.L.length s.c).ownBlock s.n.sOwn [s.n.mOwn,s.n.uOwn,(Value.slice s.RA s.RL.length s.rc).ownBlock] b) w pA K)(hl:s.L.length+K.length<=1099511627776):
 Calls Tryz.prog 39 #[.pointer (some ⟨X,0,none⟩),.int .i64 i,.slice pA K.length pc] w fun e w'=>e= .returned (.tuple #[])∧ ∃A' c',Turns 35 base X w s w' (s.post A' c' s.n.S[i].p K):=by
 refine(vy_ w X s.n s.A s.c s.L (.slice s.RA s.RL.length s.rc) i hi pA pc K (h.busy.work (by decide)) (hK.row.mv fun b k=>⟨⟨k.2.1.2,k.2.2.1,k.2.2.2.1⟩,rfl⟩) (fun p hp=>(hK.each p hp).mv fun b k=>⟨⟨⟨k.1,k.2.1.2⟩,k.2.2.2.1⟩,rfl⟩) hl).mono ?_;rintro e w' ⟨rfl,A',c',hp⟩;obtain⟨k1,k2⟩:=EditAt.posted bn_ h hK hp;exact⟨rfl,A',c',k1,k2,Stay.touch (s:=s) (s':=s.post A' c' s.n.S[i].p K) rfl rfl rfl rfl (hp.touch s.n.sOwn)⟩
end
theorem ys_(s:EdV)(A:OA_)(c:Nat)(who:Int)(K:List PacketV):(s.post A c who K).d=⟨s.d.n,s.d.L++(K.map PacketV.d).map (PostD.mk who),s.d.R⟩:=by
 refine EdD.ext' rfl ?_ rfl;show(s.L++K.map (PostV.mk who)).map PostV.d=s.L.map PostV.d++(K.map PacketV.d).map (PostD.mk who);rw [List.map_append,List.map_map,List.map_map];rfl
theorem iq_(S:Nat->Prop)(W:World)(p:Int)(j:Bool)(e:Int):SideV.InS S W ⟨p,j,0,0,none,0,[],⟨e,1,none,0,[],none,0,[],0⟩⟩:=
 ⟨Sl.nil,by simp,Sl.nil,by simp,Sl.nil,by simp⟩
abbrev linkV (ep nx:Int):Value:= .agg #[.int .i64 ep,.int .i64 nx,.slice none 0 0,.slice none 0 0,.int .i64 0]
section
variable(a:Int) (w:World) (h1:1<=a) (h2:a<=1048576)
include a w h1 h2
theorem sd_:Calls Tryz.prog 76 #[.int .i64 a] w (R_ w (.tuple #[linkV a 1,.int .i64 0])):=by
 go_enter Tryz.func76,Tryz.ntmps76
 go_wp2
 exact bodyPost_ret (v:= .tuple #[linkV a 1,.int .i64 0]) (by simp [results,Tryz.results76,go_sem]) rfl ⟨rfl,bA_⟩
theorem ly_:Calls Tryz.prog 40 #[.int .i64 a] w (R_ w (.tuple #[linkV a 1,.int .i64 0])):=by
 go_enter Tryz.func40,Tryz.ntmps40
 go_wp2_with(go_at_call 55;refine(m_ _ _ _ _ h1 h2).mono ?_;rintro e w' ⟨rfl,rfl⟩)
 exact bodyPost_ret (v:= .tuple #[linkV a 1,.int .i64 0]) (by simp [results,Tryz.results40,go_sem]) rfl ⟨rfl,bA_⟩
end
def RetLinkK (w:World) (d:LinkD) (e:Ending) (w':World):Prop:=
 ∃l:LinkV,e= .returned l.val∧l.d=d∧LinkInS (fun b=>w.heap.size<=b∧b<w'.heap.size) w' l∧Below w.heap.size w w'∧l.s.length<=l.sc
def RetNodeK (w:World) (d:NodeD) (e:Ending) (w':World):Prop:=
 ∃n:NodeV,e= .returned n.val∧n.d=d∧NodeFree w' w.heap.size n∧Below w.heap.size w w'∧ ∀x∈n.S,x.k.s.length<=x.k.sc
theorem zg_(w:World)(l:LinkV)(hi:l.In w)(hm:l.Small):Calls Tryz.prog 18 #[l.val] w (RetLinkK w l.d):=by
 have vBB:=h_ trivial;exact m37_
theorem hd_(w:World)(n:NodeV)(hi:n.In w)(hm:n.Small):Calls Tryz.prog 6 #[n.val] w (RetNodeK w n.d):=by
 have vB:=h_ trivial;exact m0_
theorem cp_{P:Program}{md:Region.Mode}{ops:Array Oper}{Q:Exit->Act->World->Prop}{S:World->Prop}{fuel:Nat}{listed:Array Bool}{L:List Value}{d:List Deferred}{w:World}(i:Nat)(k:Tmp){oi:Oper}{v:Value}(hi:ops[i]?=some oi)(hd:oi.dst=some k)(hy:YieldsIf P ops S oi v ⟨L.toArray,d⟩)(hS:S w)
 (h:wpAnyH P md ops Q S fuel (listed.setIfInBounds i true) ⟨(L.set k v).toArray,d⟩ w) (hQ: ∀c a w,Q (.panic c) (a.put oi.dst v) w->Q (.panic c) a w) (hs:Region.noSelect ops=true:=by kernel_rfl) (hf:Region.free md ops listed i=true:=by kernel_rfl) (hr:(Region.ready md ops listed).contains i=true:=by kernel_rfl):wpAnyH P md ops Q S (fuel+1) listed ⟨L.toArray,d⟩ w:=by
 refine wpAnyH_take hi hs hf hr hQ hy hS ?_;rw [hd];simpa [Act.put]using h
theorem ht_{P:Program}{md:Region.Mode}{ops:Array Oper}{Q:Exit->Act->World->Prop}{S:World->Prop}{fuel:Nat}{listed:Array Bool}{L:List Value}{d:List Deferred}{w:World}(i:Nat)(k:Tmp){oi:Oper}{v:Value}(hS:S w)
 (h:wpAnyH P md ops Q S fuel (listed.setIfInBounds i true) ⟨(L.set k v).toArray,d⟩ w) (hi:ops[i]?=some oi:=by rfl) (hd:oi.dst=some k:=by rfl) (hy:YieldsIf P ops S oi v ⟨L.toArray,d⟩:=by exact Or.inl ⟨by rfl,by intro w9 hS9;go_simp;try with_reducible rfl⟩) (hQ: ∀c a w,Q (.panic c) (a.put oi.dst v) w->Q (.panic c) a w:=by exact fun _ _ _ h=>h) (hs:Region.noSelect ops=true:=by kernel_rfl) (hf:Region.free md ops listed i=true:=by kernel_rfl) (hr:(Region.ready md ops listed).contains i=true:=by kernel_rfl):wpAnyH P md ops Q S (fuel+1) listed ⟨L.toArray,d⟩ w:=cp_ i k hi hd hy hS h hQ hs hf hr
theorem bce_{s h:Int}{L L':List OpV}(hd:L'.map OpV.ps=L.map OpV.ps)(ps:LP_)(heard:Int)(up:Bool):hearAns s h L' ps heard up=hearAns s h L ps heard up:=by
 have h1:edgeMay s h L'↔edgeMay s h L:=⟨fun k=>gr_ hd.symm k,fun k=>gr_ hd k⟩
 have h2:L'.length=L.length:=mapLen hd;unfold hearAns;simp only [h1,h2,hd]
theorem bal_(s h:Int)(L:List OpV)(ps:LP_)(heard:Int)(up:Bool):hearAnsD s h (L.map OpV.ps) ps heard up=hearAns s h L ps heard up:=bce_ (qw_ _) ps heard up
structure HearSmall (L:List OpV) (r:Int × Int × List (List PartD) × List PartD × Int):Prop where
 op:SmallD r.2.2.2.1
 ops: ∀q∈r.2.2.1,SmallD q
 len:r.2.2.1.length<=L.length
theorem ls_{up:Bool} : ∀(ps acc:List (List PartD)) (here:LP_),SmallD here->(∀q∈acc,SmallD q)->SmallD (hearG up acc here ps).2.1∧(∀q∈(hearG up acc here ps).1,SmallD q)∧(hearG up acc here ps).1.length<=acc.length+ps.length
 | [],acc,here,h1,h2=>⟨h1,h2,by simp [hearG]⟩
 | p :: ps,acc,here,h1,h2=>by
  by_cases hs:stE up p here=0
  · rw [fs_ hs]
    obtain⟨k1,k2,k3⟩:=ls_ ps (acc++ [stP up p here]) (stH up p here) (gx_ _ _ _) (fun q hq=>by
     rcases List.mem_append.1 hq with hq | hq
     · exact h2 q hq
     · obtain rfl:q=stP up p here:=by simpa using hq
       exact ks_ _ _ _)
    exact⟨k1,k2,by simp at k3⊢;omega⟩
  · rw [ft_ hs]
    exact⟨⟨by simp,by simp⟩,by simp,by simp⟩
theorem ha_{s h:Int}{L:List OpV}{ps:List PartD}{heard:Int}{up:Bool}(hp:SmallD ps):HearSmall L (hearAns s h L ps heard up):=by
 have hz: ∀er:Int,HearSmall L (0,0,[],[],er):=fun er=>⟨⟨by simp,by simp⟩,by simp,by simp⟩
 unfold hearAns;split
 ·exact hz _
 ·split
  ·exact hz _
  ·split
   ·exact hz _
   ·split
    ·exact hz _
    ·unfold hearOut;split
     ·obtain⟨k1,k2,k3⟩:=ls_ (up:=up) ((L.map OpV.ps).drop (heard - (s - L.length)).toNat) [] ps hp (by simp);exact⟨k1,k2,Nat.le_trans k3 (by simp)⟩
     ·exact hz _
section
variable {s:EdV}{i:Nat}{f:FrameD}{r:Int × Int × List (List PartD) × List PartD × Int}{up:Bool}
section
variable(hi:i<s.n.S.length) (hup:up=(decide (s.n.me=0) || decide (0<i))) (hr:r=hearAns s.n.S[i].s s.n.S[i].h s.n.S[i].L f.op f.heard up)
include hi hup hr
theorem ne_:
 heardDD s.d i f=if r.2.2.2.2≠0 then s.d else if applyErr s.n.t r.2.2.2.1≠0 then s.d else spreadD r.2.2.2.1 i (overDD r.2.2.2.1 (shiftD false r.2.2.2.1 (textD (edgeHD s.d i r.1 r.2.1 r.2.2.1) (applyText s.n.t r.2.2.2.1)))):=by
 have hg:s.d.n.S.getD i default=s.n.S[i].d:=by
  exact m237_
 have h1:hearAnsD (s.d.n.S.getD i default).s (s.d.n.S.getD i default).h (s.d.n.S.getD i default).L f.op f.heard (decide (s.d.n.me=0) || decide (0<i))=r:=by
  rw [hg,hr,hup];exact bal_ _ _ _ _ _ _
 unfold heardDD;simp only [h1]
theorem ro_(h1:r.2.2.2.2≠0):heardDD s.d i f=s.d:=by
 rw [ne_ hi hup hr,if_pos h1]
theorem rp_(h1:r.2.2.2.2=0)(h2:applyErr s.n.t r.2.2.2.1≠0):heardDD s.d i f=s.d:=by
 rw [ne_ hi hup hr,if_neg (fun k=>k h1),if_pos h2]
theorem rq_(h1:r.2.2.2.2=0)(h2:applyErr s.n.t r.2.2.2.1=0):
 heardDD s.d i f=spreadD r.2.2.2.1 i (overDD r.2.2.2.1 (shiftD false r.2.2.2.1 (textD (edgeHD s.d i r.1 r.2.1 r.2.2.1) (applyText s.n.t r.2.2.2.1)))):=by
 rw [ne_ hi hup hr,if_neg (fun k=>k h1),if_neg (fun k=>k h2)]
end
end
theorem yb_(s:EdV)(i:Nat)(es eh:Int)(eA:OA_)(ec:Nat)(eL:List OpV):(s.edge i es eh eA ec eL).d=edgeHD s.d i es eh (eL.map OpV.ps):=by
 unfold edgeHD;refine EdD.ext' ?_ rfl rfl;simp only [NodeV.d,NodeV.edge,ci_,List.map_set]
theorem EdAt.setEdgeT{T:TypeId}{W:World}{base X:Nat}{s:EdV}(hT:TurnT T)(h:EdAt T W base X s){i:Nat}(hi:i<s.n.S.length){g:Nat}(hg:s.n.sA=some ⟨g,0,none⟩)(es eh:Int)(eA:OA_)(ec:Nat)(eL:List OpV)
 (hl:OpsS (FreeX W base X (Value.slice s.A s.L.length s.c).ownBlock s.n.sOwn [s.n.mOwn,s.n.uOwn,(Value.slice s.RA s.RL.length s.rc).ownBlock]) W eA eL):
 Turns T base X W s (((W.setCell ⟨g,i*10+2,none⟩ (.int .i64 es)).setCell ⟨g,i*10+3,none⟩ (.int .i64 eh)).setCell ⟨g,i*10+4,none⟩ (.slice eA eL.length ec)) (s.edge i es eh eA ec eL):=by
 obtain⟨q1,q2,q3⟩:=EdAt.setEdge hT h hi hg es eh eA ec eL hl;exact⟨q1,q3.below h q2.os q2.tape q2.output q2.size,q3⟩
theorem sg_{L L':List OpV}(h:L'.map OpV.ps=L.map OpV.ps)(hk: ∀o∈L,o.Small): ∀q∈L',SmallD q.ps:=fun q hq=>by
 have:q.ps∈L.map OpV.ps:=by rw [<-h];exact List.mem_map.2 ⟨q,hq,rfl⟩
 obtain⟨o,ho,e⟩:=List.mem_map.1 this;rw [<-e];exact⟨(hk o ho).len,(hk o ho).text⟩
theorem oo_{s:EdV}{i:Nat}{es eh:Int}{eA:Option Addr}{ec:Nat}{eL:List OpV}(hS: ∀x∈s.n.S,x.Small)(hi:i<s.n.S.length)(h1:eL.length<=1048576)(h2: ∀o∈eL,SmallD o.ps): ∀x∈(s.edge i es eh eA ec eL).n.S,x.Small:=fun x hx=>by
 have hx':x∈s.n.S.set i ⟨(s.n.S.getD i default).p,(s.n.S.getD i default).j,es,eh,eA,ec,eL,(s.n.S.getD i default).k⟩:=hx;rcases List.mem_or_eq_of_mem_set hx' with hm | rfl
 · exact hS x hm
 · have hg:s.n.S.getD i default=s.n.S[i]:=by rw [List.getD_eq_getElem?_getD,List.getElem?_eq_getElem hi];rfl
   refine⟨h1,fun o ho=>⟨(h2 o ho).1,(h2 o ho).2⟩,?_⟩;show LinkV.Small (s.n.S.getD i default).k;rw [hg];exact(hS _ (List.getElem_mem hi)).link
structure TurnPair (w:World) (vs us:Array Value) (W:World):Prop where
 a:W.heap[w.heap.size]?=some (.cells vs 35 (0,0))
 b:W.heap[w.heap.size+1]?=some (.cells us 35 (0,0))
 k:Below w.heap.size w W
 z:w.heap.size+1<W.heap.size
theorem TurnPair.new(w:World)(vs us:Array Value):TurnPair w vs us ((w.alloc (.cells vs 35)).alloc (.cells us 35)):=
 ⟨(q_ _ _ _ (by simp)).trans (World.alloc_heap_new _ _),by have:=World.alloc_heap_new (w.alloc (.cells vs 35)) (.cells us 35);rwa [World.size_alloc]at this,bAlloc bA_ _,by simp⟩
theorem TurnPair.la{w W W':World}{vs us:Array Value}(k:TurnPair w vs us W)(hb:Below W.heap.size W W'):TurnPair w vs us W':=by
 have h2:=k.z;have h3:=hb.size;exact⟨(hb.block _ (by omega)).trans k.a,(hb.block _ h2).trans k.b,bThen k.k hb,by omega⟩
abbrev turn2 (n:NodeV) (A:OA_) (k c:Nat) (B:OA_) (l d:Nat):Value:= .agg #[.int .i64 n.me,.int .i64 n.ep,.int .i64 n.up,.bool n.rd,.string n.t,.slice n.sA n.S.length n.sc,.slice n.uA n.U.length n.uc,.slice n.mA n.M.length n.mc,.slice A k c,.slice B l d]
theorem tl_(w:World)(n n':NodeV)(A A':Option Addr)(c c' m:Nat)(L L':List PostV)(hi:n.In w)(hi':n'.In w)(hd:n'.d=n.d)(hm:n.Mid)(hs:PostsIn w A L)(hs':PostsIn w A' L')(hp:L'.map PostV.d=L.map PostV.d)(hn:L.length=m)(hq:m<=1099511627776)(hl: ∀x∈L,x.p.f.o.ps.length<=1048576)(B B':Option Addr)(d d' k2:Nat)(HRC:Hid (∀W,Below w.heap.size w W->Calls Tryz.prog 24 #[.slice B k2 d,.slice B' k2 d'] W (R_ W (.bool true)))):
 Calls Tryz.prog 10 #[turn2 n A m c B k2 d,turn2 n' A' m c' B' k2 d'] w (R_ w (.bool true)):=by
 have hn':L'.length=m:=by rw [<-hn,<-List.length_map (f:=PostV.d),hp,List.length_map]
 have HS:=h_ hs;have HS':=h_ hs';have HL:=h_ hl;have HNN:=h_ hn;have HNN':=h_ hn';have HE:=h_ (show∀k (h:k<L.length) (h':k<L'.length),L'[k].d=L[k].d from fun k h h'=>by
  have:=congrArg (fun l=>l[k]?) hp;simpa [h,h']using this)
 have HN:=h_ (fun W g g'=>pl_ W n n' g g' hd hm);have HI:=h_ hi;have HI':=h_ hi';clear hi hi' hd hm hs hs' hl hn hn' hp;obtain⟨a0,a1,a2,a3,a4,a5,a6,aS,a7,a8,aU,a9,a10,aM⟩:=n;obtain⟨b0,b1,b2,b3,b4,b5,b6,bS,b7,b8,bU,b9,b10,bM⟩:=n';have HA:=h_ (TurnPair.new w #[.int .i64 a0,.int .i64 a1,.int .i64 a2,.bool a3,.string a4,.slice a5 aS.length a6,.slice a7 aU.length a8,.slice a9 aM.length a10,.slice A m c,.slice B k2 d] #[.int .i64 b0,.int .i64 b1,.int .i64 b2,.bool b3,.string b4,.slice b5 bS.length b6,.slice b7 bU.length b8,.slice b9 bM.length b10,.slice A' m c',.slice B' k2 d']);obtain⟨WA,hWA⟩:=q2_ (((w.alloc (.cells #[.int .i64 a0,.int .i64 a1,.int .i64 a2,.bool a3,.string a4,.slice a5 aS.length a6,.slice a7 aU.length a8,.slice a9 aM.length a10,.slice A m c,.slice B k2 d] 35)).alloc (.cells #[.int .i64 b0,.int .i64 b1,.int .i64 b2,.bool b3,.string b4,.slice b5 bS.length b6,.slice b7 bU.length b8,.slice b9 bM.length b10,.slice A' m c',.slice B' k2 d'] 35)));rw [<-hWA]at HA;have HW:=h_ hWA.symm;clear hWA;go_enter Tryz.func10,Tryz.ntmps10
 go_wp2_with fail
 rw [HW.o];refine(HN.o _ (HI.o.la HA.o.k) (HI'.o.la HA.o.k)).mono ?_;rintro r w1 ⟨rfl,hb1⟩;have HB:=h_ (HA.o.la hb1);clear hb1;obtain⟨_,_,_,_,_,_,_,_,u8,u9,uz⟩:=j_ HB.o.a;obtain⟨_,_,_,_,_,_,_,_,v8,v9,vz⟩:=j_ HB.o.b;go_wp2_with fail
 refine(HRC.o _ HB.o.k).mono ?_;rintro r w2 ⟨rfl,hb2⟩;have HC:=h_ (HB.o.la hb2);clear hb2 u8 u9 uz v8 v9 vz;obtain⟨_,_,_,_,_,_,_,_,u8,u9,uz⟩:=j_ HC.o.a;obtain⟨_,_,_,_,_,_,_,_,v8,v9,vz⟩:=j_ HC.o.b;go_wp2_with fail
 go_loopw [5] (fun i wr=> ∃(k:Nat),k<=m∧i= .int .i64 k∧Hid (TurnPair w #[.int .i64 a0,.int .i64 a1,.int .i64 a2,.bool a3,.string a4,.slice a5 aS.length a6,.slice a7 aU.length a8,.slice a9 aM.length a10,.slice A m c,.slice B k2 d] #[.int .i64 b0,.int .i64 b1,.int .i64 b2,.bool b3,.string b4,.slice b5 bS.length b6,.slice b7 bU.length b8,.slice b9 bM.length b10,.slice A' m c',.slice B' k2 d'] wr)) (fun i _=>m - (intOf i).toNat)
 case atStart=>exact⟨0,Nat.zero_le _,rfl,HC⟩
 case round=>
  obtain⟨k,hk,rfl,HR⟩:=hrel;clear u8 u9 uz v8 v9 vz;obtain⟨_,_,_,_,_,_,_,_,u8,u9,uz⟩:=j_ HR.o.a;obtain⟨_,_,_,_,_,_,_,_,v8,v9,vz⟩:=j_ HR.o.b;by_cases hlt:k<m
  ·obtain⟨b,o,rfl,hbs,g0,g1,g2,g3,g4,g5,g6,g7,g8,g9,hop⟩:=(HS.o.la HR.o.k).at_ (k:=k) (by rw [HNN.o];exact hlt);obtain⟨b',o',rfl,hbs',e0,e1,e2,e3,e4,e5,e6,e7,e8,e9,hop'⟩:=(HS'.o.la HR.o.k).at_ (k:=k) (by rw [HNN'.o];exact hlt);have he:=HE.o k (by rw [HNN.o];exact hlt) (by rw [HNN'.o];exact hlt);have hlen:=HL.o _ (List.getElem_mem (show k<L.length by rw [HNN.o];exact hlt));generalize L[k]'(by rw [HNN.o];exact hlt)=q at*;generalize L'[k]'(by rw [HNN'.o];exact hlt)=q' at*;obtain⟨who,⟨ep,nu,bb,ak,⟨fk,fh,fe,⟨qA,qc,qp⟩,fs⟩⟩⟩:=q;obtain⟨who',⟨ep',nu',bb',ak',⟨fk',fh',fe',⟨qA',qc',qp'⟩,fs'⟩⟩⟩:=q';dsimp only at*;simp only [PostV.d,PostD.mk.injEq,PacketV.d,FrameV.d,PacketD.mk.injEq,FrameD.mk.injEq]at he;obtain⟨rfl,rfl,rfl,rfl,rfl,rfl,rfl,rfl,rfl,rfl⟩:=he;have HCC:=h_ (fun W h h'=>wh_ W ep' nu' bb' ak' fk' fh' fe' qA qA' qc qc' qp' fs' h h' hlen);have HP:=h_ hop;have HP':=h_ hop';clear hop hop' hlen;clear u9 v9 HI HI' HN HA HB HC HW HL HE HS HS';go_wp2_with fail
   go_region_held3 (fun w'=>w'.cell? ⟨w.heap.size,8,none⟩=some (.slice (some ⟨b,o,none⟩) m c)∧w'.cell? ⟨w.heap.size+1,8,none⟩=some (.slice (some ⟨b',o',none⟩) m c')∧w'.cell? ⟨b,o+k*10,none⟩=some (.int .i64 who')∧w'.cell? ⟨b,o+k*10+1,none⟩=some (.int .i64 ep')∧w'.cell? ⟨b,o+k*10+2,none⟩=some (.int .i64 nu')∧w'.cell? ⟨b,o+k*10+3,none⟩=some (.bool bb')∧w'.cell? ⟨b,o+k*10+4,none⟩=some (.int .i64 ak')∧w'.cell? ⟨b,o+k*10+5,none⟩=some (.int .i64 fk')∧w'.cell? ⟨b,o+k*10+6,none⟩=some (.int .i64 fh')∧w'.cell? ⟨b,o+k*10+7,none⟩=some (.int .i64 fe')∧w'.cell? ⟨b,o+k*10+8,none⟩=some (.slice qA qp'.length qc)∧w'.cell? ⟨b,o+k*10+9,none⟩=some (.string fs')∧w'.cell? ⟨b',o'+k*10,none⟩=some (.int .i64 who')∧w'.cell? ⟨b',o'+k*10+1,none⟩=some (.int .i64 ep')∧w'.cell? ⟨b',o'+k*10+2,none⟩=some (.int .i64 nu')∧w'.cell? ⟨b',o'+k*10+3,none⟩=some (.bool bb')∧w'.cell? ⟨b',o'+k*10+4,none⟩=some (.int .i64 ak')∧w'.cell? ⟨b',o'+k*10+5,none⟩=some (.int .i64 fk')∧w'.cell? ⟨b',o'+k*10+6,none⟩=some (.int .i64 fh')∧w'.cell? ⟨b',o'+k*10+7,none⟩=some (.int .i64 fe')∧w'.cell? ⟨b',o'+k*10+8,none⟩=some (.slice qA' qp'.length qc')∧w'.cell? ⟨b',o'+k*10+9,none⟩=some (.string fs'))
    (go_keep)
    ((go_at_call 25;refine(HCC.o _ (Sl.la HP.o bz_) (Sl.la HP'.o bz_)).mono ?_;rintro e w2 ⟨rfl,hb2⟩;obtain⟨⟨d2,os2⟩,rfl⟩:=e_ hb2))
   all_goals(
    go_wp2_with fail
    go_roundw
    case rel=>exact⟨k+1,by omega,by go_num,h_ (HR.o.la bz_)⟩
    case measure=>simp [intOf];omega)
  ·obtain rfl:k=m:=(by omega);go_wp2_with fail
   go_ret
   exact⟨rfl,HR.o.k⟩
end Go.Proofs.YtacacoklddogmaaGreatDoor
