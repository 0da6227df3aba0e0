/- Lemmas. -/
import Derived.Test.YtacacoklddogmaaGreatDoorKJAZ
import Derived.Test.YtacacoklddogmaaGreatDoorKJAU
namespace Go.Proofs.YtacacoklddogmaaGreatDoor
set_option maxHeartbeats 4000000
open Go.ChangeShapes Go.WideShapes Go.ChangeAt Go.RowKit
set_option maxRecDepth 100000
def hnSess (n:NodeD) (i:Nat) (p:PacketD):Prop:=p.epoch=(n.S.getD i default).k.e∧0<(n.S.getD i default).k.e
def hnPar (n:NodeD) (i:Nat):Prop:=0<n.me∧i=0
def hnJoin (n:NodeD) (p:PacketD):Prop:=p.bare=false∧p.number=1∧p.frame.kind=2∧p.frame.epoch=p.epoch∧p.frame.heard=n.ep
def bareDD (n:NodeD) (i:Nat):EdD:=⟨n,[⟨(n.S.getD i default).p,⟨0,0,true,n.ep,zeroF.d⟩⟩],[]⟩
open Classical in
noncomputable def hnAns (n:NodeD) (i:Nat) (p:PacketD):EdD × Int:=
 if hnSess n i p then(sessDD ⟨n,[],[]⟩ i p,0)
 else if hnPar n i then(if p.epoch=0 then(awayDD ⟨n,[],[]⟩ p.ack,0)else(zeroD,12))
 else if p.epoch<=(n.S.getD i default).k.e then(zeroD,12)
 else if hnJoin n p then(if n.rd=true then(joinedDD ⟨n,[],[]⟩ i p,0)else(zeroD,12))
 else(bareDD n i,0)
section
variable {n:NodeD}{i:Nat}{p:PacketD}
theorem yj_(h:hnSess n i p):hnAns n i p=(sessDD ⟨n,[],[]⟩ i p,0):=if_pos h
section
variable(h: ¬hnSess n i p)
include h
theorem yd_(h1:hnPar n i)(h2:p.epoch=0):hnAns n i p=(awayDD ⟨n,[],[]⟩ p.ack,0):=by
 unfold hnAns;rw [if_neg h,if_pos h1,if_pos h2]
theorem yi_(h1:hnPar n i)(h2: ¬p.epoch=0):hnAns n i p=(zeroD,12):=by
 unfold hnAns;rw [if_neg h,if_pos h1,if_neg h2]
section
variable(h1: ¬hnPar n i)
include h1
theorem yg_(h2:p.epoch<=(n.S.getD i default).k.e):hnAns n i p=(zeroD,12):=by
 unfold hnAns;rw [if_neg h,if_neg h1,if_pos h2]
section
variable(h2: ¬p.epoch<=(n.S.getD i default).k.e)
include h2
theorem yf_(h3:hnJoin n p)(h4:n.rd=true):hnAns n i p=(joinedDD ⟨n,[],[]⟩ i p,0):=by
 unfold hnAns;rw [if_neg h,if_neg h1,if_neg h2,if_pos h3,if_pos h4]
theorem yh_(h3:hnJoin n p)(h4: ¬n.rd=true):hnAns n i p=(zeroD,12):=by
 unfold hnAns;rw [if_neg h,if_neg h1,if_neg h2,if_pos h3,if_neg h4]
theorem ye_(h3: ¬hnJoin n p):hnAns n i p=(bareDD n i,0):=by
 unfold hnAns;rw [if_neg h,if_neg h1,if_neg h2,if_neg h3]
end
end
end
end
structure HnAt (w:World) (Q P R:Nat) (nv:Array Value) (q:Int) (pv:Array Value) (W:World):Prop where
 nd:W.heap[w.heap.size]?=some (.cells nv 28 (0,0))
 fr:W.heap[Q]?=some (.cells #[.int .i64 q] 3 (0,0))
 pk:W.heap[P]?=some (.cells pv 48 (0,0))
 r:W.heap[R]?=some (.cells #[.int .i64 0,.int .i64 0,.int .i64 0,.bool false,.string ⟨#[]⟩,.slice none 0 0,.slice none 0 0,.slice none 0 0,.slice none 0 0,.slice none 0 0] 35 (0,0))
 b:Below w.heap.size w W
 o:w.heap.size<Q∧Q<P∧P<R∧R<W.heap.size
theorem HnAt.la{w W W':World}{Q P R:Nat}{nv pv:Array Value}{q:Int}(k:HnAt w Q P R nv q pv W)(hb:Below W.heap.size W W'):HnAt w Q P R nv q pv W':=by
 have h1:=k.o;have h3:=hb.size;exact⟨(hb.block _ (by omega)).trans k.nd,(hb.block _ (by omega)).trans k.fr,(hb.block _ (by omega)).trans k.pk,(hb.block _ (by omega)).trans k.r,bThen k.b hb,by omega⟩
theorem HnAt.made{w W W':World}{Q P R base:Nat}{nv pv:Array Value}{q:Int}(k:HnAt w Q P R nv q pv W)(hR:R<base)(hb:Below base W W')(hz:W.heap.size<=W'.heap.size):HnAt w Q P R nv q pv W':=by
 have h1:=k.o;exact⟨(hb.block _ (by omega)).trans k.nd,(hb.block _ (by omega)).trans k.fr,(hb.block _ (by omega)).trans k.pk,(hb.block _ hR).trans k.r,k.b.trans (hb.mono (by omega)),by omega⟩
theorem HnAt.new(w:World)(nv pv:Array Value)(q:Int):HnAt w (w.heap.size+1) (w.heap.size+2) (w.heap.size+3) nv q pv ((((w.alloc (.cells nv 28)).alloc (.cells #[.int .i64 q] 3)).alloc (.cells pv 48)).alloc (.cells #[.int .i64 0,.int .i64 0,.int .i64 0,.bool false,.string ⟨#[]⟩,.slice none 0 0,.slice none 0 0,.slice none 0 0,.slice none 0 0,.slice none 0 0] 35)):=by
 have h1:=World.alloc_heap_new (w.alloc (.cells nv 28)) (.cells #[.int .i64 q] 3);have h2:=World.alloc_heap_new ((w.alloc (.cells nv 28)).alloc (.cells #[.int .i64 q] 3)) (.cells pv 48);have h3:=World.alloc_heap_new (((w.alloc (.cells nv 28)).alloc (.cells #[.int .i64 q] 3)).alloc (.cells pv 48)) (.cells #[.int .i64 0,.int .i64 0,.int .i64 0,.bool false,.string ⟨#[]⟩,.slice none 0 0,.slice none 0 0,.slice none 0 0,.slice none 0 0,.slice none 0 0] 35);rw [World.size_alloc]at h1 h2 h3;rw [World.size_alloc]at h2 h3;rw [World.size_alloc]at h3;refine⟨(q_ _ _ _ (by simp)).trans ((q_ _ _ _ (by simp)).trans ((q_ _ _ _ (by simp)).trans (World.alloc_heap_new _ _))),(q_ _ _ _ (by simp)).trans ((q_ _ _ _ (by simp)).trans h1),(q_ _ _ _ (by simp)).trans h2,h3,bAlloc (bAlloc (bAlloc bA_ _) _) _,by simp⟩
theorem cd_{w:World}{B:Nat}{v0 v1 v2 v3 v4 v5 v6 v7 v8 v9:Value}{t:TypeId}(h:w.heap[B]?=some (.cells #[v0,v1,v2,v3,v4,v5,v6,v7,v8,v9] t (0,0))):
 w.frozen? ⟨B,0,none⟩=false∧w.frozen? ⟨B,1,none⟩=false∧w.frozen? ⟨B,2,none⟩=false∧w.frozen? ⟨B,3,none⟩=false∧w.frozen? ⟨B,4,none⟩=false∧w.frozen? ⟨B,5,none⟩=false∧w.frozen? ⟨B,6,none⟩=false∧w.frozen? ⟨B,7,none⟩=false∧w.frozen? ⟨B,8,none⟩=false∧w.frozen? ⟨B,9,none⟩=false:=
 ⟨tenF h 0,tenF h 1,tenF h 2,tenF h 3,tenF h 4,tenF h 5,tenF h 6,tenF h 7,tenF h 8,tenF h 9⟩
theorem dp_{w H:World}{er:Int}(h:Below w.heap.size w H):RetTurnR w zeroD er (.returned (.tuple #[.agg #[.int .i64 0,.int .i64 0,.int .i64 0,.bool false,.string ⟨#[]⟩,.slice none 0 0,.slice none 0 0,.slice none 0 0,.slice none 0 0,.slice none 0 0],.int .i64 er])) H:=
 ⟨⟨zeroN,none,0,[],none,0,[]⟩,rfl,rfl,bdx_ _ _,RowOwn.nil _ _,RowOwn.nil _ _,h⟩
abbrev bareV (ep:Int):PacketV:=⟨0,0,true,ep,⟨0,0,0,⟨none,0,[]⟩,⟨#[]⟩⟩⟩
theorem ux_(w:World)(ep:Int)(S:Nat->Prop)(hS:S w.heap.size):PksS S (w.alloc (.cells #[.int .i64 0,.int .i64 0,.bool true,.int .i64 ep,.int .i64 0,.int .i64 0,.int .i64 0,.slice none 0 0,.string ⟨#[]⟩] 48)) (some ⟨w.heap.size,0,none⟩) [bareV ep]:=by
 refine⟨⟨rfl,fun _=>⟨w.heap.size,0,rfl,hS,fun j u hu=>?_⟩⟩,fun q hq=>?_⟩
 ·have h9:=World.alloc_heap_new w (.cells #[.int .i64 0,.int .i64 0,.bool true,.int .i64 ep,.int .i64 0,.int .i64 0,.int .i64 0,.slice none 0 0,.string ⟨#[]⟩] 48);simp only [World.cell?,h9,Nat.zero_add];simpa [PacketV.cells,OpV.val]using hu
 ·obtain rfl:q=bareV ep:=by simpa using hq
  exact Sl.nil
theorem rg_{s:EdV}{n:NodeD}{i:Nat}{A:Option Addr}{c:Nat}{who:Int}(hd:s.d=⟨n,[],[]⟩)(hw:who=(n.S.getD i default).p):(s.post A c who [bareV n.ep]).d=bareDD n i:=by
 rw [ys_,hd,hw];rfl
structure HdAt (w:World) (P R:Nat) (nv:Array Value) (pv:Array Value) (W:World):Prop where
 nd:W.heap[w.heap.size]?=some (.cells nv 28 (0,0))
 pk:W.heap[P]?=some (.cells pv 48 (0,0))
 r:W.heap[R]?=some (.cells #[.int .i64 0,.int .i64 0,.int .i64 0,.bool false,.string ⟨#[]⟩,.slice none 0 0,.slice none 0 0,.slice none 0 0,.slice none 0 0,.slice none 0 0] 35 (0,0))
 b:Below w.heap.size w W
 o:w.heap.size<P∧P<R∧R<W.heap.size
theorem HdAt.la{w W W':World}{P R:Nat}{nv pv:Array Value}(k:HdAt w P R nv pv W)(hb:Below W.heap.size W W'):HdAt w P R nv pv W':=by
 have h1:=k.o;have h3:=hb.size;exact⟨(hb.block _ (by omega)).trans k.nd,(hb.block _ (by omega)).trans k.pk,(hb.block _ (by omega)).trans k.r,bThen k.b hb,by omega⟩
theorem HdAt.made{w W W':World}{P R base:Nat}{nv pv:Array Value}(k:HdAt w P R nv pv W)(hR:R<base)(hb:Below base W W')(hz:W.heap.size<=W'.heap.size):HdAt w P R nv pv W':=by
 have h1:=k.o;exact⟨(hb.block _ (by omega)).trans k.nd,(hb.block _ (by omega)).trans k.pk,(hb.block _ hR).trans k.r,k.b.trans (hb.mono (by omega)),by omega⟩
theorem HdAt.new(w:World)(nv pv:Array Value):HdAt w (w.heap.size+1) (w.heap.size+2) nv pv (((w.alloc (.cells nv 28)).alloc (.cells pv 48)).alloc (.cells #[.int .i64 0,.int .i64 0,.int .i64 0,.bool false,.string ⟨#[]⟩,.slice none 0 0,.slice none 0 0,.slice none 0 0,.slice none 0 0,.slice none 0 0] 35)):=by
 have h1:=World.alloc_heap_new (w.alloc (.cells nv 28)) (.cells pv 48);have h2:=World.alloc_heap_new ((w.alloc (.cells nv 28)).alloc (.cells pv 48)) (.cells #[.int .i64 0,.int .i64 0,.int .i64 0,.bool false,.string ⟨#[]⟩,.slice none 0 0,.slice none 0 0,.slice none 0 0,.slice none 0 0,.slice none 0 0] 35);rw [World.size_alloc]at h1 h2;rw [World.size_alloc]at h2;refine⟨(q_ _ _ _ (by simp)).trans ((q_ _ _ _ (by simp)).trans (World.alloc_heap_new _ _)),(q_ _ _ _ (by simp)).trans h1,h2,bAlloc (bAlloc bA_ _) _,by simp⟩
def LastAt (S:List SideV) (q:Int) (k:Nat) (a:Int):Prop:=
 (a= -1∧ ∀j (hj:j<S.length),j<k->S[j].p≠q)∨ ∃(m:Nat) (hm:m<S.length),m<k∧a=m∧S[m].p=q∧ ∀j (hj:j<S.length),m<j->j<k->S[j].p≠q
theorem LastAt.start(S:List SideV)(q:Int):LastAt S q 0 (-1):= .inl ⟨rfl,fun j hj h=>absurd h (by omega)⟩
theorem LastAt.yes{S:List SideV}{q:Int}{k:Nat}(hk:k<S.length)(h:S[k].p=q):LastAt S q (k+1) k:=
 .inr ⟨k,hk,by omega,rfl,h,fun j hj h1 h2=>absurd h1 (by omega)⟩
theorem LastAt.no{S:List SideV}{q:Int}{k:Nat}{a:Int}(hk:k<S.length)(h:S[k].p≠q)(g:LastAt S q k a):LastAt S q (k+1) a:=by
 rcases g with⟨h1,h2⟩ | ⟨m,hm,h1,h2,h3,h4⟩
 ·refine .inl ⟨h1,fun j hj hjk=>?_⟩;rcases Nat.lt_or_ge j k with q' | q'
  ·exact h2 j hj q'
  ·obtain rfl:j=k:=(by omega);exact h
 ·refine .inr ⟨m,hm,by omega,h2,h3,fun j hj g1 hjk=>?_⟩;rcases Nat.lt_or_ge j k with q' | q'
  ·exact h4 j hj g1 q'
  ·obtain rfl:j=k:=(by omega);exact h
def HdSaid (n:NodeD) (p:PacketD) (E a:Int) (D:EdD) (er:Int):Prop:=
 (E≠0->D=zeroD∧er=E)∧(E=0->a= -1->D=zeroD∧er=13)∧(E=0-> ∀i:Nat,a=i->hnAns n i p=(D,er))
theorem sr_{zs:List Int}(h:treeFault zs=0){k:Nat}(hk:k<zs.length)(h0:0<k):0<=zs.getD k 0∧zs.getD k 0<k:=by
 obtain⟨t1,t2,_⟩:=fl_ h;apply Classical.byContradiction;intro hb;rw [ff_ (by omega) hk (by
  unfold tOk;rw [if_neg (by omega)];refine Bool.eq_false_iff.2 fun hq=>?_;rw [Bool.and_eq_true,decide_eq_true_eq,decide_eq_true_eq]at hq;exact hb hq)]at h
 cases h
theorem ox_(zs:List Int)(me:Int)(k:Nat):(kidsTo zs me k).Nodup:=by
 unfold kidsTo;refine List.Pairwise.map _ (fun a b hab=>?_) ((List.nodup_range (n:=k)).filter _);intro e;exact hab (Int.ofNat.inj e)
theorem xu_{zs:List Int}{me:Int}(h:treeFault zs=0)(_h0:0<=me)(h1:me<zs.length):(peers zs me).Nodup:=by
 unfold peers peerHead;by_cases hm:0<me
 ·rw [if_pos hm];refine List.nodup_cons.2 ⟨fun hmem=>?_,ox_ _ _ _⟩;unfold kidsTo at hmem;obtain⟨j,hj,he⟩:=List.mem_map.1 hmem;obtain⟨hj1,hj2⟩:=List.mem_filter.1 hj;have hj3:zs.getD j 0=me:=by simpa using hj2
  obtain⟨p0,p1⟩:=sr_ h (k:=me.toNat) (by omega) (by omega);have he':(j:Int)=zs.getD me.toNat 0:=he;have hjl:j<zs.length:=List.mem_range.1 hj1;by_cases hz:0<j
  ·obtain⟨_,p2⟩:=sr_ h hjl hz;omega
  ·obtain rfl:j=0:=(by omega);have:=(fl_ h).2.2;omega
 ·rw [if_neg hm,List.nil_append];exact ox_ _ _ _
theorem bfu_{zs:List Int}{n:NodeV}(h:nodeFault zs n=0){i j:Nat}(hi:i<n.S.length)(hj:j<n.S.length)(he:n.S[i].p=n.S[j].p):i=j:=by
 have hm:=dg_ h;have ht:treeFault zs=0:=by
  apply Classical.byContradiction;intro hb;rw [dy_ hb]at h;exact hb h
 have hd:=xu_ ht hm.1.1.1 hm.1.1.2;have hl:(peers zs n.me).length=n.S.length:=hm.2.1.1;have e1:=(hm.2.2.2.1 i hi).1;have e2:=(hm.2.2.2.1 j hj).1;rw [e1,e2,List.getD_eq_getElem?_getD,List.getD_eq_getElem?_getD,List.getElem?_eq_getElem (by omega),List.getElem?_eq_getElem (by omega)]at he;have he:(peers zs n.me)[i]'(by omega)=(peers zs n.me)[j]'(by omega):=by simpa using he
 rcases Nat.lt_trichotomy i j with k | k | k
 ·exact absurd he (List.pairwise_iff_getElem.1 hd i j (by omega) (by omega) k)
 ·exact k
 ·exact absurd he.symm (List.pairwise_iff_getElem.1 hd j i (by omega) (by omega) k)
def hnI (n:NodeD) (q:Int):Nat:=n.S.findIdx (fun x=>x.p==q)
noncomputable def hnAll (zs:List Int) (n:NodeV) (q:Int) (p:PacketD):EdD × Int:=
 if nodeFault zs n=0 then(if packetFault p=0 then(if hnI n.d q<n.d.S.length then hnAns n.d (hnI n.d q) p else(zeroD,13))else(zeroD,packetFault p))else(zeroD,nodeFault zs n)
theorem bgy_{zs:List Int}{n n':NodeV}{q:Int}{p:PacketD}(hd:n'.d=n.d):hnAll zs n' q p=hnAll zs n q p:=by
 unfold hnAll;rw [xq_ hd,hd]
theorem bcg_{n:NodeV}{q:Int}(h: ¬hnI n.d q<n.d.S.length): ∀x∈n.S,(x.p==q)=false:=by
 intro x hx;apply Bool.eq_false_iff.2;intro hp;exact h (List.findIdx_lt_length.2 ⟨x.d,List.mem_map.2 ⟨x,hx,rfl⟩,hp⟩)
theorem ou_{n:NodeV}{q:Int}(h:hnI n.d q<n.d.S.length): ∃hi:hnI n.d q<n.S.length,n.S[hnI n.d q].p=q∧ ∀j (hj:j<n.S.length),j<hnI n.d q->n.S[j].p≠q:=by
 have hl:n.d.S.length=n.S.length:=by simp
 refine⟨by omega,?_,fun j hj hji he=>?_⟩
 ·have h1:=List.findIdx_getElem (p:=fun x:SideD=>x.p==q) (w:=h);have h2:n.d.S[hnI n.d q]=(n.S[hnI n.d q]'(by omega)).d:=List.getElem_map _;have h3:((n.d.S[hnI n.d q]).p==q)=true:=h1;rw [h2]at h3;simpa using h3
 ·have h1:=List.not_of_lt_findIdx (p:=fun x:SideD=>x.p==q) (xs:=n.d.S) hji;have h2:n.d.S[j]'(by omega)=(n.S[j]).d:=List.getElem_map _;have h3:((n.d.S[j]'(by omega)).p==q)=false:=by simpa using h1
  rw [h2]at h3;have h4:(n.S[j].p==q)=false:=h3;simp [he]at h4
theorem bgw_{zs:List Int}{n:NodeV}{q:Int}{p:PacketD}{E:Int}(hE:(if nodeFault zs n=0 then packetFault p else nodeFault zs n)=E): ∀a,LastAt n.S q n.S.length a->HdSaid n.d p E a (hnAll zs n q p).1 (hnAll zs n q p).2:=by
 intro a ha;have hl:n.d.S.length=n.S.length:=by simp
 unfold HdSaid hnAll;by_cases h0:nodeFault zs n=0
 ·rw [if_pos h0]at hE;rw [if_pos h0];by_cases h1:packetFault p=0
  ·rw [if_pos h1];obtain rfl:E=0:=(by omega);refine⟨fun k=>absurd rfl k,fun _ hm=>?_,fun _ i hm=>?_⟩
   ·rw [if_neg (fun hlt=>?_)]
    ·exact⟨rfl,rfl⟩
    ·obtain⟨hi,g1,_⟩:=ou_ hlt;rcases ha with⟨_,g2⟩ | ⟨m,_,_,g2,_⟩
     ·exact g2 _ hi hi g1
     ·omega
   ·rcases ha with⟨g2,_⟩ | ⟨m,hm2,_,g2,g3,_⟩
    ·omega
    ·obtain rfl:m=i:=(by omega);have hlt:hnI n.d q<n.d.S.length:=by
      apply Classical.byContradiction;intro hc;have:=bcg_ hc _ (List.getElem_mem hm2);simp [g3]at this
     obtain⟨hi,g1,_⟩:=ou_ hlt;have he:=bfu_ h0 hm2 hi (g3.trans g1.symm);rw [if_pos hlt,<-he]
  ·rw [if_neg h1];exact⟨fun _=>⟨rfl,hE⟩,fun k=>absurd (hE.trans k) h1,fun k=>absurd (hE.trans k) h1⟩
 ·rw [if_neg h0]at hE;rw [if_neg h0];exact⟨fun _=>⟨rfl,hE⟩,fun k=>absurd (hE.trans k) h0,fun k=>absurd (hE.trans k) h0⟩
theorem bac_{n:NodeV}(hm:n.Small)(i:Nat):MidD (bareDD n.d i):=by
 refine⟨?_,fun x hx=>?_,?_,fun o ho=>?_,?_,by simp [bareDD],fun p hp=>?_,by simp [bareDD],by simp [bareDD]⟩
 ·have:=hm.sl;show(n.S.map SideV.d).length<=_;rw [List.length_map];omega
 ·have hx':x∈n.S.map SideV.d:=hx;obtain⟨y,hy,rfl⟩:=List.mem_map.1 hx';exact(hm.sides y hy).smallS.mid
 ·have:=hm.ul;show(n.U.map OpV.ps).length<=_;rw [List.length_map];omega
 ·have ho':o∈n.U.map OpV.ps:=ho;obtain⟨y,hy,rfl⟩:=List.mem_map.1 ho';exact(hm.undo y hy).len
 ·have:=hm.ml;show n.M.length<=_;omega
 ·have hp':p∈ [(⟨(n.d.S.getD i default).p,⟨0,0,true,n.d.ep,zeroF.d⟩⟩:PostD)]:=hp;obtain rfl:=List.mem_singleton.1 hp';exact Nat.zero_le _
theorem MidD.send{D:EdD}{i:Nat}{x:SideD}{f:FrameD}(h:MidD D)(hx:D.n.S[i]?=some x)(hk:opsSmall x.k)(hq:x.k.q.length<=1048576)(hf:f.op.length<=1048576)(hl:(sendDD D i f).L.length<=1099511627776):MidD (sendDD D i f):=by
 obtain⟨⟨y,hy,hym⟩,hp⟩:=pn_ hx (h.sides x (List.mem_of_getElem? hx)) hk hq hf;have hR:=(nm_ D i f).1;have hM:=(nm_ D i f).2;have hU:(sendDD D i f).n.U=D.n.U:=by unfold sendDD;split <;> rfl
 have hS: ∀j,j≠i->(sendDD D i f).n.S[j]?=D.n.S[j]?:=fun j hj=>by
  unfold sendDD;split
  ·exact List.getElem?_set_ne (fun e=>hj e.symm)
  ·rfl
 have hSl:(sendDD D i f).n.S.length=D.n.S.length:=by
  unfold sendDD;split
  ·exact List.length_set
  ·rfl
 refine⟨by rw [hSl];exact h.sl,fun z hz=>?_,by rw [hU];exact h.ul,by rw [hU];exact h.undo,by rw [hM];exact h.ml,hl,fun p k=>(hp p k).elim (h.posts p) id,by rw [hR];exact h.rl,by rw [hR];exact h.recs⟩;obtain⟨j,hj,rfl⟩:=List.getElem_of_mem hz;by_cases e:j=i
 ·subst e;rw [List.getElem?_eq_getElem hj]at hy;rw [Option.some.inj hy];exact hym
 ·have h1:=hS j e;rw [List.getElem?_eq_getElem hj]at h1;exact h.sides _ (List.mem_of_getElem? h1.symm)
theorem MidD.link{D:EdD}{i:Nat}{k:LinkD}{P:List PacketD}(h:MidD D)(hi:i<D.n.S.length)(hs:k.s.length<=1048577)(hq:k.q.length<=1048577)(hk:opsSmall k)(hP: ∀p∈P,p.frame.op.length<=1048576)(hl:D.L.length+P.length<=1099511627776):MidD (linkDD D i k P):=by
 refine⟨?_,fun z hz=>?_,h.ul,h.undo,h.ml,?_,fun p hp=>?_,h.rl,h.recs⟩
 ·show(D.n.S.set i _).length<=_;rw [List.length_set];exact h.sl
 ·have hz':z∈D.n.S.set i ⟨(D.n.S.getD i default).p,(D.n.S.getD i default).j,(D.n.S.getD i default).s,(D.n.S.getD i default).h,(D.n.S.getD i default).L,k⟩:=hz;have hg:D.n.S.getD i default=D.n.S[i]:=by rw [List.getD_eq_getElem?_getD,List.getElem?_eq_getElem hi];rfl
  rcases List.mem_or_eq_of_mem_set hz' with hm | rfl
  ·exact h.sides z hm
  ·have h1:=h.sides _ (List.getElem_mem hi);rw [hg];exact⟨h1.len,h1.ops,hs,hq,hk⟩
 ·show(D.L++P.map _).length<=_;rw [List.length_append,List.length_map];exact hl
 ·have hp':p∈D.L++P.map (PostD.mk (D.n.S.getD i default).p):=hp;rcases List.mem_append.1 hp' with hm | hm
  ·exact h.posts p hm
  ·obtain⟨y,hy,rfl⟩:=List.mem_map.1 hm;exact hP y hy
theorem pm_(D:EdD)(i:Nat)(f:FrameD):(sendDD D i f).L.length<=D.L.length+8:=by
 unfold sendDD;split
 ·have:=gl_ (waitL (D.n.S.getD i default).k f);show(D.L++(fillP _).map _).length<=_;rw [List.length_append,List.length_map];omega
 ·simp
theorem zx_{n:NodeV}(hm:n.Small)(hs:0<n.S.length)(up:Int):MidD (awayDD ⟨n.d,[],[]⟩ up):=by
 have hn:(awayN n.d up).S.length=n.S.length:=by simp [awayN]
 have h0:MidD ⟨awayN n.d up,[],[]⟩:=by
  refine⟨?_,fun x hx=>?_,by simp [awayN],by simp [awayN],by simp [awayN],by simp,by simp,by simp,by simp⟩
  ·have:=hm.sl;show(awayN n.d up).S.length<=_;omega
  ·have hx':x∈n.d.S.map (fun x:SideD=>(⟨x.p,false,0,0,[],⟨0,1,[],[],0⟩⟩:SideD)):=hx;obtain⟨y,_,rfl⟩:=List.mem_map.1 hx';exact⟨by simp,by simp,by simp,by simp,⟨by simp,by simp⟩⟩
 have hi:0<(⟨awayN n.d up,[],[]⟩:EdD).n.S.length:=by show 0<(awayN n.d up).S.length;omega
 have h1:=h0.link (i:=0) (k:=(openL (awayN n.d up).ep).d) (P:= []) hi (by simp [openL]) (by simp [openL]) ⟨by simp [openL],by simp [openL]⟩ (by simp) (by simp);unfold awayDD joinDD;refine h1.send (x:=⟨((awayN n.d up).S.getD 0 default).p,((awayN n.d up).S.getD 0 default).j,((awayN n.d up).S.getD 0 default).s,((awayN n.d up).S.getD 0 default).h,((awayN n.d up).S.getD 0 default).L,(openL (awayN n.d up).ep).d⟩) ?_ ⟨by simp [openL],by simp [openL]⟩ (by simp [openL]) (by simp [joinF]) ?_
 ·exact List.getElem?_set_self hi
 ·refine Nat.le_trans (pm_ _ _ _) ?_;show([]++([]:List PacketD).map _).length+8<=_;simp
structure SmA (D:EdD):Prop where
 sl:D.n.S.length<=1048576
 sides: ∀x∈D.n.S,SmallS x
 ul:D.n.U.length<=1048576
 undo: ∀o∈D.n.U,o.length<=1048576
 ml:D.n.M.length<=1048576
 pl:D.L.length<=1000000
 posts: ∀p∈D.L,p.p.frame.op.length<=1048576
 rl:D.R.length<=1000
 recs: ∀r∈D.R,r.2.length<=1048576
theorem SmA.mid{D:EdD}(h:SmA D):MidD D:=⟨Nat.le_trans h.sl (by decide),fun x hx=>(h.sides x hx).mid,Nat.le_trans h.ul (by decide),h.undo,Nat.le_trans h.ml (by decide),Nat.le_trans h.pl (by decide),h.posts,Nat.le_trans h.rl (by decide),h.recs⟩
theorem SmA.of{n:NodeV}(hm:n.Small):SmA ⟨n.d,[],[]⟩:=by
 refine⟨?_,fun x hx=>?_,?_,fun o ho=>?_,?_,by simp,by simp,by simp,by simp⟩
 ·have:=hm.sl;show(n.S.map SideV.d).length<=_;rw [List.length_map];omega
 ·have hx':x∈n.S.map SideV.d:=hx;obtain⟨y,hy,rfl⟩:=List.mem_map.1 hx';exact(hm.sides y hy).smallS
 ·have:=hm.ul;show(n.U.map OpV.ps).length<=_;rw [List.length_map];omega
 ·have ho':o∈n.U.map OpV.ps:=ho;obtain⟨y,hy,rfl⟩:=List.mem_map.1 ho';exact(hm.undo y hy).len
 ·have:=hm.ml;show n.M.length<=_;omega
theorem SmA.set{D:EdD}(h:SmA D)(i:Nat){y:SideD}(hy:SmallS y):SmA ⟨⟨D.n.me,D.n.ep,D.n.up,D.n.rd,D.n.t,D.n.S.set i y,D.n.U,D.n.M⟩,D.L,D.R⟩:=by
 refine⟨?_,fun z hz=>?_,h.ul,h.undo,h.ml,h.pl,h.posts,h.rl,h.recs⟩
 ·show(D.n.S.set i _).length<=_;rw [List.length_set];exact h.sl
 ·rcases List.mem_or_eq_of_mem_set (show z∈D.n.S.set i y from hz)with hm | rfl
  ·exact h.sides z hm
  ·exact hy
theorem SmA.getD{D:EdD}(h:SmA D)(i:Nat):SmallS (D.n.S.getD i default):=by
 rw [List.getD_eq_getElem?_getD];by_cases hi:i<D.n.S.length
 ·rw [List.getElem?_eq_getElem hi];exact h.sides _ (List.getElem_mem hi)
 ·rw [List.getElem?_eq_none (by omega)];exact⟨Nat.zero_le _,fun o ho=>absurd (show o∈([]:List (List PartD))from ho) (by simp),Nat.zero_le _,Nat.zero_le _,fun o ho=>absurd (show o∈([]:List FrameD)from ho) (by simp),fun o ho=>absurd (show o∈([]:List FrameD)from ho) (by simp)⟩
theorem vo_{x:LinkD}{p:PacketD} :(∀f∈(nextL x p).s,f∈x.s)∧(nextL x p).s.length<=x.s.length∧(nextL x p).q=x.q:=by
 refine⟨fun f hf=>?_,?_,rfl⟩
 ·have hf':f∈ackS x p.ack:=hf;unfold ackS at hf';split at hf'
  ·exact List.mem_of_mem_drop hf'
  ·exact hf'
 ·show(ackS x p.ack).length<=_;unfold ackS;split
  ·simp
  ·exact Nat.le_refl _
theorem pa_{x:LinkD}{p:PacketD}(h:opsSmall x):opsSmall (nextL x p):=by
 obtain⟨h1,_,h3⟩:=vo_ (x:=x) (p:=p);exact⟨fun f hf=>h.1 f (h1 f hf),fun f hf=>h.2 f (by rw [h3]at hf;exact hf)⟩
theorem bew_(x:LinkD):(fillL x).s.length<=x.s.length+8∧(fillL x).q.length<=x.q.length:=by
 have h1:=jd_ x;constructor
 ·show(x.s++x.q.take (fillN x)).length<=_;rw [List.length_append,List.length_take];omega
 ·show(x.q.drop (fillN x)).length<=_;rw [List.length_drop];omega
theorem td_{x:LinkD}{p:PacketD}(h:opsSmall x): ∀q∈heardPk x p,q.frame.op.length<=1048576:=by
 have h1:=(lp_ (pa_ (p:=p) h)).2;intro q hq;unfold heardPk at hq;split at hq
 ·exact h1 q hq
 ·rcases List.mem_append.1 hq with hq | hq
  ·exact h1 q hq
  ·obtain rfl:=List.mem_singleton.1 hq;exact Nat.zero_le _
theorem SmA.link{D:EdD}(h:SmA D){i:Nat}{p:PacketD}(h8:(D.n.S.getD i default).k.s.length<=1000)(hl:D.L.length<=1000):SmA (linkDD D i (fillL (nextL (D.n.S.getD i default).k p)) (heardPk (D.n.S.getD i default).k p)):=by
 have hx:=h.getD i;have h1:=vo_ (x:=(D.n.S.getD i default).k) (p:=p);have h2:=bew_ (nextL (D.n.S.getD i default).k p);have hs:=h.set i (y:=⟨(D.n.S.getD i default).p,(D.n.S.getD i default).j,(D.n.S.getD i default).s,(D.n.S.getD i default).h,(D.n.S.getD i default).L,fillL (nextL (D.n.S.getD i default).k p)⟩) ⟨hx.len,hx.ops,by show(fillL _).s.length<=_;omega,by have:=hx.q;rw [h1.2.2]at h2;show(fillL _).q.length<=_;omega,im_ (pa_ hx.k)⟩;refine⟨hs.sl,hs.sides,hs.ul,hs.undo,hs.ml,?_,fun q hq=>?_,hs.rl,hs.recs⟩
 ·have:=gn_ (D.n.S.getD i default).k p;show(D.L++List.map _ _).length<=_;rw [List.length_append,List.length_map];omega
 ·have hq':q∈D.L++(heardPk (D.n.S.getD i default).k p).map (PostD.mk (D.n.S.getD i default).p):=hq;rcases List.mem_append.1 hq' with hm | hm
  ·exact h.posts q hm
  ·obtain⟨y,hy,rfl⟩:=List.mem_map.1 hm;exact td_ hx.k y hy
theorem lz_: ∀(i:Nat) (o:LP_) (U:List (List PartD)),(∀q∈U,q.length<=1048576)->(overG o U i).length<=U.length∧ ∀q∈overG o U i,q.length<=1048576
 | 0,_,U,h=>⟨Nat.le_refl _,h⟩
 | i+1,o,U,h=>by
  by_cases he:trE o (U.getD i [])=0
  · rw [jl_ he]
    have h1:=lz_ i (trL o (U.getD i [])) (U.set i (trR o (U.getD i []))) fun q hq=>by
     rcases List.mem_or_eq_of_mem_set hq with hm | rfl
     · exact h q hm
     · exact(gy_ _ _).1
    rw [List.length_set]at h1;exact h1
  · rw [jm_ he]
    exact⟨Nat.zero_le _,by simp⟩
section
variable {D:EdD}{i:Nat}{f:FrameD}(h:SmA D)(hf:SmallD f.op)
include D i f h hf
theorem xl_:MidD (heardDD D i f):=by
 have hr:HearSmall (opsV (D.n.S.getD i default).L) (hearAnsD (D.n.S.getD i default).s (D.n.S.getD i default).h (D.n.S.getD i default).L f.op f.heard (decide (D.n.me=0) || decide (0<i))):=ha_ hf;have hx:=h.getD i;have hlen:(opsV (D.n.S.getD i default).L).length=(D.n.S.getD i default).L.length:=by
  have:=congrArg List.length (qw_ (D.n.S.getD i default).L);simpa using this
 unfold heardDD;dsimp only;generalize hearAnsD (D.n.S.getD i default).s (D.n.S.getD i default).h (D.n.S.getD i default).L f.op f.heard (decide (D.n.me=0) || decide (0<i))=r at hr;split
 ·exact h.mid
 ·split
  ·exact h.mid
  ·have hs:=h.set i (y:=⟨(D.n.S.getD i default).p,(D.n.S.getD i default).j,r.1,r.2.1,r.2.2.1,(D.n.S.getD i default).k⟩) ⟨by have:=hr.len;have:=hx.len;show r.2.2.1.length<=_;omega,fun o ho=>(hr.ops o ho).1,hx.s,hx.q,hx.k⟩;have ho:=lz_ D.n.U.length r.2.2.2.1 D.n.U h.undo;have hul:=h.ul;have hml:=h.ml;refine xx_ hr.op.1 hs.sides hs.sl (by show(overG _ _ _).length<=_;exact Nat.le_trans ho.1 (by omega)) ho.2 ?_ (Nat.le_trans h.pl (by decide)) h.posts (Nat.le_trans h.rl (by decide)) h.recs;show(List.map _ D.n.M).length<=_;rw [List.length_map];omega
theorem bba_:MidD (toldDD D i f):=by
 unfold toldDD;split
 ·exact xl_ h hf
 ·split
  ·have hx:=h.getD 0;have hs:=h.set 0 (y:=⟨(D.n.S.getD 0 default).p,true,(D.n.S.getD 0 default).s,(D.n.S.getD 0 default).h,(D.n.S.getD 0 default).L,(D.n.S.getD 0 default).k⟩) ⟨hx.len,hx.ops,hx.s,hx.q,hx.k⟩;exact⟨Nat.le_trans hs.sl (by decide),fun x hx=>(hs.sides x hx).mid,Nat.le_trans hs.ul (by decide),hs.undo,Nat.le_trans hs.ml (by decide),Nat.le_trans hs.pl (by decide),hs.posts,Nat.le_trans hs.rl (by decide),hs.recs⟩
  ·exact h.mid
end
theorem bav_{D:EdD}{i:Nat}{p:PacketD}(h:SmA D)(h8:(D.n.S.getD i default).k.s.length<=1000)(hl:D.L.length<=1000)(hf:SmallD p.frame.op):MidD (sessDD D i p):=by
 unfold sessDD;dsimp only;split
 ·exact bba_ (h.link h8 hl) hf
 ·exact(h.link h8 hl).mid
theorem vh_{n:NodeV}{i:Nat}{p:PacketD}(hm:n.Small)(hi:i<n.S.length)(hk:p.frame.kind=2):MidD (joinedDD ⟨n.d,[],[]⟩ i p):=by
 have h0:=(SmA.of hm).set i (y:=⟨((⟨n.d,[],[]⟩:EdD).n.S.getD i default).p,true,0,0,[],(openL p.epoch).d⟩) ⟨by simp,by simp,by simp [openL],by simp [openL],⟨by simp [openL],by simp [openL]⟩⟩;unfold joinedDD;rw [sm_ hk];generalize hD:(⟨⟨(⟨n.d,[],[]⟩:EdD).n.me,(⟨n.d,[],[]⟩:EdD).n.ep,(⟨n.d,[],[]⟩:EdD).n.up,(⟨n.d,[],[]⟩:EdD).n.rd,(⟨n.d,[],[]⟩:EdD).n.t,(⟨n.d,[],[]⟩:EdD).n.S.set i ⟨((⟨n.d,[],[]⟩:EdD).n.S.getD i default).p,true,0,0,[],(openL p.epoch).d⟩,(⟨n.d,[],[]⟩:EdD).n.U,(⟨n.d,[],[]⟩:EdD).n.M⟩,(⟨n.d,[],[]⟩:EdD).L,(⟨n.d,[],[]⟩:EdD).R⟩:EdD)=D at h0;have hil:i<D.n.S.length:=by
  rw [<-hD];show i<(List.set _ _ _).length;rw [List.length_set];show i<(n.S.map SideV.d).length;rw [List.length_map];exact hi
 have hg:(D.n.S.getD i default).k=(openL p.epoch).d:=by
  rw [<-hD];show SideD.k ((List.set _ _ _).getD i default)=_;rw [List.getD_eq_getElem?_getD,List.getElem?_set_self (by show i<(n.S.map SideV.d).length;rw [List.length_map];exact hi)];rfl
 have hL:D.L= []:=by rw [<-hD]
 have h1:=h0.link (i:=i) (p:=p) (by rw [hg];simp [openL]) (by rw [hL];simp);have hil2:i<(linkDD D i (fillL (nextL (D.n.S.getD i default).k p)) (heardPk (D.n.S.getD i default).k p)).n.S.length:=by
  show i<(List.set _ _ _).length;rw [List.length_set];exact hil
 generalize linkDD D i (fillL (nextL (D.n.S.getD i default).k p)) (heardPk (D.n.S.getD i default).k p)=D2 at h1 hil2;have hx:=h1.sides _ (List.getElem_mem hil2);refine h1.mid.send (List.getElem?_eq_getElem hil2) hx.k hx.q (by simp) (Nat.le_trans (pm_ _ _ _) ?_);have:=h1.pl;omega
theorem bcf_{zs:List Int}{n:NodeV}{q:Int}{p:PacketD}(hm:n.Small)(hf:SmallD p.frame.op):MidD (hnAll zs n q p).1:=by
 unfold hnAll;split
 ·rename_i h0;split
  ·split
   ·rename_i h2;obtain⟨hlt,_,_⟩:=ou_ h2;unfold hnAns;split
    ·have hg:(n.d.S.getD (hnI n.d q) default).k=n.S[hnI n.d q].k.d:=by
      show((n.S.map SideV.d).getD _ default).k=_;rw [ci_,List.getD_eq_getElem?_getD,List.getElem?_eq_getElem hlt];rfl
     refine bav_ (SmA.of hm) ?_ (by simp) hf;show(n.d.S.getD (hnI n.d q) default).k.s.length<=_;rw [hg];have h8:=(dd_ h0 _ (List.getElem_mem hlt)).2.1.1;have h9:n.S[hnI n.d q].k.d.s.length=n.S[hnI n.d q].k.s.length:=(by simp);omega
    ·split
     ·split
      ·exact zx_ hm (by omega) _
      ·exact fn_
     ·split
      ·exact fn_
      ·split
       ·rename_i hj;split
        ·exact vh_ hm hlt hj.2.2.1
        ·exact fn_
       ·exact bac_ hm _
   ·exact fn_
  ·exact fn_
 ·exact fn_
def newS (p:Int):SideV:=⟨p,false,0,0,none,0,[],⟨0,1,none,0,[],none,0,[],0⟩⟩
structure MkAt (W w4:World) (Y:Nat) (me ep up:Int) (A:OA_) (c:Nat) (P:List Int):Prop where
 blk:W.heap[Y]?=some (.cells #[.int .i64 me,.int .i64 ep,.int .i64 up,.bool false,.string ⟨#[]⟩,.slice A P.length c,.slice none 0 0,.slice none 0 0] 28 (0,0))
 row:W.ownsRow w4.heap.size 60 10 (.slice A P.length c) P.length ((P.map newS).flatMap SideV.cells)
 turned:Turned w4 W Y none
theorem MkAt.lt{W w4:World}{Y:Nat}{me ep up:Int}{A:Option Addr}{c:Nat}{P:List Int}(h:MkAt W w4 Y me ep up A c P):Y<W.heap.size:=(Array.getElem?_eq_some_iff.1 h.blk).1
theorem MkAt.la{W W' w4:World}{Y:Nat}{me ep up:Int}{A:Option Addr}{c:Nat}{P:List Int}(h:MkAt W w4 Y me ep up A c P)(hb:Below W.heap.size W W'):MkAt W' w4 Y me ep up A c P:=
 ⟨(hb.block _ h.lt).trans h.blk,cx_ h.row hb,h.turned.trans (Turned.of_below hb) (.inl rfl)⟩
theorem MkAt.push{wr W2 w3 w4:World}{Y:Nat}{me ep up p:Int}{A A':Option Addr}{c c':Nat}{P:List Int}(h:MkAt wr w4 Y me ep up A c P)(hW:Below wr.heap.size wr W2)(hg:W2.grownBy w3 (Value.slice A P.length c).ownBlock)
 (hown:w3.ownsRow w4.heap.size 60 10 (.slice A' (P.length+1) c') (P.length+1) ((P.map newS).flatMap SideV.cells++(newS p).cells)):
 MkAt (w3.setCell ⟨Y,5,none⟩ (.slice A' (P.length+1) c')) w4 Y me ep up A' c' (P++ [p]):=by
 have h2:=h.la hW;have hne:(Value.slice A P.length c).ownBlock≠some Y:=s_ h2.row h2.blk (by decide);have hX3:=(hg.block Y h2.lt (fun e=>hne e.symm)).trans h2.blk;have hne':(Value.slice A' (P.length+1) c').ownBlock≠some Y:=s_ hown hX3 (by decide);have hlen:(P++ [p]).length=P.length+1:=by simp
 refine⟨by rw [hlen];exact f_ 5 _ hX3,?_,?_⟩
 ·rw [hlen,List.map_append,List.flatMap_append];have hr:(w3.setCell ⟨Y,5,none⟩ (.slice A' (P.length+1) c')).ownsRow w4.heap.size 60 10 (.slice A' (P.length+1) c') (P.length+1) ((P.map newS).flatMap SideV.cells++(newS p).cells):=by
   refine⟨hown.1,?_⟩;rcases hown.2 with hn | ⟨g,cap,cur,e1,k1,k2,rest⟩
   ·exact .inl hn
   ·exact .inr ⟨g,cap,cur,e1,k1,(bH_ (by show g≠Y;exact fun e=>hne' (by rw [e1,e];rfl))).trans k2,rest⟩
  simpa using hr
 ·refine(h2.turned.trans (Turned.of_grown hg) ?_).trans (Turned.of_set w3 Y 5 _ none) (.inl rfl);exact .inr fun x hx=>(h2.row.lt x hx).1
theorem MkAt.setEp{W w4:World}{Y:Nat}{me ep up:Int}{A:Option Addr}{c:Nat}{P:List Int}(h:MkAt W w4 Y me ep up A c P)(e:Int):MkAt (W.setCell ⟨Y,1,none⟩ (.int .i64 e)) w4 Y me e up A c P:=by
 have hne:(Value.slice A P.length c).ownBlock≠some Y:=s_ h.row h.blk (by decide);refine⟨f_ 1 _ h.blk,⟨h.row.1,?_⟩,h.turned.trans (Turned.of_set W Y 1 _ none) (.inl rfl)⟩;rcases h.row.2 with hn | ⟨g,cap,cur,e1,k1,k2,rest⟩
 ·exact .inl hn
 ·exact .inr ⟨g,cap,cur,e1,k1,(bH_ (by show g≠Y;exact fun e=>hne (by rw [e1,e];rfl))).trans k2,rest⟩
theorem bae_{w:World}{R:Nat}{z0 z1 z2 z3 z4 z5 z6 z7 z8 z9:Value}{t:TypeId}(h:w.heap[R]?=some (.cells #[z0,z1,z2,z3,z4,z5,z6,z7,z8,z9] t (0,0)))(v0 v1 v2 v3 v4 v5 v6 v7:Value):
 ((((((((w.setCell ⟨R,0,none⟩ v0).setCell ⟨R,1,none⟩ v1).setCell ⟨R,2,none⟩ v2).setCell ⟨R,3,none⟩ v3).setCell ⟨R,4,none⟩ v4).setCell ⟨R,5,none⟩ v5).setCell ⟨R,6,none⟩ v6).setCell ⟨R,7,none⟩ v7).heap[R]?=some (.cells #[v0,v1,v2,v3,v4,v5,v6,v7,z8,z9] t (0,0)):=by
 have vBJ:=h_ trivial;exact m42_
theorem MkAt.turn{W w5:World}{Y X base:Nat}{me ep up:Int}{A:Option Addr}{c:Nat}{P:List Int}(h:MkAt W w5 Y me ep up A c P)(hX:X<w5.heap.size)(hlo:base<=X){n0:NodeV}(hx:W.heap[X]?=some (.cells (turnCells n0 (.slice none 0 0) (.slice none 0 0)) 35 (0,0))):
 EdAt 35 ((((((((W.setCell ⟨X,0,none⟩ (.int .i64 me)).setCell ⟨X,1,none⟩ (.int .i64 ep)).setCell ⟨X,2,none⟩ (.int .i64 up)).setCell ⟨X,3,none⟩ (.bool false)).setCell ⟨X,4,none⟩ (.string ⟨#[]⟩)).setCell ⟨X,5,none⟩ (.slice A P.length c)).setCell ⟨X,6,none⟩ (.slice none 0 0)).setCell ⟨X,7,none⟩ (.slice none 0 0)) base X ⟨⟨me,ep,up,false,⟨#[]⟩,A,c,P.map newS,none,0,[],none,0,[]⟩,none,0,[],none,0,[]⟩∧Below base W ((((((((W.setCell ⟨X,0,none⟩ (.int .i64 me)).setCell ⟨X,1,none⟩ (.int .i64 ep)).setCell ⟨X,2,none⟩ (.int .i64 up)).setCell ⟨X,3,none⟩ (.bool false)).setCell ⟨X,4,none⟩ (.string ⟨#[]⟩)).setCell ⟨X,5,none⟩ (.slice A P.length c)).setCell ⟨X,6,none⟩ (.slice none 0 0)).setCell ⟨X,7,none⟩ (.slice none 0 0)):=by
 have hz:w5.heap.size<=W.heap.size:=h.turned.size;have hO:Only X W ((((((((W.setCell ⟨X,0,none⟩ (.int .i64 me)).setCell ⟨X,1,none⟩ (.int .i64 ep)).setCell ⟨X,2,none⟩ (.int .i64 up)).setCell ⟨X,3,none⟩ (.bool false)).setCell ⟨X,4,none⟩ (.string ⟨#[]⟩)).setCell ⟨X,5,none⟩ (.slice A P.length c)).setCell ⟨X,6,none⟩ (.slice none 0 0)).setCell ⟨X,7,none⟩ (.slice none 0 0)):=((((((q5_.trans q5_).trans q5_).trans q5_).trans q5_).trans q5_).trans q5_).trans q5_;have hb:((((((((W.setCell ⟨X,0,none⟩ (.int .i64 me)).setCell ⟨X,1,none⟩ (.int .i64 ep)).setCell ⟨X,2,none⟩ (.int .i64 up)).setCell ⟨X,3,none⟩ (.bool false)).setCell ⟨X,4,none⟩ (.string ⟨#[]⟩)).setCell ⟨X,5,none⟩ (.slice A P.length c)).setCell ⟨X,6,none⟩ (.slice none 0 0)).setCell ⟨X,7,none⟩ (.slice none 0 0)).heap[X]?=some (.cells (turnCells (⟨me,ep,up,false,⟨#[]⟩,A,c,P.map newS,none,0,[],none,0,[]⟩:NodeV) (.slice none 0 0) (.slice none 0 0)) 35 (0,0)):=by
  show((((((((W.setCell ⟨X,0,none⟩ (.int .i64 me)).setCell ⟨X,1,none⟩ (.int .i64 ep)).setCell ⟨X,2,none⟩ (.int .i64 up)).setCell ⟨X,3,none⟩ (.bool false)).setCell ⟨X,4,none⟩ (.string ⟨#[]⟩)).setCell ⟨X,5,none⟩ (.slice A P.length c)).setCell ⟨X,6,none⟩ (.slice none 0 0)).setCell ⟨X,7,none⟩ (.slice none 0 0)).heap[X]?=some (.cells #[.int .i64 me,.int .i64 ep,.int .i64 up,.bool false,.string ⟨#[]⟩,.slice A (P.map newS).length c,.slice none 0 0,.slice none 0 0,.slice none 0 0,.slice none 0 0] 35 (0,0));rw [List.length_map];exact bae_ hx _ _ _ _ _ _ _ _
 obtain⟨W',hW'⟩: ∃W',W'=((((((((W.setCell ⟨X,0,none⟩ (.int .i64 me)).setCell ⟨X,1,none⟩ (.int .i64 ep)).setCell ⟨X,2,none⟩ (.int .i64 up)).setCell ⟨X,3,none⟩ (.bool false)).setCell ⟨X,4,none⟩ (.string ⟨#[]⟩)).setCell ⟨X,5,none⟩ (.slice A P.length c)).setCell ⟨X,6,none⟩ (.slice none 0 0)).setCell ⟨X,7,none⟩ (.slice none 0 0)):=⟨_,rfl⟩
 rw [<-hW']at hO hb⊢;clear hW';refine⟨⟨⟨fun r hr y hy=>?_,hlo,hb,World.ownsRow_nil _ _ _ _,?_,by simp,fun x hm=>?_⟩,World.ownsRow_nil _ _ _ _,World.ownsRow_nil _ _ _ _,World.ownsRow_nil _ _ _ _,by simp,by simp⟩,hO.below hlo (by omega)⟩
 ·simp [NodeV.mOwn,NodeV.uOwn,Value.ownBlock]at hr;rw [hr]at hy;cases hy
 ·have hr:W'.ownsRow w5.heap.size 60 10 (.slice A P.length c) P.length ((P.map newS).flatMap SideV.cells):=by
   refine⟨h.row.1,?_⟩;rcases h.row.2 with hn | ⟨g,cap,cur,e1,k1,k2,rest⟩
   ·exact .inl hn
   ·exact .inr ⟨g,cap,cur,e1,k1,(hO.block g (Array.getElem?_eq_some_iff.1 k2).1 (by omega)).trans k2,rest⟩
  show W'.ownsRow base 60 10 (.slice A (P.map newS).length c) (P.map newS).length ((P.map newS).flatMap SideV.cells);rw [List.length_map];exact cf_ hr (by omega)
 ·obtain⟨p,_,rfl⟩:=List.mem_map.1 hm;exact⟨Sl.nil,(by intro x hx;cases hx),Sl.nil,(by intro x hx;cases hx),Sl.nil,(by intro x hx;cases hx)⟩
theorem ym_{n:NodeD}{ep up:Int}{A:Option Addr}{c:Nat}{P:List Int}(hP:P=n.S.map SideD.p)(he:(if n.ep<1048575 then n.ep+1 else n.ep)=ep):(⟨⟨n.me,ep,up,false,⟨#[]⟩,A,c,P.map newS,none,0,[],none,0,[]⟩,none,0,[],none,0,[]⟩:EdV).d=⟨awayN n up,[],[]⟩:=by
 refine EdD.ext' ?_ rfl rfl;show(⟨n.me,ep,up,false,⟨#[]⟩,(P.map newS).map SideV.d,[],[]⟩:NodeD)=awayN n up;unfold awayN;rw [he,hP,List.map_map,List.map_map];rfl
end Go.Proofs.YtacacoklddogmaaGreatDoor
