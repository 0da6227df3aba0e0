/- Lemmas. -/
import Derived.Test.YtacacoklddogmaaGreatDoorKJAD
import Derived.Test.YtacacoklddogmaaGreatDoorKJBC
import Derived.Test.YtacacoklddogmaaGreatDoorKJBD
import Derived.Test.YtacacoklddogmaaGreatDoorKLHeardIT
import Derived.BigRegion
namespace Go.Proofs.YtacacoklddogmaaGreatDoor
set_option maxHeartbeats 4000000
open Go.ChangeShapes Go.WideShapes Go.ChangeAt Go.RowKit
set_option maxRecDepth 100000
theorem m241_{P:Prop}(h:P:=by
 have hw2:=hw;unfold inWin at hw2;rw [show(l.d.s.length:Int)=l.s.length by simp,show l.d.n=l.n from rfl]at hw2;have hK:((ackN l.d p.ak:Nat):Int)=p.ak - (l.n - l.s.length)+1∧1<=ackN l.d p.ak∧ackN l.d p.ak<=l.s.length:=by
  unfold ackN;rw [show(l.d.s.length:Int)=l.s.length by simp,show l.d.n=l.n from rfl];omega
 exact k241_.o _):P:=h
structure Held (W:World) (base X:Nat) (n:NodeV) (A:OA_) (c:Nat) (L:List PostV) (RA:OA_) (rc:Nat) (RL:List RecV):Prop where
 n:n.InS (fun b=>(base<=b∧b<W.heap.size)∧b≠X) W
 p:PostsOwn W base A c L
 r:RecsOwn W base RA rc RL
 pX:(Value.slice A L.length c).ownBlock≠some X
 rX:(Value.slice RA RL.length rc).ownBlock≠some X
 po: ∀x∈L,OpIn (fun b=>((base<=b∧b<W.heap.size)∧(Value.slice A L.length c).ownBlock≠some b)∧b≠X) W x.p.f.o.A x.p.f.o.ps
 ro: ∀x∈RL,OpIn (fun b=>((base<=b∧b<W.heap.size)∧(Value.slice RA RL.length rc).ownBlock≠some b)∧b≠X) W x.o.A x.o.ps
theorem EditAt.held{T:TypeId}{W:World}{base X:Nat}{n:NodeV}{A RA:Option Addr}{c rc:Nat}{L:List PostV}{RL:List RecV}(hT:TurnT T)(h:EditAt T W base X n A c L RA rc RL):Held W base X n A c L RA rc RL:=by
 have hlo:=h.busy.lo;refine⟨⟨?_,fun x hx=>(h.busy.side x hx).mv fun _ k=>⟨⟨k.1,k.2.1⟩,rfl⟩,⟨?_,fun o ho=>(h.undo o ho).mv fun _ k=>⟨⟨k.1,k.2.1⟩,rfl⟩⟩,?_⟩,((h.busy.work hT.s).posts).mono (by omega),⟨cf_ h.rrow (by omega),fun x hx=>(h.rops x hx).mv fun b k=>⟨⟨k.1,k.2.2.2.2 _ (by simp)⟩,rfl⟩⟩,s_ h.busy.prow h.busy.blk hT.p,s_ h.rrow h.busy.blk hT.r,fun x hx=>(h.busy.pops x hx).mv fun b k=>⟨⟨⟨k.2.1,k.2.2.2.1⟩,k.2.2.1⟩,rfl⟩,fun x hx=>(h.rops x hx).mv fun b k=>⟨⟨⟨k.1,k.2.2.2.2 _ (by simp)⟩,k.2.1⟩,rfl⟩⟩
 ·exact(Sl.of_own2 h.busy.srow).mv fun b k=>⟨⟨h.busy.srow.lt b k.1,fun e=>s_ h.busy.srow h.busy.blk hT.s (e ▸ k.1)⟩,rfl⟩
 ·exact(Sl.of_own2 h.urow).mv fun b k=>⟨⟨h.urow.lt b k.1,fun e=>s_ h.urow h.busy.blk hT.u (e ▸ k.1)⟩,rfl⟩
 ·exact(Sl.of_own2 h.mrow).mv fun b k=>⟨⟨h.mrow.lt b k.1,fun e=>s_ h.mrow h.busy.blk hT.m (e ▸ k.1)⟩,rfl⟩
theorem turnFin{w wr:World}{R base X:Nat}{n:NodeV}{A RA:Option Addr}{c rc:Nat}{L:List PostV}{RL:List RecV}(h:Held wr base X n A c L RA rc RL)(hr:wr.heap[R]?=some (.cells #[.int .i64 0,.int .i64 0,.int .i64 0,.bool false,.string ⟨#[]⟩,.slice none 0 0,.slice none 0 0,.slice none 0 0,.slice none 0 0,.slice none 0 0] 35 (0,0)))(hR:R<base)(hw:w.heap.size<=R)(hb:Below w.heap.size w wr):
 ((((((((((wr.setCell ⟨R,0,none⟩ (.int .i64 n.me)).setCell ⟨R,1,none⟩ (.int .i64 n.ep)).setCell ⟨R,2,none⟩ (.int .i64 n.up)).setCell ⟨R,3,none⟩ (.bool n.rd)).setCell ⟨R,4,none⟩ (.string n.t)).setCell ⟨R,5,none⟩ (.slice n.sA n.S.length n.sc)).setCell ⟨R,6,none⟩ (.slice n.uA n.U.length n.uc)).setCell ⟨R,7,none⟩ (.slice n.mA n.M.length n.mc)).setCell ⟨R,8,none⟩ (.slice A L.length c)).setCell ⟨R,9,none⟩ (.slice RA RL.length rc)).heap[R]?=some (.cells (turnCells n (.slice A L.length c) (.slice RA RL.length rc)) 35 (0,0))∧n.InS (fun b=>w.heap.size<=b∧b<((((((((((wr.setCell ⟨R,0,none⟩ (.int .i64 n.me)).setCell ⟨R,1,none⟩ (.int .i64 n.ep)).setCell ⟨R,2,none⟩ (.int .i64 n.up)).setCell ⟨R,3,none⟩ (.bool n.rd)).setCell ⟨R,4,none⟩ (.string n.t)).setCell ⟨R,5,none⟩ (.slice n.sA n.S.length n.sc)).setCell ⟨R,6,none⟩ (.slice n.uA n.U.length n.uc)).setCell ⟨R,7,none⟩ (.slice n.mA n.M.length n.mc)).setCell ⟨R,8,none⟩ (.slice A L.length c)).setCell ⟨R,9,none⟩ (.slice RA RL.length rc)).heap.size) ((((((((((wr.setCell ⟨R,0,none⟩ (.int .i64 n.me)).setCell ⟨R,1,none⟩ (.int .i64 n.ep)).setCell ⟨R,2,none⟩ (.int .i64 n.up)).setCell ⟨R,3,none⟩ (.bool n.rd)).setCell ⟨R,4,none⟩ (.string n.t)).setCell ⟨R,5,none⟩ (.slice n.sA n.S.length n.sc)).setCell ⟨R,6,none⟩ (.slice n.uA n.U.length n.uc)).setCell ⟨R,7,none⟩ (.slice n.mA n.M.length n.mc)).setCell ⟨R,8,none⟩ (.slice A L.length c)).setCell ⟨R,9,none⟩ (.slice RA RL.length rc))∧PostsOwn ((((((((((wr.setCell ⟨R,0,none⟩ (.int .i64 n.me)).setCell ⟨R,1,none⟩ (.int .i64 n.ep)).setCell ⟨R,2,none⟩ (.int .i64 n.up)).setCell ⟨R,3,none⟩ (.bool n.rd)).setCell ⟨R,4,none⟩ (.string n.t)).setCell ⟨R,5,none⟩ (.slice n.sA n.S.length n.sc)).setCell ⟨R,6,none⟩ (.slice n.uA n.U.length n.uc)).setCell ⟨R,7,none⟩ (.slice n.mA n.M.length n.mc)).setCell ⟨R,8,none⟩ (.slice A L.length c)).setCell ⟨R,9,none⟩ (.slice RA RL.length rc)) w.heap.size A c L∧RecsOwn ((((((((((wr.setCell ⟨R,0,none⟩ (.int .i64 n.me)).setCell ⟨R,1,none⟩ (.int .i64 n.ep)).setCell ⟨R,2,none⟩ (.int .i64 n.up)).setCell ⟨R,3,none⟩ (.bool n.rd)).setCell ⟨R,4,none⟩ (.string n.t)).setCell ⟨R,5,none⟩ (.slice n.sA n.S.length n.sc)).setCell ⟨R,6,none⟩ (.slice n.uA n.U.length n.uc)).setCell ⟨R,7,none⟩ (.slice n.mA n.M.length n.mc)).setCell ⟨R,8,none⟩ (.slice A L.length c)).setCell ⟨R,9,none⟩ (.slice RA RL.length rc)) w.heap.size RA rc RL∧Below w.heap.size w ((((((((((wr.setCell ⟨R,0,none⟩ (.int .i64 n.me)).setCell ⟨R,1,none⟩ (.int .i64 n.ep)).setCell ⟨R,2,none⟩ (.int .i64 n.up)).setCell ⟨R,3,none⟩ (.bool n.rd)).setCell ⟨R,4,none⟩ (.string n.t)).setCell ⟨R,5,none⟩ (.slice n.sA n.S.length n.sc)).setCell ⟨R,6,none⟩ (.slice n.uA n.U.length n.uc)).setCell ⟨R,7,none⟩ (.slice n.mA n.M.length n.mc)).setCell ⟨R,8,none⟩ (.slice A L.length c)).setCell ⟨R,9,none⟩ (.slice RA RL.length rc)):=by
 have hO:Only R wr ((((((((((wr.setCell ⟨R,0,none⟩ (.int .i64 n.me)).setCell ⟨R,1,none⟩ (.int .i64 n.ep)).setCell ⟨R,2,none⟩ (.int .i64 n.up)).setCell ⟨R,3,none⟩ (.bool n.rd)).setCell ⟨R,4,none⟩ (.string n.t)).setCell ⟨R,5,none⟩ (.slice n.sA n.S.length n.sc)).setCell ⟨R,6,none⟩ (.slice n.uA n.U.length n.uc)).setCell ⟨R,7,none⟩ (.slice n.mA n.M.length n.mc)).setCell ⟨R,8,none⟩ (.slice A L.length c)).setCell ⟨R,9,none⟩ (.slice RA RL.length rc)):=((((((((q5_.trans q5_).trans q5_).trans q5_).trans q5_).trans q5_).trans q5_).trans q5_).trans q5_).trans q5_;have hs:=hO.size;refine⟨dh_ hr _ _ _ _ _ _ _ _ _ _,h.n.mv fun b k=>⟨⟨by have:=k.1.1;omega,by have:=k.1.2;omega⟩,hO.block b k.1.2 (by have:=k.1.1;omega)⟩,?_,?_,hb.trans (hO.below hw hb.size)⟩
 ·exact(h.p.kept hs fun b k hl=>hO.block b hl (by omega)).mono (by omega)
 ·exact(h.r.kept hs fun b k hl=>hO.block b hl (by omega)).mono (by omega)
def pushU (U:List (List PartD)) (iv:LP_):List (List PartD):=if 12<(U++ [iv]).length then(U++ [iv]).drop 1 else U++ [iv]
def pushD (D:EdD) (iv:LP_):EdD:=⟨⟨D.n.me,D.n.ep,D.n.up,D.n.rd,D.n.t,D.n.S,pushU D.n.U iv,D.n.M⟩,D.L,D.R⟩
theorem dt_{K:Exit->Act->World->Prop}{e:Exit}{a:Act}{W:World}(h: ∀W9,W9=W->K e a W9):K e a W:=h W rfl
def zeroD:EdD:=⟨zeroN.d,[],[]⟩
def RetTurnR (w:World) (D:EdD) (er:Int) (e:Ending) (w':World):Prop:=
 ∃s:EdV,e= .returned (.tuple #[.agg (turnCells s.n (.slice s.A s.L.length s.c) (.slice s.RA s.RL.length s.rc)),.int .i64 er])∧s.d=D∧s.n.InS (fun b=>w.heap.size<=b∧b<w'.heap.size) w'∧PostsOwn w' w.heap.size s.A s.c s.L∧RecsOwn w' w.heap.size s.RA s.rc s.RL∧Below w.heap.size w w'
structure SmallS (x:SideD):Prop where
 len:x.L.length<=1048576
 ops: ∀o∈x.L,o.length<=1048576
 s:x.k.s.length<=1048576
 q:x.k.q.length<=1048576
 k:opsSmall x.k
structure MidS (x:SideD):Prop where
 len:x.L.length<=1048577
 ops: ∀o∈x.L,o.length<=1048576
 s:x.k.s.length<=1048577
 q:x.k.q.length<=1048577
 k:opsSmall x.k
theorem SmallS.mid{x:SideD}(h:SmallS x):MidS x:=⟨Nat.le_trans h.len (by decide),h.ops,Nat.le_trans h.s (by decide),Nat.le_trans h.q (by decide),h.k⟩
theorem SideV.Small.smallS{x:SideV}(h:x.Small):SmallS x.d:=by
 refine⟨by simpa using h.len,fun o ho=>?_,by simpa using h.link.sl,by simpa using h.link.ql,LinkV.Small.ops h.link⟩;obtain⟨q,hq,rfl⟩:=List.mem_map.1 ho;exact(h.ops q hq).len
theorem bau_{l:LinkD}{f:FrameD}(h:sendED l f=0):l.s.length<=8:=by
 unfold sendED sendE at h;split at h
 ·cases h
 ·rename_i hk;have hk:linkMay l.v:=by simpa using hk
  have:=hk.2.1.1;simpa [LinkD.v]using this
theorem kc_{D:EdD}{i:Nat}{x:SideD}(hx:D.n.S[i]?=some x):D.n.S.getD i default=x:=by
 rw [List.getD_eq_getElem?_getD,hx];rfl
theorem pn_{D:EdD}{i:Nat}{x:SideD}{f:FrameD}(hx:D.n.S[i]?=some x)(hm:MidS x)(hk:opsSmall x.k)(hq:x.k.q.length<=1048576)(hf:f.op.length<=1048576):
 (∃y,(sendDD D i f).n.S[i]?=some y∧MidS y)∧ ∀p∈(sendDD D i f).L,p∈D.L∨p.p.frame.op.length<=1048576:=by
 unfold sendDD;rw [kc_ hx];have hi:i<D.n.S.length:=(List.getElem?_eq_some_iff.1 hx).1;split
 ·rename_i he;have h8:=bau_ he;refine⟨⟨_,List.getElem?_set_self hi,?_⟩,fun p hp=>?_⟩
  ·have h1:=jd_ (waitL x.k f);refine⟨hm.len,hm.ops,?_,?_,im_ (pr_ hk hf)⟩
   ·show((waitL x.k f).s++(waitL x.k f).q.take _).length<=_;have:(waitL x.k f).s.length=x.k.s.length:=rfl;rw [List.length_append,List.length_take];omega
   ·show((waitL x.k f).q.drop _).length<=_;have:(waitL x.k f).q.length=x.k.q.length+1:=by simp [waitL]
    rw [List.length_drop];omega
  ·rcases List.mem_append.1 hp with hp | hp
   ·exact .inl hp
   ·obtain⟨q,hq,rfl⟩:=List.mem_map.1 hp;exact .inr ((lp_ (pr_ hk hf)).2 q hq)
 ·exact⟨⟨x,hx,hm⟩,fun p hp=> .inl hp⟩
theorem bcy_{ps:List PartD}{but:Int}{D:EdD}{i:Nat}{x:SideD}(hp:ps.length<=1048576)(hx:D.n.S[i]?=some x)(hs:SmallS x):
 (∃y,(passD ps but D i).n.S[i]?=some y∧MidS y)∧ ∀p∈(passD ps but D i).L,p∈D.L∨p.p.frame.op.length<=1048576:=by
 unfold passD;rw [kc_ hx];have hi:i<D.n.S.length:=(List.getElem?_eq_some_iff.1 hx).1;split
 ·exact⟨⟨x,hx,hs.mid⟩,fun p hp=> .inl hp⟩
 ·split
  ·have he:(edgeDD D i (x.s+1) (x.L++ [ps])).n.S[i]?=some ⟨x.p,x.j,x.s+1,x.h,x.L++ [ps],x.k⟩:=by
    unfold edgeDD;rw [kc_ hx];exact List.getElem?_set_self hi
   refine pn_ he ⟨?_,?_,Nat.le_trans hs.s (by decide),Nat.le_trans hs.q (by decide),hs.k⟩ hs.k hs.q hp
   ·have:=hs.len;simp;omega
   ·intro o ho;rcases List.mem_append.1 ho with ho | ho
    ·exact hs.ops o ho
    ·obtain rfl:o=ps:=(by simpa using ho);exact hp
  ·exact⟨⟨x,hx,hs.mid⟩,fun p hp=> .inl hp⟩
theorem xt_{ps:List PartD}{but:Int}{D:EdD}(hp:ps.length<=1048576)(hs: ∀x∈D.n.S,SmallS x)(k:Nat)(hk:k<=D.n.S.length):
 (∀j,j<k-> ∃y,(passesD ps but D k).n.S[j]?=some y∧MidS y)∧ ∀p∈(passesD ps but D k).L,p∈D.L∨p.p.frame.op.length<=1048576:=by
 induction k with
 | zero=>exact⟨fun j hj=>absurd hj (by omega),fun p hp=> .inl hp⟩
 | succ k ih=>
  obtain⟨h1,h2⟩:=ih (by omega);have hfr:=ef_ ps but D k;have hx:(passesD ps but D k).n.S[k]?=some D.n.S[k]:=by rw [hfr.2.1 k (Nat.le_refl _),List.getElem?_eq_getElem (by omega)]
  obtain⟨g1,g2⟩:=bcy_ (but:=but) hp hx (hs _ (List.getElem_mem (by omega)));rw [db_];refine⟨fun j hj=>?_,fun p hp=>?_⟩
  · by_cases hjk:j=k
    · subst hjk
      exact g1
    · rw [(ma_ ps but (passesD ps but D k) k).2.1 j hjk]
      exact h1 j (by omega)
  · rcases g2 p hp with hq | hq
    · exact h2 p hq
    · exact .inr hq
structure MidD (D:EdD):Prop where
 sl:D.n.S.length<=1048577
 sides: ∀x∈D.n.S,MidS x
 ul:D.n.U.length<=1048577
 undo: ∀o∈D.n.U,o.length<=1048576
 ml:D.n.M.length<=1048577
 pl:D.L.length<=1099511627776
 posts: ∀p∈D.L,p.p.frame.op.length<=1048576
 rl:D.R.length<=8388608
 recs: ∀r∈D.R,r.2.length<=1048576
theorem nm_(D:EdD)(i:Nat)(f:FrameD):(sendDD D i f).R=D.R∧(sendDD D i f).n.M=D.n.M:=by
 unfold sendDD;split <;> exact⟨rfl,rfl⟩
theorem bhd_(ps:LP_)(but:Int)(D:EdD)(i:Nat):(passD ps but D i).R=D.R∧(passD ps but D i).n.M=D.n.M:=by
 unfold passD;split
 ·exact⟨rfl,rfl⟩
 ·split
  ·obtain⟨h1,h2⟩:=nm_ (edgeDD D i ((D.n.S.getD i default).s+1) ((D.n.S.getD i default).L++ [ps])) i ⟨1,(D.n.S.getD i default).h,0,ps,⟨#[]⟩⟩;exact⟨h1,h2⟩
  ·exact⟨rfl,rfl⟩
theorem bcz_(ps:LP_)(but:Int)(D:EdD)(k:Nat):(passesD ps but D k).R=D.R∧(passesD ps but D k).n.M=D.n.M:=by
 induction k with
 | zero=>exact⟨rfl,rfl⟩
 | succ k ih=>
  rw [db_];obtain⟨h1,h2⟩:=bhd_ ps but (passesD ps but D k) k;exact⟨h1.trans ih.1,h2.trans ih.2⟩
theorem bhg_(ps:LP_)(D:EdD):(recDD ps D).R.length<=D.R.length+1∧ ∀r∈(recDD ps D).R,r∈D.R∨r.2=ps:=by
 unfold recDD;split
 ·refine⟨by simp,fun r hr=>?_⟩;rcases List.mem_append.1 hr with hr | hr
  ·exact .inl hr
  ·obtain rfl:r=(0,ps):=(by simpa using hr);exact .inr rfl
 ·exact⟨by omega,fun r hr=> .inl hr⟩
theorem xx_{ps:List PartD}{but:Int}{D:EdD}(hp:ps.length<=1048576)(hs: ∀x∈D.n.S,SmallS x)(hsl:D.n.S.length<=1048576)(hul:D.n.U.length<=1048577)(hu: ∀o∈D.n.U,o.length<=1048576)(hml:D.n.M.length<=1048577)(hpl:D.L.length<=1000000000)(hpo: ∀p∈D.L,p.p.frame.op.length<=1048576)(hrl:D.R.length<=1000000)(hro: ∀r∈D.R,r.2.length<=1048576):MidD (spreadD ps but D):=by
 have hn:=iu_ ps D;have hr:=bhg_ ps D;have hf:=ef_ ps but (recDD ps D) D.n.S.length;have hm:=xt_ (but:=but) (D:=recDD ps D) hp (by rw [hn.1];exact hs) D.n.S.length (by rw [hn.1];exact Nat.le_refl _);have hR:=bcz_ ps but (recDD ps D) D.n.S.length;have hU:=bdr_ ps but D;have hl:(spreadD ps but D).n.S.length=D.n.S.length:=by
  have:=hf.1;rw [hn.1]at this;exact this
 refine⟨by rw [hl];omega,fun x hx=>?_,by rw [hU];exact hul,by rw [hU];exact hu,?_,?_,fun p hp'=>?_,?_,fun r hr'=>?_⟩
 ·obtain⟨j,hj,rfl⟩:=List.getElem_of_mem hx;obtain⟨y,hy,hy2⟩:=hm.1 j (by omega);have:(spreadD ps but D).n.S[j]?=some y:=hy;rw [List.getElem?_eq_getElem hj]at this;rw [Option.some.inj this];exact hy2
 ·have:(spreadD ps but D).n.M=D.n.M:=hR.2.trans (by rw [hn.1]);rw [this];exact hml
 ·have:=hf.2.2;rw [hn.2]at this;show(passesD ps but (recDD ps D) D.n.S.length).L.length<=_;omega
 ·rcases hm.2 p hp' with hq | hq
  ·rw [hn.2]at hq;exact hpo p hq
  ·exact hq
 ·have:(spreadD ps but D).R=(recDD ps D).R:=hR.1;rw [this];have:=hr.1;omega
 ·have:(spreadD ps but D).R=(recDD ps D).R:=hR.1;rw [this]at hr';rcases hr.2 r hr' with hq | hq
  ·exact hro r hq
  ·rw [hq];exact hp
theorem fn_:MidD zeroD:=⟨by simp [zeroD,zeroN],by simp [zeroD,zeroN],by simp [zeroD,zeroN],by simp [zeroD,zeroN],by simp [zeroD,zeroN],by simp [zeroD],by simp [zeroD],by simp [zeroD],by simp [zeroD]⟩
theorem MidD.node{D:EdD}(h:MidD D){n:NodeV}(hd:n.d=D.n):n.Mid:=by
 have hS:n.S.map SideV.d=D.n.S:=congrArg NodeD.S hd;have hU:n.U.map OpV.ps=D.n.U:=congrArg NodeD.U hd;have hM:n.M=D.n.M:=congrArg NodeD.M hd;refine⟨?_,fun x hx=>?_,?_,fun o ho=>?_,?_⟩
 ·have:=congrArg List.length hS;rw [List.length_map]at this;rw [this];exact h.sl
 ·have h1:=h.sides x.d (by rw [<-hS];exact List.mem_map.2 ⟨x,hx,rfl⟩);refine⟨by simpa using h1.len,fun o ho=>h1.ops o.ps (List.mem_map.2 ⟨o,ho,rfl⟩),⟨by simpa using h1.s,by simpa using h1.q⟩,⟨yk_ h1.k.1,yk_ h1.k.2⟩⟩
 ·have:=congrArg List.length hU;rw [List.length_map]at this;rw [this];exact h.ul
 ·exact h.undo o.ps (by rw [<-hU];exact List.mem_map.2 ⟨o,ho,rfl⟩)
 ·rw [hM];exact h.ml
section
variable(w:World) (l:LinkV) (p:PacketV) (hT:Tabs w) (hi:l.In w) (hm:l.Small) (hf:OpIn (· <w.heap.size) w p.f.o.A p.f.o.ps) (hfm:p.f.Small) (hk:linkMay l) (he:packetFault p.d=0) (h0:l.e≠0) (h1:p.ep=l.e)
include w l p hT hi hm hf hfm hk he h0 h1
theorem bge_(K:Nat)(hK:(K:Int)=p.ak - (l.n - l.s.length)+1∧1<=K∧K<=l.s.length)(hb:p.b=false)(hn:p.nu=l.h+1)(hh:l.h<1048576):
 Calls Tryz.prog 73 #[l.val,packetV p.ep p.nu p.b p.ak p.f.k p.f.h p.f.e p.f.o.A p.f.o.ps.length p.f.o.c p.f.s] w (RetLHear w (fillL ⟨l.e,l.n,((l.s.map FrameV.d).drop K),l.q.map FrameV.d,(l.h+1)⟩) p.f.d true (fillP ⟨l.e,l.n,((l.s.map FrameV.d).drop K),l.q.map FrameV.d,(l.h+1)⟩++ [bareX ⟨l.e,l.n,((l.s.map FrameV.d).drop K),l.q.map FrameV.d,(l.h+1)⟩]) 0):=by
 have vJ:=h_ trivial;exact m5_
theorem bee_(hsc:l.s.length<=l.sc)(K:Nat)(hK:(K:Int)=p.ak - (l.n - l.s.length)+1∧1<=K∧K<=l.s.length)(hb:p.b=false)(hn:p.nu≠l.h+1):
 Calls Tryz.prog 79 #[l.val,packetV p.ep p.nu p.b p.ak p.f.k p.f.h p.f.e p.f.o.A p.f.o.ps.length p.f.o.c p.f.s] w (RetLHear w (fillL ⟨l.e,l.n,((l.s.map FrameV.d).drop K),l.q.map FrameV.d,l.h⟩) zeroF.d false (fillP ⟨l.e,l.n,((l.s.map FrameV.d).drop K),l.q.map FrameV.d,l.h⟩++ [bareX ⟨l.e,l.n,((l.s.map FrameV.d).drop K),l.q.map FrameV.d,l.h⟩]) 0):=by
 have vG:=h_ trivial;exact m3_
end
theorem bag_{p:PacketD}(he:packetFault p=0):p.number<=1048576:=by
 exact m256_
theorem er_(x:LinkD)(p:PacketD)(C:LinkD->FrameD->Bool->List PacketD->Prop)(he:packetFault p=0)(S:List FrameD)(hS:ackS x p.ack=S)
 (hb:p.bare=true->C (fillL ⟨x.e,x.n,S,x.q,x.h⟩) zeroF.d false (fillP ⟨x.e,x.n,S,x.q,x.h⟩))
 (hn:p.bare=false->p.number≠x.h+1->C (fillL ⟨x.e,x.n,S,x.q,x.h⟩) zeroF.d false (fillP ⟨x.e,x.n,S,x.q,x.h⟩++ [bareX ⟨x.e,x.n,S,x.q,x.h⟩]))
 (ht:p.bare=false->p.number=x.h+1->x.h<1048576->C (fillL ⟨x.e,x.n,S,x.q,x.h+1⟩) p.frame true (fillP ⟨x.e,x.n,S,x.q,x.h+1⟩++ [bareX ⟨x.e,x.n,S,x.q,x.h+1⟩])):
 C (fillL (nextL x p)) (heardF x p) (decide (isNext x p)) (heardPk x p):=by
 have hN:=bag_ he;have hL:nextL x p=⟨x.e,x.n,S,x.q,nextH x p⟩:=by
  unfold nextL;rw [hS]
 unfold heardPk;rw [hL];by_cases h1:p.bare=true
 ·have hx: ¬isNext x p:=fun h=>by rw [h.1]at h1;cases h1
  rw [show nextH x p=x.h from if_neg hx,show heardF x p=zeroF.d from if_neg hx,if_pos h1,decide_eq_false hx];exact hb h1
 ·have h2:p.bare=false:=by simpa using h1
  by_cases h3:p.number=x.h+1
  ·have hx:isNext x p:=⟨h2,h3⟩
   rw [show nextH x p=x.h+1 from if_pos hx,show heardF x p=p.frame from if_pos hx,if_neg h1,decide_eq_true hx];exact ht h2 h3 (by omega)
  ·have hx: ¬isNext x p:=fun h=>h3 h.2;rw [show nextH x p=x.h from if_neg hx,show heardF x p=zeroF.d from if_neg hx,if_neg h1,decide_eq_false hx];exact hn h2 h3
section
variable(w:World) (l:LinkV) (p:PacketV) (hT:Tabs w) (hi:l.In w) (hm:l.Small) (hf:OpIn (· <w.heap.size) w p.f.o.A p.f.o.ps) (hfm:p.f.Small) (hk:linkMay l) (he:packetFault p.d=0) (h0:l.e≠0) (h1:p.ep=l.e)
include w l p hT hi hm hf hfm hk he h0 h1
theorem bgg_:
 Calls Tryz.prog 73 #[l.val,packetV p.ep p.nu p.b p.ak p.f.k p.f.h p.f.e p.f.o.A p.f.o.ps.length p.f.o.c p.f.s] w (RetLHear w (fillL (nextL l.d p.d)) (heardF l.d p.d) (decide (isNext l.d p.d)) (heardPk l.d p.d) 0):=by
 by_cases hw:inWin l.d p.ak
 ·have k241_:K_ (∀(P:Prop) (h:P:=by
  exact er_ l.d p.d (fun D FD t P=>Calls Tryz.prog 73 #[l.val,packetV p.ep p.nu p.b p.ak p.f.k p.f.h p.f.e p.f.o.A p.f.o.ps.length p.f.o.c p.f.s] w (RetLHear w D FD t P 0)) he _ (if_pos hw)
   (fun hb=>bgc_ w l p hT hi hm hf hfm hk he h0 h1 _ hK hb)
   (fun hb hn=>bgd_ w l p hT hi hm hf hfm hk he h0 h1 _ hK hb hn)
   (fun hb hn hh=>bge_ w l p hT hi hm hf hfm hk he h0 h1 _ hK hb hn hh)
  ),P):=⟨@q6_⟩
  exact m241_
 ·have hw2:=hw;unfold inWin at hw2;rw [show(l.d.s.length:Int)=l.s.length by simp,show l.d.n=l.n from rfl]at hw2;by_cases hA:p.ak<l.n - l.s.length
  ·exact er_ l.d p.d (fun D FD t P=>Calls Tryz.prog 73 #[l.val,packetV p.ep p.nu p.b p.ak p.f.k p.f.h p.f.e p.f.o.A p.f.o.ps.length p.f.o.c p.f.s] w (RetLHear w D FD t P 0)) he _ (if_neg hw)
    (fun hb=>bgf_ w l p hT hi hm hf hfm hk he h0 h1 hA hb)
    (fun hb hn=>bgh_ w l p hT hi hm hf hfm hk he h0 h1 hA hb hn)
    (fun hb hn hh=>bgi_ w l p hT hi hm hf hfm hk he h0 h1 hA hb hn hh)
  ·have hA':l.n - l.s.length<=p.ak∧l.n<=p.ak:=(by omega);exact er_ l.d p.d (fun D FD t P=>Calls Tryz.prog 73 #[l.val,packetV p.ep p.nu p.b p.ak p.f.k p.f.h p.f.e p.f.o.A p.f.o.ps.length p.f.o.c p.f.s] w (RetLHear w D FD t P 0)) he _ (if_neg hw)
    (fun hb=>bgj_ w l p hT hi hm hf hfm hk he h0 h1 hA' hb)
    (fun hb hn=>bgk_ w l p hT hi hm hf hfm hk he h0 h1 hA' hb hn)
    (fun hb hn hh=>bgl_ w l p hT hi hm hf hfm hk he h0 h1 hA' hb hn hh)
theorem beh_(hsc:l.s.length<=l.sc):
 Calls Tryz.prog 79 #[l.val,packetV p.ep p.nu p.b p.ak p.f.k p.f.h p.f.e p.f.o.A p.f.o.ps.length p.f.o.c p.f.s] w (RetLHear w (fillL (nextL l.d p.d)) (heardF l.d p.d) (decide (isNext l.d p.d)) (heardPk l.d p.d) 0):=by
 by_cases hw:inWin l.d p.ak
 ·have k241_:K_ (∀(P:Prop) (h:P:=by
  exact er_ l.d p.d (fun D FD t P=>Calls Tryz.prog 79 #[l.val,packetV p.ep p.nu p.b p.ak p.f.k p.f.h p.f.e p.f.o.A p.f.o.ps.length p.f.o.c p.f.s] w (RetLHear w D FD t P 0)) he _ (if_pos hw)
   (fun hb=>bed_ w l p hT hi hm hf hfm hk he h0 h1 hsc _ hK hb)
   (fun hb hn=>bee_ w l p hT hi hm hf hfm hk he h0 h1 hsc _ hK hb hn)
   (fun hb hn hh=>bef_ w l p hT hi hm hf hfm hk he h0 h1 hsc _ hK hb hn hh)
  ),P):=⟨@q6_⟩
  exact m241_
 ·have hw2:=hw;unfold inWin at hw2;rw [show(l.d.s.length:Int)=l.s.length by simp,show l.d.n=l.n from rfl]at hw2;by_cases hA:p.ak<l.n - l.s.length
  ·exact er_ l.d p.d (fun D FD t P=>Calls Tryz.prog 79 #[l.val,packetV p.ep p.nu p.b p.ak p.f.k p.f.h p.f.e p.f.o.A p.f.o.ps.length p.f.o.c p.f.s] w (RetLHear w D FD t P 0)) he _ (if_neg hw)
    (fun hb=>beg_ w l p hT hi hm hf hfm hk he h0 h1 hA hb)
    (fun hb hn=>bei_ w l p hT hi hm hf hfm hk he h0 h1 hA hb hn)
    (fun hb hn hh=>bej_ w l p hT hi hm hf hfm hk he h0 h1 hA hb hn hh)
  ·have hA':l.n - l.s.length<=p.ak∧l.n<=p.ak:=(by omega);exact er_ l.d p.d (fun D FD t P=>Calls Tryz.prog 79 #[l.val,packetV p.ep p.nu p.b p.ak p.f.k p.f.h p.f.e p.f.o.A p.f.o.ps.length p.f.o.c p.f.s] w (RetLHear w D FD t P 0)) he _ (if_neg hw)
    (fun hb=>bek_ w l p hT hi hm hf hfm hk he h0 h1 hA' hb)
    (fun hb hn=>bel_ w l p hT hi hm hf hfm hk he h0 h1 hA' hb hn)
    (fun hb hn hh=>bem_ w l p hT hi hm hf hfm hk he h0 h1 hA' hb hn hh)
end
end Go.Proofs.YtacacoklddogmaaGreatDoor
