/- Lemmas. -/
import Derived.Test.YtacacoklddogmaaGreatDoorKSendX
import Derived.BigRegion
namespace Go.Proofs.YtacacoklddogmaaGreatDoor
set_option maxHeartbeats 4000000
open Go.ChangeShapes Go.WideShapes Go.ChangeAt Go.RowKit
set_option maxRecDepth 100000
theorem m128_{P:Prop}(h:P:=by
 have hg:n.S.getD s default=n.S[s]:=by rw [List.getD_eq_getElem?_getD,List.getElem?_eq_getElem hs];rfl
 have hbw:base≤w.heap.size:=by have:=h.busy.lo;have:=h.busy.lt;omega
 by_cases hE:sendE n.S[s].k f.d=0
 ·have h1:=hE;unfold sendE at h1;split at h1
  ·cases h1
  rename_i c1;split at h1
  ·cases h1
  rename_i c2;split at h1
  ·rename_i c3;exact absurd h1 c3
  rename_i c3;split at h1
  ·cases h1
  rename_i c4;first
  |guard_hyp vCB
   refine(wk_ w base X n A c L (.slice RA RL.length rc) _ s hs f hT h.busy hm hf hfm (by simpa using c1) c2 (by simpa using c3) c4 hl).mono ?_
  |refine(or_ w base X n A c L (.slice RA RL.length rc) _ s hs f hT h.busy hm hf hfm (by simpa using c1) c2 (by simpa using c3) c4 hl).mono ?_
  rintro e w' ⟨rfl,l',A',c',L',hB,hd,hP,hb,ht⟩;refine⟨rfl,n.link s l',A',c',L',h.touched ⟨rfl,rfl,rfl⟩ ⟨rfl,rfl,rfl⟩ (by simp [NodeV.sOwn,NodeV.link]) hB ht,?_,?_,hb⟩
  ·rw [ki_,hd];unfold sentD;rw [hg,if_pos hE]
  ·rw [hP];unfold sentP;rw [hg,if_pos hE]
 ·first
  |guard_hyp vCB
   refine(wj_ w base X n A c L (.slice RA RL.length rc) _ s hs f hT h.busy hm hf hfm hE).mono ?_
  |refine(oq_ w base X n A c L (.slice RA RL.length rc) _ s hs f hT h.busy hm hf hfm hE).mono ?_
  rintro e w' ⟨rfl,hb⟩;refine⟨rfl,n,A,c,L,h.la hb,?_,?_,hb.mono hbw⟩
  ·unfold sentD;rw [hg,if_neg hE]
  ·unfold sentP;rw [hg,if_neg hE];simp):P:=h
theorem m148_{P:Prop}(h:P:=by
 simp only [List.mem_cons,List.not_mem_nil,or_false]at hr;have old: ∀r∈ [n.mOwn,n.uOwn,(Value.slice RA RL.length rc).ownBlock],r=some y→(y<W4.heap.size∧y≠X)∧(Value.slice A L.length c).ownBlock≠some y∧(Value.slice n.sA n.S.length n.sc).ownBlock≠some y:=fun r hr hy=>by
  have h9:=h2.busy.exl r hr y hy;exact⟨⟨by have:=h9.1.1;omega,h9.1.2⟩,h9.2⟩
 exact k148_.o _):P:=h
theorem m203_{P:Prop}(h:P:=by
 rcases hat with q | q
 ·exact old _ (by simp) (q.symm.trans hy2)
 ·have hl:=(hown.lt y hy2).2;rw [q]at hy2;have hy':=Option.some.inj hy2;exact⟨⟨by omega,by omega⟩,fun e=>by have:=(h2.busy.prow.lt y e).2;omega,fun e=>by have:=(h2.busy.srow.lt y e).2;omega⟩):P:=h
theorem m258_{P:Prop}(h:P:=by
 rcases hat with q | q
 ·exact hne (q.symm.trans e)
 ·rw [q]at e;have:=Option.some.inj e;omega):P:=h
abbrev NodeV.mOwn (n:NodeV):Option Nat:=(Value.slice n.mA n.M.length n.mc).ownBlock
abbrev NodeV.sOwn (n:NodeV):Option Nat:=(Value.slice n.sA n.S.length n.sc).ownBlock
abbrev NodeV.uOwn (n:NodeV):Option Nat:=(Value.slice n.uA n.U.length n.uc).ownBlock
structure EditAt (T:TypeId) (W:World) (base X:Nat) (n:NodeV) (A:OA_) (c:Nat) (L:List PostV) (RA:OA_) (rc:Nat) (RL:List RecV):Prop where
 busy:BusyX T W base X n A c L (.slice RA RL.length rc) [n.mOwn,n.uOwn,(Value.slice RA RL.length rc).ownBlock]
 mrow:W.ownsRow base 53 2 (.slice n.mA n.M.length n.mc) n.M.length (n.M.flatMap markCells)
 urow:W.ownsRow base 30 1 (.slice n.uA n.U.length n.uc) n.U.length (n.U.map OpV.val)
 rrow:W.ownsRow (X+1) 119 2 (.slice RA RL.length rc) RL.length (RL.flatMap RecV.cells)
 undo: ∀o∈n.U,OpIn (FreeX W base X (Value.slice A L.length c).ownBlock n.sOwn [n.mOwn,n.uOwn,(Value.slice RA RL.length rc).ownBlock]) W o.A o.ps
 rops: ∀x∈RL,OpIn (FreeX W base X (Value.slice A L.length c).ownBlock n.sOwn [n.mOwn,n.uOwn,(Value.slice RA RL.length rc).ownBlock]) W x.o.A x.o.ps
theorem EditAt.new{T:TypeId}{W2 W:World}{base X:Nat}{n:NodeV}(h:NodeFree W2 base n)(hX:X=W2.heap.size)(hlo:base≤X)(hb:Below W2.heap.size W2 W)(hblk:W.heap[X]?=some (.cells (turnCells n (.slice none 0 0) (.slice none 0 0)) T (0,0))):EditAt T W base X n none 0 [] none 0 []:=by
 have hXW:X<W.heap.size:=(Array.getElem?_eq_some_iff.1 hblk).1;have key: ∀b,((base≤b∧b<W2.heap.size)∧n.mOwn≠some b∧n.sOwn≠some b∧n.uOwn≠some b)→FreeX W base X (Value.slice none 0 0).ownBlock n.sOwn [n.mOwn,n.uOwn,(Value.slice none 0 0).ownBlock] b∧W.heap[b]?=W2.heap[b]?:=fun b k=>
  ⟨⟨⟨k.1.1,by have:=k.1.2;omega⟩,by have:=k.1.2;omega,by simp [Value.ownBlock],k.2.2.1,fun r hr=>by
   simp only [List.mem_cons,List.not_mem_nil,or_false]at hr;rcases hr with rfl | rfl | rfl
   · exact k.2.1
   · exact k.2.2.2
   · simp [Value.ownBlock]⟩,hb.block b k.1.2⟩
 refine⟨⟨fun r hr y hy=>?_,hlo,hblk,World.ownsRow_nil _ _ _ _,cx_ h.srow hb,by simp,fun x hx=>(h.side x hx).mv key⟩,cx_ h.mrow hb,cx_ h.urow hb,World.ownsRow_nil _ _ _ _,fun o ho=>(h.undo o ho).mv key,by simp⟩;simp only [List.mem_cons,List.not_mem_nil,or_false]at hr;rcases hr with rfl | rfl | rfl
 ·have h1:=h.mrow.lt y hy;exact⟨⟨by omega,by omega⟩,by simp [Value.ownBlock],cl_ h.mrow h.srow (by decide) hy⟩
 ·have h1:=h.urow.lt y hy;exact⟨⟨by omega,by omega⟩,by simp [Value.ownBlock],cl_ h.urow h.srow (by decide) hy⟩
 ·simp [Value.ownBlock]at hy
theorem EditAt.touched{T:TypeId}{W W':World}{base X:Nat}{n n':NodeV}{A A' RA:Option Addr}{c c' rc:Nat}{L L':List PostV}{RL:List RecV}(h:EditAt T W base X n A c L RA rc RL)
 (hm:n'.mA=n.mA∧n'.mc=n.mc∧n'.M=n.M) (hu:n'.uA=n.uA∧n'.uc=n.uc∧n'.U=n.U) (hs:n'.sOwn=n.sOwn)
 (hB:BusyX T W' base X n' A' c' L' (.slice RA RL.length rc) [n.mOwn,n.uOwn,(Value.slice RA RL.length rc).ownBlock]) (ht:Touch W W' X (Value.slice A L.length c).ownBlock n.sOwn (Value.slice A' L'.length c').ownBlock):EditAt T W' base X n' A' c' L' RA rc RL:=by
 have hmo:n'.mOwn=n.mOwn:=by unfold NodeV.mOwn;rw [hm.1,hm.2.1,hm.2.2]
 have huo:n'.uOwn=n.uOwn:=by unfold NodeV.uOwn;rw [hu.1,hu.2.1,hu.2.2]
 have keep: ∀r∈ [n.mOwn,n.uOwn,(Value.slice RA RL.length rc).ownBlock],∀y,r=some y→W'.heap[y]?=W.heap[y]?:=fun r hr y hy=>by
  have h9:=h.busy.exl r hr y hy;exact ht.block y h9.1.1 h9.1.2 h9.2.1 h9.2.2
 have key: ∀b,FreeX W base X (Value.slice A L.length c).ownBlock n.sOwn [n.mOwn,n.uOwn,(Value.slice RA RL.length rc).ownBlock] b→FreeX W' base X (Value.slice A' L'.length c').ownBlock n'.sOwn [n'.mOwn,n'.uOwn,(Value.slice RA RL.length rc).ownBlock] b∧W'.heap[b]?=W.heap[b]?:=fun b k=>by
  rw [hmo,huo,hs];refine⟨⟨⟨k.1.1,Nat.lt_of_lt_of_le k.1.2 ht.size⟩,k.2.1,fun e=>?_,k.2.2.2.1,k.2.2.2.2⟩,ht.block b k.1.2 k.2.1 k.2.2.1 k.2.2.2.1⟩;rcases ht.own with e1 | e1
  ·exact k.2.2.1 (e1.symm.trans e)
  ·have:=e1 b e;have:=k.1.2;omega
 refine⟨by rw [hmo,huo];exact hB,?_,?_,ba_ h.rrow (keep _ (by simp)),fun o ho=>?_,fun x hx=>(h.rops x hx).mv key⟩
 ·rw [hm.1,hm.2.1,hm.2.2];exact ba_ h.mrow (keep _ (by simp))
 ·rw [hu.1,hu.2.1,hu.2.2];exact ba_ h.urow (keep _ (by simp))
 ·rw [hu.2.2]at ho;exact(h.undo o ho).mv key
theorem EditAt.la{T:TypeId}{W W':World}{base X:Nat}{n:NodeV}{A RA:Option Addr}{c rc:Nat}{L:List PostV}{RL:List RecV}(h:EditAt T W base X n A c L RA rc RL)(hb:Below W.heap.size W W'):EditAt T W' base X n A c L RA rc RL:=
 h.touched ⟨rfl,rfl,rfl⟩ ⟨rfl,rfl,rfl⟩ rfl (h.busy.la hb) (Touch.of_below hb)
def NodeV.edge (n:NodeV) (s:Nat) (es eh:Int) (eA:OA_) (ec:Nat) (eL:List OpV):NodeV:=⟨n.me,n.ep,n.up,n.rd,n.t,n.sA,n.sc,n.S.set s ⟨(n.S.getD s default).p,(n.S.getD s default).j,es,eh,eA,ec,eL,(n.S.getD s default).k⟩,n.uA,n.uc,n.U,n.mA,n.mc,n.M⟩
theorem BusyX.setEdge{T:TypeId}{W:World}{base X:Nat}{n:NodeV}{A:Option Addr}{c:Nat}{L:List PostV}{R:Value}{ex:List (Option Nat)}(hT:T≠60)(h:BusyX T W base X n A c L R ex){s:Nat}(hs:s<n.S.length){g:Nat}(hg:n.sA=some ⟨g,0,none⟩)(es eh:Int)(eA:OA_)(ec:Nat)(eL:List OpV)
 (hl:OpsS (FreeX W base X (Value.slice A L.length c).ownBlock (Value.slice n.sA n.S.length n.sc).ownBlock ex) W eA eL):
 BusyX T (((W.setCell ⟨g,s*10+2,none⟩ (.int .i64 es)).setCell ⟨g,s*10+3,none⟩ (.int .i64 eh)).setCell ⟨g,s*10+4,none⟩ (.slice eA eL.length ec)) base X (n.edge s es eh eA ec eL) A c L R ex:=by
 have hlen:(n.edge s es eh eA ec eL).S.length=n.S.length:=by simp [NodeV.edge]
 have hQ:(Value.slice n.sA n.S.length n.sc).ownBlock=some g:=by rw [hg];rfl
 have hr:=h.srow;rw [hg]at hr;obtain⟨r1,t1⟩:=hr.stored (s*10+2) (.int .i64 es);obtain⟨r2,t2⟩:=r1.stored (s*10+3) (.int .i64 eh);obtain⟨r3,t3⟩:=r2.stored (s*10+4) (.slice eA eL.length ec);have tt:=((Turned.of_grown (B:=g) t1).trans (Turned.of_grown t2) (.inl rfl)).trans (Turned.of_grown t3) (.inl rfl);have hz:((((W.setCell ⟨g,s*10+2,none⟩ (.int .i64 es)).setCell ⟨g,s*10+3,none⟩ (.int .i64 eh)).setCell ⟨g,s*10+4,none⟩ (.slice eA eL.length ec)).heap.size)=W.heap.size:=by simp [World.setCell]
 generalize(((W.setCell ⟨g,s*10+2,none⟩ (.int .i64 es)).setCell ⟨g,s*10+3,none⟩ (.int .i64 eh)).setCell ⟨g,s*10+4,none⟩ (.slice eA eL.length ec))=W5 at*;have hgX:g≠X:=fun e=>s_ h.srow h.blk hT (by rw [hQ,e]);have hgP:(Value.slice A L.length c).ownBlock≠some g:=cl_ h.srow h.prow (by decide) hQ;have hf: ∀b,FreeX W base X (Value.slice A L.length c).ownBlock (Value.slice n.sA n.S.length n.sc).ownBlock ex b→FreeX W5 base X (Value.slice A L.length c).ownBlock (Value.slice (n.edge s es eh eA ec eL).sA (n.edge s es eh eA ec eL).S.length (n.edge s es eh eA ec eL).sc).ownBlock ex b∧W5.heap[b]?=W.heap[b]?:=fun b k=>by
  exact m245_
 have hrow:W5.ownsRow base 60 10 (.slice (n.edge s es eh eA ec eL).sA (n.edge s es eh eA ec eL).S.length (n.edge s es eh eA ec eL).sc) (n.edge s es eh eA ec eL).S.length ((n.edge s es eh eA ec eL).S.flatMap SideV.cells):=by
  rw [hlen];show W5.ownsRow base 60 10 (.slice n.sA n.S.length n.sc) n.S.length ((n.edge s es eh eA ec eL).S.flatMap SideV.cells);rw [hg];have e:(((n.S.flatMap SideV.cells).set (s*10+2) (.int .i64 es)).set (s*10+3) (.int .i64 eh)).set (s*10+4) (.slice eA eL.length ec)=(n.edge s es eh eA ec eL).S.flatMap SideV.cells:=by
   have hM: ∀r∈n.S.map SideV.cells,r.length=10:=fun r hr=>by
    exact m277_
   have hsM:s<(n.S.map SideV.cells).length:=(by simpa using hs);rw [List.flatMap_def,List.flatMap_def,fg_ 10 _ _ hM s 2 hsM (by omega),ce_ 10 _ _ hM s 3 hsM (by omega) _ (by simp [SideV.cells_len]),ce_ 10 _ _ hM s 4 hsM (by omega) _ (by simp [SideV.cells_len])];unfold NodeV.edge;dsimp only;rw [List.map_set];congr 2;rw [List.getElem_map,List.getD_eq_getElem?_getD,List.getElem?_eq_getElem hs];rfl
  rw [←e];exact r3
 refine⟨fun r hr y hy=>?_,h.lo,?_,?_,hrow,fun x hx=>(h.pops x hx).mv fun b k=>⟨⟨k.1,(hf b k.2).1⟩,(hf b k.2).2⟩,fun x hx=>?_⟩
 ·have h9:=h.exl r hr y hy;rw [hz,hlen];exact h9
 ·have:=(tt.block X h.lt (fun e=>hgX e.symm) (by simpa using fun e=>hgX e.symm)).trans h.blk;rw [show turnCells (n.edge s es eh eA ec eL) (.slice A L.length c) R=turnCells n (.slice A L.length c) R by simp only [turnCells,hlen];rfl];exact this
 ·exact m197_
 ·have hx':x∈n.S.set s ⟨(n.S.getD s default).p,(n.S.getD s default).j,es,eh,eA,ec,eL,(n.S.getD s default).k⟩:=hx;rcases List.mem_or_eq_of_mem_set hx' with hm | rfl
  ·exact(h.side x hm).mv hf
  ·have hd:=h.side (n.S.getD s default) (by rw [List.getD_eq_getElem?_getD,List.getElem?_eq_getElem hs];exact List.getElem_mem hs);have hl':=hl.mv hf;exact⟨hl'.row,hl'.each,hd.s.mv hf,fun o ho=>(hd.so o ho).mv hf,hd.q.mv hf,fun o ho=>(hd.qo o ho).mv hf⟩
structure TurnT (T:TypeId):Prop where
 p:T≠79
 r:T≠119
 s:T≠60
 u:T≠30
 m:T≠53
theorem bi_:TurnT 71:=⟨by decide,by decide,by decide,by decide,by decide⟩
theorem bn_:TurnT 35:=⟨by decide,by decide,by decide,by decide,by decide⟩
section
variable {T:TypeId}{W W':World}{base X:Nat}{n n':NodeV}{A RA:Option Addr}{c rc:Nat}{L:List PostV}{RL:List RecV}
theorem EditAt.turn(hT:TurnT T)(h:EditAt T W base X n A c L RA rc RL)(hO:Only X W W')(hn:n'.sA=n.sA∧n'.sc=n.sc∧n'.S=n.S)(hm:n'.mA=n.mA∧n'.mc=n.mc∧n'.M=n.M)(hu:n'.uA=n.uA∧n'.uc=n.uc∧n'.U=n.U)
 (hb:W'.heap[X]?=some (.cells (turnCells n' (.slice A L.length c) (.slice RA RL.length rc)) T (0,0))):EditAt T W' base X n' A c L RA rc RL:=by
 have hmo:n'.mOwn=n.mOwn:=by unfold NodeV.mOwn;rw [hm.1,hm.2.1,hm.2.2]
 have huo:n'.uOwn=n.uOwn:=by unfold NodeV.uOwn;rw [hu.1,hu.2.1,hu.2.2]
 have hso:n'.sOwn=n.sOwn:=by unfold NodeV.sOwn;rw [hn.1,hn.2.1,hn.2.2]
 have kp: ∀b,(Value.slice A L.length c).ownBlock=some b→W'.heap[b]?=W.heap[b]?:=fun b hb=>hO.block b (h.busy.prow.lt b hb).2 (fun e=>s_ h.busy.prow h.busy.blk hT.p (by rw [hb,e]));have ks: ∀b,n.sOwn=some b→W'.heap[b]?=W.heap[b]?:=fun b hb=>hO.block b (h.busy.srow.lt b hb).2 (fun e=>s_ h.busy.srow h.busy.blk hT.s (by rw [←e];exact hb));have km: ∀b,n.mOwn=some b→W'.heap[b]?=W.heap[b]?:=fun b hb=>hO.block b (h.mrow.lt b hb).2 (fun e=>s_ h.mrow h.busy.blk hT.m (by rw [←e];exact hb));have ku: ∀b,n.uOwn=some b→W'.heap[b]?=W.heap[b]?:=fun b hb=>hO.block b (h.urow.lt b hb).2 (fun e=>s_ h.urow h.busy.blk hT.u (by rw [←e];exact hb));have kr: ∀b,(Value.slice RA RL.length rc).ownBlock=some b→W'.heap[b]?=W.heap[b]?:=fun b hb=>hO.block b (h.rrow.lt b hb).2 (fun e=>s_ h.rrow h.busy.blk hT.r (by rw [hb,e]));have key: ∀b,FreeX W base X (Value.slice A L.length c).ownBlock n.sOwn [n.mOwn,n.uOwn,(Value.slice RA RL.length rc).ownBlock] b→FreeX W' base X (Value.slice A L.length c).ownBlock n'.sOwn [n'.mOwn,n'.uOwn,(Value.slice RA RL.length rc).ownBlock] b∧W'.heap[b]?=W.heap[b]?:=fun b k=>by
  rw [hmo,huo,hso];exact⟨⟨⟨k.1.1,Nat.lt_of_lt_of_le k.1.2 hO.size⟩,k.2⟩,hO.block b k.1.2 k.2.1⟩
 refine⟨⟨fun r hr y hy=>?_,h.busy.lo,hb,ba_ h.busy.prow kp,?_,fun x hx=>(h.busy.pops x hx).mv fun b k=>⟨⟨k.1,(key b k.2).1⟩,(key b k.2).2⟩,fun x hx=>?_⟩,?_,?_,ba_ h.rrow kr,fun o ho=>?_,fun x hx=>(h.rops x hx).mv key⟩
 ·rw [hmo,huo]at hr;have h9:=h.busy.exl r hr y hy;have hs9:(Value.slice n'.sA n'.S.length n'.sc).ownBlock=(Value.slice n.sA n.S.length n.sc).ownBlock:=hso;rw [hs9];exact⟨⟨Nat.lt_of_lt_of_le h9.1.1 hO.size,h9.1.2⟩,h9.2⟩
 ·rw [hn.1,hn.2.1,hn.2.2];exact ba_ h.busy.srow ks
 ·rw [hn.2.2]at hx;exact(h.busy.side x hx).mv key
 ·rw [hm.1,hm.2.1,hm.2.2];exact ba_ h.mrow km
 ·rw [hu.1,hu.2.1,hu.2.2];exact ba_ h.urow ku
 ·rw [hu.2.2]at ho;exact(h.undo o ho).mv key
end
section
variable {T:TypeId}{w W2 w3:World}{base X:Nat}{n:NodeV}{A RA RA':Option Addr}{c rc rc':Nat}{L:List PostV}{RL:List RecV}{x:RecV}
theorem EditAt.record(hT:TurnT T)(h:EditAt T w base X n A c L RA rc RL)(hW:Below w.heap.size w W2)(hx:OpIn (fun b=>w.heap.size≤b∧b<W2.heap.size) W2 x.o.A x.o.ps)(hg:W2.grownBy w3 (Value.slice RA RL.length rc).ownBlock)
 (hown:w3.ownsRow (X+1) 119 2 (.slice RA' (RL.length+1) rc') (RL.length+1) (RL.flatMap RecV.cells++x.cells))
 (hat:(Value.slice RA' (RL.length+1) rc').ownBlock=(Value.slice RA RL.length rc).ownBlock∨(Value.slice RA' (RL.length+1) rc').ownBlock=some W2.heap.size):
 EditAt T (w3.setCell ⟨X,9,none⟩ (.slice RA' (RL.length+1) rc')) base X n A c L RA' rc' (RL++ [x])∧Touch w (w3.setCell ⟨X,9,none⟩ (.slice RA' (RL.length+1) rc')) X (Value.slice RA RL.length rc).ownBlock none (Value.slice RA' (RL.length+1) rc').ownBlock:=by
 have h2:=h.la hW;have hXl:=h2.busy.lt;have hlen:(RL++ [x]).length=RL.length+1:=by simp
 have hz:=hW.size;have hz3:=hg.size;have hs4:(w3.setCell ⟨X,9,none⟩ (.slice RA' (RL.length+1) rc')).heap.size=w3.heap.size:=by simp [World.setCell]
 have hneX:(Value.slice RA RL.length rc).ownBlock≠some X:=s_ h2.rrow h2.busy.blk hT.r;have hX3:=(hg.block X hXl (fun e=>hneX e.symm)).trans h2.busy.blk;have hneX':(Value.slice RA' (RL.length+1) rc').ownBlock≠some X:=s_ hown hX3 hT.r;generalize hW4:w3.setCell ⟨X,9,none⟩ (.slice RA' (RL.length+1) rc')=W4 at*;have hX4:W4.heap[X]?=some (.cells (turnCells n (.slice A L.length c) (.slice RA' (RL.length+1) rc')) T (0,0)):=by rw [←hW4];exact f_ 9 _ hX3
 have hb4: ∀b,b≠X→W4.heap[b]?=w3.heap[b]?:=fun b hb=>by rw [←hW4];exact bH_ hb
 have hk: ∀b,b<W2.heap.size→b≠X→(Value.slice RA RL.length rc).ownBlock≠some b→W4.heap[b]?=W2.heap[b]?:=fun b h8 h9 h10=>(hb4 b h9).trans (hg.block b h8 (fun e=>h10 e.symm));have hnew: ∀b,b<W2.heap.size→(Value.slice RA RL.length rc).ownBlock≠some b→(Value.slice RA' (RL.length+1) rc').ownBlock≠some b:=fun b hb hne e=>by
  exact m258_
 have kp: ∀b,(Value.slice A L.length c).ownBlock=some b→W4.heap[b]?=W2.heap[b]?:=fun b hb=>hk b (h2.busy.prow.lt b hb).2 (fun e=>s_ h2.busy.prow h2.busy.blk hT.p (by rw [hb,e])) (cl_ h2.busy.prow h2.rrow (by decide) hb);have ks: ∀b,n.sOwn=some b→W4.heap[b]?=W2.heap[b]?:=fun b hb=>hk b (h2.busy.srow.lt b hb).2 (fun e=>s_ h2.busy.srow h2.busy.blk hT.s (by rw [←e];exact hb)) (cl_ h2.busy.srow h2.rrow (by decide) hb);have km: ∀b,n.mOwn=some b→W4.heap[b]?=W2.heap[b]?:=fun b hb=>hk b (h2.mrow.lt b hb).2 (fun e=>s_ h2.mrow h2.busy.blk hT.m (by rw [←e];exact hb)) (cl_ h2.mrow h2.rrow (by decide) hb);have ku: ∀b,n.uOwn=some b→W4.heap[b]?=W2.heap[b]?:=fun b hb=>hk b (h2.urow.lt b hb).2 (fun e=>s_ h2.urow h2.busy.blk hT.u (by rw [←e];exact hb)) (cl_ h2.urow h2.rrow (by decide) hb);have key: ∀b,FreeX W2 base X (Value.slice A L.length c).ownBlock n.sOwn [n.mOwn,n.uOwn,(Value.slice RA RL.length rc).ownBlock] b→FreeX W4 base X (Value.slice A L.length c).ownBlock n.sOwn [n.mOwn,n.uOwn,(Value.slice RA' (RL.length+1) rc').ownBlock] b∧W4.heap[b]?=W2.heap[b]?:=fun b k=>by
  have hr:(Value.slice RA RL.length rc).ownBlock≠some b:=k.2.2.2.2 _ (by simp);refine⟨⟨⟨k.1.1,by have:=k.1.2;omega⟩,k.2.1,k.2.2.1,k.2.2.2.1,fun r hr'=>?_⟩,hk b k.1.2 k.2.1 hr⟩;simp only [List.mem_cons,List.not_mem_nil,or_false]at hr';rcases hr' with rfl | rfl | rfl
  ·exact k.2.2.2.2 _ (by simp)
  ·exact k.2.2.2.2 _ (by simp)
  ·exact hnew b k.1.2 hr
 have hfr: ∀b,w.heap.size≤b→b<W2.heap.size→FreeX W2 base X (Value.slice A L.length c).ownBlock n.sOwn [n.mOwn,n.uOwn,(Value.slice RA RL.length rc).ownBlock] b:=fun b h8 h9=>
  ⟨⟨by have:=h.busy.lt;have:=h.busy.lo;omega,h9⟩,by have:=h.busy.lt;omega,fun e=>by have:=(h.busy.prow.lt b e).2;omega,fun e=>by have:=(h.busy.srow.lt b e).2;omega,fun r hr e=>by have:=(h.busy.exl r hr b e).1.1;omega⟩
 refine⟨⟨⟨fun r hr y hy=>?_,h2.busy.lo,by rw [hlen];exact hX4,ba_ h2.busy.prow kp,ba_ h2.busy.srow ks,fun q hq=>(h2.busy.pops q hq).mv fun b k=>?_,fun q hq=>(h2.busy.side q hq).mv fun b k=>?_⟩,ba_ h2.mrow km,ba_ h2.urow ku,?_,fun o ho=>(h2.undo o ho).mv fun b k=>?_,fun q hq=>?_⟩,⟨?_,?_,?_,by omega,fun b h8 h9 h10 _=>(hk b (by omega) h9 h10).trans (hW.block b h8),?_⟩⟩
 ·rw [hlen]at hr;have k148_:K_ (∀(P:Prop) (h:P:=by
  rcases hr with rfl | rfl | rfl
  ·exact old _ (by simp) hy
  ·exact old _ (by simp) hy
  ·rcases hat with q | q
   ·exact old _ (by simp) (q.symm.trans hy)
   ·have hl:=(hown.lt y hy).2;rw [q]at hy;have hy':=Option.some.inj hy;exact⟨⟨by omega,by omega⟩,fun e=>by have:=(h2.busy.prow.lt y e).2;omega,fun e=>by have:=(h2.busy.srow.lt y e).2;omega⟩
  ),P):=⟨@q6_⟩
  exact m148_
 ·rw [hlen];exact⟨⟨k.1,(key b k.2).1⟩,(key b k.2).2⟩
 ·rw [hlen];exact key b k
 ·rw [hlen,List.flatMap_append];have hr:=ba_ hown (w':=W4) fun b hb=>hb4 b (fun e=>hneX' (by rw [hb,e]));simpa using hr
 ·rw [hlen];exact key b k
 ·rw [hlen];rcases List.mem_append.1 hq with hq | hq
  ·exact(h2.rops q hq).mv key
  ·obtain rfl:q=x:=(by simpa using hq);exact(hx.mv fun b k=>⟨hfr b k.1 k.2,rfl⟩).mv key
 ·rw [←hW4];exact hg.os.trans hW.os
 ·rw [←hW4];exact hg.tape.trans hW.tape
 ·rw [←hW4];exact hg.output.trans hW.output
 ·rcases hat with q | q
  ·exact .inl q
  ·exact .inr fun y hy=>by
    rw [q]at hy;have:=Option.some.inj hy;omega
end
def NodeV.withU (n:NodeV) (uA:OA_) (uc:Nat) (U:List OpV):NodeV:=⟨n.me,n.ep,n.up,n.rd,n.t,n.sA,n.sc,n.S,uA,uc,U,n.mA,n.mc,n.M⟩
section
variable {T:TypeId}{w W2 w3 W4:World}{base X:Nat}{n:NodeV}{A RA uA:Option Addr}{c rc uc:Nat}{L:List PostV}{RL:List RecV}{U:List OpV}
theorem EditAt.undoRow(hT:TurnT T)(h:EditAt T w base X n A c L RA rc RL)(hW:Below w.heap.size w W2)(hx: ∀o∈U,o∈n.U∨OpIn (FreeX W2 base X (Value.slice A L.length c).ownBlock n.sOwn [n.mOwn,n.uOwn,(Value.slice RA RL.length rc).ownBlock]) W2 o.A o.ps)(hg:W2.grownBy w3 n.uOwn)
 (hown:w3.ownsRow base 30 1 (.slice uA U.length uc) U.length (U.map OpV.val))
 (hat:(Value.slice uA U.length uc).ownBlock=n.uOwn∨(Value.slice uA U.length uc).ownBlock=some W2.heap.size)
 (hs4:W4.heap.size=w3.heap.size) (hb4: ∀b,b≠X→W4.heap[b]?=w3.heap[b]?) (hX4:W4.heap[X]?=some (.cells (turnCells (n.withU uA uc U) (.slice A L.length c) (.slice RA RL.length rc)) T (0,0))):
 EditAt T W4 base X (n.withU uA uc U) A c L RA rc RL:=by
 have h2:=h.la hW;have hXl:=h2.busy.lt;have hz:=hW.size;have hz3:=hg.size;have hneX':(Value.slice uA U.length uc).ownBlock≠some X:=fun e=>by
  have hneX:n.uOwn≠some X:=s_ h2.urow h2.busy.blk hT.u;rcases hat with q | q
  ·exact hneX (q.symm.trans e)
  ·rw [q]at e;have:=Option.some.inj e;omega
 have hk: ∀b,b<W2.heap.size→b≠X→n.uOwn≠some b→W4.heap[b]?=W2.heap[b]?:=fun b h8 h9 h10=>(hb4 b h9).trans (hg.block b h8 (fun e=>h10 e.symm));have hnew: ∀b,b<W2.heap.size→n.uOwn≠some b→(Value.slice uA U.length uc).ownBlock≠some b:=fun b hb hne e=>by
  exact m258_
 have kp: ∀b,(Value.slice A L.length c).ownBlock=some b→W4.heap[b]?=W2.heap[b]?:=fun b hb=>hk b (h2.busy.prow.lt b hb).2 (fun e=>s_ h2.busy.prow h2.busy.blk hT.p (by rw [hb,e])) (cl_ h2.busy.prow h2.urow (by decide) hb);have ks: ∀b,n.sOwn=some b→W4.heap[b]?=W2.heap[b]?:=fun b hb=>hk b (h2.busy.srow.lt b hb).2 (fun e=>s_ h2.busy.srow h2.busy.blk hT.s (by rw [←e];exact hb)) (cl_ h2.busy.srow h2.urow (by decide) hb);have km: ∀b,n.mOwn=some b→W4.heap[b]?=W2.heap[b]?:=fun b hb=>hk b (h2.mrow.lt b hb).2 (fun e=>s_ h2.mrow h2.busy.blk hT.m (by rw [←e];exact hb)) (cl_ h2.mrow h2.urow (by decide) hb);have kr: ∀b,(Value.slice RA RL.length rc).ownBlock=some b→W4.heap[b]?=W2.heap[b]?:=fun b hb=>hk b (h2.rrow.lt b hb).2 (fun e=>s_ h2.rrow h2.busy.blk hT.r (by rw [hb,e])) (cl_ h2.rrow h2.urow (by decide) hb);have key: ∀b,FreeX W2 base X (Value.slice A L.length c).ownBlock n.sOwn [n.mOwn,n.uOwn,(Value.slice RA RL.length rc).ownBlock] b→FreeX W4 base X (Value.slice A L.length c).ownBlock (n.withU uA uc U).sOwn [(n.withU uA uc U).mOwn,(n.withU uA uc U).uOwn,(Value.slice RA RL.length rc).ownBlock] b∧W4.heap[b]?=W2.heap[b]?:=fun b k=>by
  have hr:n.uOwn≠some b:=k.2.2.2.2 _ (by simp);refine⟨⟨⟨k.1.1,by have:=k.1.2;omega⟩,k.2.1,k.2.2.1,k.2.2.2.1,fun r hr'=>?_⟩,hk b k.1.2 k.2.1 hr⟩;simp only [List.mem_cons,List.not_mem_nil,or_false]at hr';rcases hr' with rfl | rfl | rfl
  ·exact k.2.2.2.2 n.mOwn (by simp)
  ·exact hnew b k.1.2 hr
  ·exact k.2.2.2.2 _ (by simp)
 refine⟨⟨fun r hr y hy=>?_,h2.busy.lo,hX4,ba_ h2.busy.prow kp,ba_ h2.busy.srow ks,fun q hq=>(h2.busy.pops q hq).mv fun b k=>⟨⟨k.1,(key b k.2).1⟩,(key b k.2).2⟩,fun q hq=>(h2.busy.side q hq).mv key⟩,ba_ h2.mrow km,ba_ hown fun b hb=>hb4 b (fun e=>hneX' (by rw [←e];exact hb)),ba_ h2.rrow kr,fun o ho=>?_,fun q hq=>(h2.rops q hq).mv key⟩
 ·have k148_:K_ (∀(P:Prop) (h:P:=by
  rcases hr with rfl | rfl | rfl
  ·exact old n.mOwn (by simp) hy
  ·have hy2:(Value.slice uA U.length uc).ownBlock=some y:=hy;exact m203_
  ·exact old _ (by simp) hy
  ),P):=⟨@q6_⟩
  exact m148_
 ·rcases hx o ho with hq | hq
  ·exact(h2.undo o hq).mv key
  ·exact hq.mv key
theorem EditAt.undoNew{w3:World}(hT:TurnT T)(h:EditAt T w base X n A c L RA rc RL)(hW:Below w.heap.size w w3)(ho:OpsOwn w3 w.heap.size uA uc U)
 (hs4:W4.heap.size=w3.heap.size) (hb4: ∀b,b≠X→W4.heap[b]?=w3.heap[b]?) (hX4:W4.heap[X]?=some (.cells (turnCells (n.withU uA uc U) (.slice A L.length c) (.slice RA RL.length rc)) T (0,0))):
 EditAt T W4 base X (n.withU uA uc U) A c L RA rc RL:=by
 have h2:=h.la hW;have hXl:=h.busy.lt;have hlo:=h.busy.lo;have hz:=hW.size;have kb: ∀b,b<w.heap.size→b≠X→W4.heap[b]?=w3.heap[b]?:=fun b _ h9=>hb4 b h9;have kp: ∀b,(Value.slice A L.length c).ownBlock=some b→W4.heap[b]?=w3.heap[b]?:=fun b hb=>hb4 b (fun e=>s_ h2.busy.prow h2.busy.blk hT.p (by rw [hb,e]));have ks: ∀b,n.sOwn=some b→W4.heap[b]?=w3.heap[b]?:=fun b hb=>hb4 b (fun e=>s_ h2.busy.srow h2.busy.blk hT.s (by rw [←e];exact hb));have km: ∀b,n.mOwn=some b→W4.heap[b]?=w3.heap[b]?:=fun b hb=>hb4 b (fun e=>s_ h2.mrow h2.busy.blk hT.m (by rw [←e];exact hb));have kr: ∀b,(Value.slice RA RL.length rc).ownBlock=some b→W4.heap[b]?=w3.heap[b]?:=fun b hb=>hb4 b (fun e=>s_ h2.rrow h2.busy.blk hT.r (by rw [hb,e]));have ku: ∀b,(Value.slice uA U.length uc).ownBlock=some b→w.heap.size≤b∧b<w3.heap.size:=fun b hb=>ho.row.lt b hb;have key: ∀b,FreeX w base X (Value.slice A L.length c).ownBlock n.sOwn [n.mOwn,n.uOwn,(Value.slice RA RL.length rc).ownBlock] b→FreeX W4 base X (Value.slice A L.length c).ownBlock (n.withU uA uc U).sOwn [(n.withU uA uc U).mOwn,(n.withU uA uc U).uOwn,(Value.slice RA RL.length rc).ownBlock] b∧W4.heap[b]?=w.heap[b]?:=fun b k=>by
  have hbl:=k.1.2;refine⟨⟨⟨k.1.1,by omega⟩,k.2.1,k.2.2.1,k.2.2.2.1,fun r hr'=>?_⟩,(hb4 b k.2.1).trans (hW.block b hbl)⟩;simp only [List.mem_cons,List.not_mem_nil,or_false]at hr';rcases hr' with rfl | rfl | rfl
  ·exact k.2.2.2.2 n.mOwn (by simp)
  ·exact fun e=>by have:=(ku b e).1;omega
  ·exact k.2.2.2.2 _ (by simp)
 have hfr: ∀b,w.heap.size≤b→b<w3.heap.size→(Value.slice uA U.length uc).ownBlock≠some b→FreeX W4 base X (Value.slice A L.length c).ownBlock (n.withU uA uc U).sOwn [(n.withU uA uc U).mOwn,(n.withU uA uc U).uOwn,(Value.slice RA RL.length rc).ownBlock] b:=fun b h8 h9 h10=>
  ⟨⟨by omega,by omega⟩,by omega,fun e=>by have:=(h.busy.prow.lt b e).2;omega,fun e=>by have:=(h.busy.srow.lt b e).2;omega,fun r hr e=>by
   simp only [List.mem_cons,List.not_mem_nil,or_false]at hr;rcases hr with rfl | rfl | rfl
   · have:=(h.mrow.lt b e).2
     omega
   · exact h10 e
   · have:=(h.rrow.lt b e).2
     omega⟩
 refine⟨⟨fun r hr y hy=>?_,hlo,hX4,ba_ h2.busy.prow kp,ba_ h2.busy.srow ks,fun q hq=>(h.busy.pops q hq).mv fun b k=>⟨⟨k.1,(key b k.2).1⟩,(key b k.2).2⟩,fun q hq=>(h.busy.side q hq).mv key⟩,ba_ h2.mrow km,ba_ (cf_ ho.row (by omega)) fun b hb=>hb4 b (by have:=ku b hb;omega),ba_ h2.rrow kr,fun o hm=>(ho.each o hm).mv fun b k=>⟨hfr b k.1.1 k.1.2 k.2,hb4 b (by have:=k.1.1;omega)⟩,fun q hq=>(h.rops q hq).mv key⟩;simp only [List.mem_cons,List.not_mem_nil,or_false]at hr;have old: ∀r∈ [n.mOwn,n.uOwn,(Value.slice RA RL.length rc).ownBlock],r=some y→(y<W4.heap.size∧y≠X)∧(Value.slice A L.length c).ownBlock≠some y∧(Value.slice n.sA n.S.length n.sc).ownBlock≠some y:=fun r hr hy=>by
  have h9:=h.busy.exl r hr y hy;exact⟨⟨by have:=h9.1.1;omega,h9.1.2⟩,h9.2⟩
 rcases hr with rfl | rfl | rfl
 ·exact old n.mOwn (by simp) hy
 ·have hl:=ku y hy;exact⟨⟨by omega,by omega⟩,fun e=>by have:=(h.busy.prow.lt y e).2;omega,fun e=>by have:=(h.busy.srow.lt y e).2;omega⟩
 ·exact old _ (by simp) hy
end
def NodeV.withM (n:NodeV) (mA:OA_) (mc:Nat) (M:List (Int × Int)):NodeV:=⟨n.me,n.ep,n.up,n.rd,n.t,n.sA,n.sc,n.S,n.uA,n.uc,n.U,mA,mc,M⟩
section
variable {T:TypeId}{w W2 w3 W4:World}{base X:Nat}{n:NodeV}{A RA mA:Option Addr}{c rc mc:Nat}{L:List PostV}{RL:List RecV}{M:List (Int × Int)}
theorem EditAt.markRow(hT:TurnT T)(h:EditAt T w base X n A c L RA rc RL)(hW:Below w.heap.size w W2)(hg:W2.grownBy w3 n.mOwn)
 (hown:w3.ownsRow base 53 2 (.slice mA M.length mc) M.length (M.flatMap markCells))
 (hat:(Value.slice mA M.length mc).ownBlock=n.mOwn∨(Value.slice mA M.length mc).ownBlock=some W2.heap.size)
 (hs4:W4.heap.size=w3.heap.size) (hb4: ∀b,b≠X→W4.heap[b]?=w3.heap[b]?) (hX4:W4.heap[X]?=some (.cells (turnCells (n.withM mA mc M) (.slice A L.length c) (.slice RA RL.length rc)) T (0,0))):
 EditAt T W4 base X (n.withM mA mc M) A c L RA rc RL:=by
 have h2:=h.la hW;have hXl:=h2.busy.lt;have hz:=hW.size;have hz3:=hg.size;have hneX':(Value.slice mA M.length mc).ownBlock≠some X:=fun e=>by
  have hneX:n.mOwn≠some X:=s_ h2.mrow h2.busy.blk hT.m;rcases hat with q | q
  ·exact hneX (q.symm.trans e)
  ·rw [q]at e;have:=Option.some.inj e;omega
 have hk: ∀b,b<W2.heap.size→b≠X→n.mOwn≠some b→W4.heap[b]?=W2.heap[b]?:=fun b h8 h9 h10=>(hb4 b h9).trans (hg.block b h8 (fun e=>h10 e.symm));have hnew: ∀b,b<W2.heap.size→n.mOwn≠some b→(Value.slice mA M.length mc).ownBlock≠some b:=fun b hb hne e=>by
  exact m258_
 have kp: ∀b,(Value.slice A L.length c).ownBlock=some b→W4.heap[b]?=W2.heap[b]?:=fun b hb=>hk b (h2.busy.prow.lt b hb).2 (fun e=>s_ h2.busy.prow h2.busy.blk hT.p (by rw [hb,e])) (cl_ h2.busy.prow h2.mrow (by decide) hb);have ks: ∀b,n.sOwn=some b→W4.heap[b]?=W2.heap[b]?:=fun b hb=>hk b (h2.busy.srow.lt b hb).2 (fun e=>s_ h2.busy.srow h2.busy.blk hT.s (by rw [←e];exact hb)) (cl_ h2.busy.srow h2.mrow (by decide) hb);have km: ∀b,n.uOwn=some b→W4.heap[b]?=W2.heap[b]?:=fun b hb=>hk b (h2.urow.lt b hb).2 (fun e=>s_ h2.urow h2.busy.blk hT.u (by rw [←e];exact hb)) (cl_ h2.urow h2.mrow (by decide) hb);have kr: ∀b,(Value.slice RA RL.length rc).ownBlock=some b→W4.heap[b]?=W2.heap[b]?:=fun b hb=>hk b (h2.rrow.lt b hb).2 (fun e=>s_ h2.rrow h2.busy.blk hT.r (by rw [hb,e])) (cl_ h2.rrow h2.mrow (by decide) hb);have key: ∀b,FreeX W2 base X (Value.slice A L.length c).ownBlock n.sOwn [n.mOwn,n.uOwn,(Value.slice RA RL.length rc).ownBlock] b→FreeX W4 base X (Value.slice A L.length c).ownBlock (n.withM mA mc M).sOwn [(n.withM mA mc M).mOwn,(n.withM mA mc M).uOwn,(Value.slice RA RL.length rc).ownBlock] b∧W4.heap[b]?=W2.heap[b]?:=fun b k=>by
  have hr:n.mOwn≠some b:=k.2.2.2.2 _ (by simp);refine⟨⟨⟨k.1.1,by have:=k.1.2;omega⟩,k.2.1,k.2.2.1,k.2.2.2.1,fun r hr'=>?_⟩,hk b k.1.2 k.2.1 hr⟩;simp only [List.mem_cons,List.not_mem_nil,or_false]at hr';rcases hr' with rfl | rfl | rfl
  ·exact hnew b k.1.2 hr
  ·exact k.2.2.2.2 n.uOwn (by simp)
  ·exact k.2.2.2.2 _ (by simp)
 refine⟨⟨fun r hr y hy=>?_,h2.busy.lo,hX4,ba_ h2.busy.prow kp,ba_ h2.busy.srow ks,fun q hq=>(h2.busy.pops q hq).mv fun b k=>⟨⟨k.1,(key b k.2).1⟩,(key b k.2).2⟩,fun q hq=>(h2.busy.side q hq).mv key⟩,ba_ hown fun b hb=>hb4 b (fun e=>hneX' (by rw [←e];exact hb)),ba_ h2.urow km,ba_ h2.rrow kr,fun o ho=>(h2.undo o ho).mv key,fun q hq=>(h2.rops q hq).mv key⟩
 ·have k148_:K_ (∀(P:Prop) (h:P:=by
  rcases hr with rfl | rfl | rfl
  ·have hy2:(Value.slice mA M.length mc).ownBlock=some y:=hy;exact m203_
  ·exact old n.uOwn (by simp) hy
  ·exact old _ (by simp) hy
  ),P):=⟨@q6_⟩
  exact m148_
end
def NodeV.side (n:NodeV) (s:Nat) (y:SideV):NodeV:=⟨n.me,n.ep,n.up,n.rd,n.t,n.sA,n.sc,n.S.set s y,n.uA,n.uc,n.U,n.mA,n.mc,n.M⟩
theorem NodeV.side_d(n:NodeV)(s:Nat)(y:SideV):(n.side s y).d=⟨n.me,n.ep,n.up,n.rd,n.t,(n.S.map SideV.d).set s y.d,n.U.map OpV.ps,n.M⟩:=by
 simp [NodeV.side,NodeV.d,List.map_set]
theorem BusyX.setSide{T:TypeId}{W W5:World}{base X:Nat}{n:NodeV}{A:Option Addr}{c:Nat}{L:List PostV}{R:Value}{ex:List (Option Nat)}(hT:T≠60)(h:BusyX T W base X n A c L R ex){s g:Nat}(hg:n.sA=some ⟨g,0,none⟩)(y:SideV)
 (hy:y.InS (FreeX W base X (Value.slice A L.length c).ownBlock (Value.slice n.sA n.S.length n.sc).ownBlock ex) W) (hO:Only g W W5) (hz:W5.heap.size=W.heap.size) (hr:W5.ownsRow base 60 10 (.slice n.sA n.S.length n.sc) n.S.length ((n.S.set s y).flatMap SideV.cells)):BusyX T W5 base X (n.side s y) A c L R ex:=by
 have hlen:(n.side s y).S.length=n.S.length:=by simp [NodeV.side]
 have hQ:(Value.slice n.sA n.S.length n.sc).ownBlock=some g:=by rw [hg];rfl
 have hgX:g≠X:=fun e=>s_ h.srow h.blk hT (by rw [hQ,e]);have hgP:(Value.slice A L.length c).ownBlock≠some g:=cl_ h.srow h.prow (by decide) hQ;have hf: ∀b,FreeX W base X (Value.slice A L.length c).ownBlock (Value.slice n.sA n.S.length n.sc).ownBlock ex b→FreeX W5 base X (Value.slice A L.length c).ownBlock (Value.slice (n.side s y).sA (n.side s y).S.length (n.side s y).sc).ownBlock ex b∧W5.heap[b]?=W.heap[b]?:=fun b k=>by
  have hb:b≠g:=fun e=>k.2.2.2.1 (by rw [hQ,e]);refine⟨⟨⟨k.1.1,by rw [hz];exact k.1.2⟩,k.2.1,k.2.2.1,?_,k.2.2.2.2⟩,hO.block b k.1.2 hb⟩;rw [hlen];exact k.2.2.2.1
 refine⟨fun r hr y hy=>?_,h.lo,?_,?_,?_,fun x hx=>(h.pops x hx).mv fun b k=>⟨⟨k.1,(hf b k.2).1⟩,(hf b k.2).2⟩,fun x hx=>?_⟩
 ·have h9:=h.exl r hr y hy;rw [hz,hlen];exact h9
 ·have:=(hO.block X h.lt (fun e=>hgX e.symm)).trans h.blk;rw [show turnCells (n.side s y) (.slice A L.length c) R=turnCells n (.slice A L.length c) R by simp only [turnCells,hlen];rfl];exact this
 ·refine⟨h.prow.1,?_⟩;rcases h.prow.2 with hn | ⟨g',cap,cur,e1,h1,hg',rest⟩
  ·exact .inl hn
  ·have hne:g'≠g:=fun e=>hgP (by rw [e1,e];rfl);exact .inr ⟨g',cap,cur,e1,h1,(hO.block g' (Array.getElem?_eq_some_iff.1 hg').1 hne).trans hg',rest⟩
 ·rw [hlen];exact hr
 ·have hx':x∈n.S.set s y:=hx;rcases List.mem_or_eq_of_mem_set hx' with hm | rfl
  ·exact(h.side x hm).mv hf
  ·exact hy.mv hf
theorem fy_{W W5:World}{X g:Nat}{P Q:Option Nat}(hO:Only g W W5)(hQ:Q=some g):Touch W W5 X P Q P:=
 ⟨hO.os,hO.tape,hO.output,hO.size,fun b hb _ _ hq=>hO.block b hb (fun e=>hq (by rw [hQ,e])),.inl rfl⟩
theorem bfe_(w:World)(l:LinkV)(f:FrameV)(hT:Tabs w)(hi:l.In w)(hm:l.Small)(hf:OpIn (· <w.heap.size) w f.o.A f.o.ps)(hfm:f.Small)(her:sendE l f.d≠0):
 Calls Tryz.prog 116 #[l.val,frameV f.k f.h f.e f.o.A f.o.ps.length f.o.c f.s] w (RetSend w zeroL.d [] (sendE l f.d)):=by
 by_cases c1:linkMay l
 ·by_cases c2:l.e=0
  ·rw [show sendE l f.d=12 by unfold sendE;rw [if_neg (by simpa using c1),if_pos c2]];exact bbm_ w l f hT hi hm c1 c2
  ·by_cases c3:frameFault f.d=0
   ·by_cases c4:l.n=1048576
    ·rw [show sendE l f.d=8 by unfold sendE;rw [if_neg (by simpa using c1),if_neg c2,if_neg (by simpa using c3),if_pos c4]];exact bbo_ w l f hT hi hm hf hfm c1 c2 c3 c4
    ·exact absurd (by unfold sendE;rw [if_neg (by simpa using c1),if_neg c2,if_neg (by simpa using c3),if_neg c4]) her
   ·rw [show sendE l f.d=frameFault f.d by unfold sendE;rw [if_neg (by simpa using c1),if_neg c2,if_pos c3]];exact zq_ w l f hT hi hm hf hfm c1 c2 _ rfl c3
 ·rw [show sendE l f.d=9 by unfold sendE;rw [if_pos c1]];exact zr_ w l f hT hi hm c1
theorem wj_(w:World)(base X:Nat)(n:NodeV)(A:OA_)(c:Nat)(L:List PostV)(R:Value)(ex:List (Option Nat))(s:Nat)(hs:s<n.S.length)(f:FrameV)(hT:Tabs w)(h:BusyX 71 w base X n A c L R ex)(hm:n.S[s].k.Small)(hf:OpIn (· <w.heap.size) w f.o.A f.o.ps)(hfm:f.Small)
 (her:sendE n.S[s].k f.d≠0):
 Calls Tryz.prog 77 #[.pointer (some ⟨X,0,none⟩),.int .i64 s,frameV f.k f.h f.e f.o.A f.o.ps.length f.o.c f.s] w (R_ w (.tuple #[])):=by
 exact m24_
def sentD (n:NodeV) (s:Nat) (f:FrameD):NodeD:=
 if sendE (n.S.getD s default).k f=0 then⟨n.me,n.ep,n.up,n.rd,n.t,(n.S.map SideV.d).set s ⟨(n.S.getD s default).p,(n.S.getD s default).j,(n.S.getD s default).s,(n.S.getD s default).h,(n.S.getD s default).L.map OpV.ps,fillL (waitL (n.S.getD s default).k.d f)⟩,n.U.map OpV.ps,n.M⟩else n.d
def sentP (n:NodeV) (s:Nat) (f:FrameD):List PostD:=if sendE (n.S.getD s default).k f=0 then(fillP (waitL (n.S.getD s default).k.d f)).map (PostD.mk (n.S.getD s default).p)else []
theorem ki_(n:NodeV)(s:Nat)(l:LinkV):(n.link s l).d=⟨n.me,n.ep,n.up,n.rd,n.t,(n.S.map SideV.d).set s ⟨(n.S.getD s default).p,(n.S.getD s default).j,(n.S.getD s default).s,(n.S.getD s default).h,(n.S.getD s default).L.map OpV.ps,l.d⟩,n.U.map OpV.ps,n.M⟩:=by
 simp [NodeV.link,NodeV.d,List.map_set]
theorem bby_(w:World)(base X:Nat)(n:NodeV)(A RA:OA_)(c rc:Nat)(L:List PostV)(RL:List RecV)(s:Nat)(hs:s<n.S.length)(f:FrameV)(hT:Tabs w)(h:EditAt 71 w base X n A c L RA rc RL)(hm:n.S[s].k.Small)(hf:OpIn (· <w.heap.size) w f.o.A f.o.ps)(hfm:f.Small)(hl:L.length≤1099511000000):
 Calls Tryz.prog 77 #[.pointer (some ⟨X,0,none⟩),.int .i64 s,frameV f.k f.h f.e f.o.A f.o.ps.length f.o.c f.s] w fun e w'=>e= .returned (.tuple #[])∧ ∃n' A' c' L',EditAt 71 w' base X n' A' c' L' RA rc RL∧n'.d=sentD n s f.d∧L'.map PostV.d=L.map PostV.d++sentP n s f.d∧Below base w w':=by
 have vCB:=h_ trivial;exact m128_
theorem bfp_{W:World}{base g c s:Nat}{S:List SideV}(y:SideV)(r0:W.ownsRow base 60 10 (.slice (some ⟨g,0,none⟩) S.length c) S.length (S.flatMap SideV.cells))(hs:s<S.length):
 ((((((((((W.setCell ⟨g,s*10,none⟩ (.int .i64 y.p)).setCell ⟨g,s*10+1,none⟩ (.bool y.j)).setCell ⟨g,s*10+2,none⟩ (.int .i64 y.s)).setCell ⟨g,s*10+3,none⟩ (.int .i64 y.h)).setCell ⟨g,s*10+4,none⟩ (.slice y.A y.L.length y.c)).setCell ⟨g,s*10+5,none⟩ (.int .i64 y.k.e)).setCell ⟨g,s*10+6,none⟩ (.int .i64 y.k.n)).setCell ⟨g,s*10+7,none⟩ (.slice y.k.sA y.k.s.length y.k.sc)).setCell ⟨g,s*10+8,none⟩ (.slice y.k.qA y.k.q.length y.k.qc)).setCell ⟨g,s*10+9,none⟩ (.int .i64 y.k.h)).ownsRow base 60 10 (.slice (some ⟨g,0,none⟩) S.length c) S.length ((S.set s y).flatMap SideV.cells)∧Only g W ((((((((((W.setCell ⟨g,s*10,none⟩ (.int .i64 y.p)).setCell ⟨g,s*10+1,none⟩ (.bool y.j)).setCell ⟨g,s*10+2,none⟩ (.int .i64 y.s)).setCell ⟨g,s*10+3,none⟩ (.int .i64 y.h)).setCell ⟨g,s*10+4,none⟩ (.slice y.A y.L.length y.c)).setCell ⟨g,s*10+5,none⟩ (.int .i64 y.k.e)).setCell ⟨g,s*10+6,none⟩ (.int .i64 y.k.n)).setCell ⟨g,s*10+7,none⟩ (.slice y.k.sA y.k.s.length y.k.sc)).setCell ⟨g,s*10+8,none⟩ (.slice y.k.qA y.k.q.length y.k.qc)).setCell ⟨g,s*10+9,none⟩ (.int .i64 y.k.h))∧((((((((((W.setCell ⟨g,s*10,none⟩ (.int .i64 y.p)).setCell ⟨g,s*10+1,none⟩ (.bool y.j)).setCell ⟨g,s*10+2,none⟩ (.int .i64 y.s)).setCell ⟨g,s*10+3,none⟩ (.int .i64 y.h)).setCell ⟨g,s*10+4,none⟩ (.slice y.A y.L.length y.c)).setCell ⟨g,s*10+5,none⟩ (.int .i64 y.k.e)).setCell ⟨g,s*10+6,none⟩ (.int .i64 y.k.n)).setCell ⟨g,s*10+7,none⟩ (.slice y.k.sA y.k.s.length y.k.sc)).setCell ⟨g,s*10+8,none⟩ (.slice y.k.qA y.k.q.length y.k.qc)).setCell ⟨g,s*10+9,none⟩ (.int .i64 y.k.h)).heap.size=W.heap.size:=by
 obtain⟨r1,_⟩:=r0.stored (s*10) (.int .i64 y.p);obtain⟨r2,_⟩:=r1.stored (s*10+1) (.bool y.j);obtain⟨r3,_⟩:=r2.stored (s*10+2) (.int .i64 y.s);obtain⟨r4,_⟩:=r3.stored (s*10+3) (.int .i64 y.h);obtain⟨r5,_⟩:=r4.stored (s*10+4) (.slice y.A y.L.length y.c);obtain⟨r6,_⟩:=r5.stored (s*10+5) (.int .i64 y.k.e);obtain⟨r7,_⟩:=r6.stored (s*10+6) (.int .i64 y.k.n);obtain⟨r8,_⟩:=r7.stored (s*10+7) (.slice y.k.sA y.k.s.length y.k.sc);obtain⟨r9,_⟩:=r8.stored (s*10+8) (.slice y.k.qA y.k.q.length y.k.qc);obtain⟨r10,_⟩:=r9.stored (s*10+9) (.int .i64 y.k.h);have e:(((((((((((S.flatMap SideV.cells).set (s*10) (.int .i64 y.p)).set (s*10+1) (.bool y.j)).set (s*10+2) (.int .i64 y.s)).set (s*10+3) (.int .i64 y.h)).set (s*10+4) (.slice y.A y.L.length y.c)).set (s*10+5) (.int .i64 y.k.e)).set (s*10+6) (.int .i64 y.k.n)).set (s*10+7) (.slice y.k.sA y.k.s.length y.k.sc)).set (s*10+8) (.slice y.k.qA y.k.q.length y.k.qc)).set (s*10+9) (.int .i64 y.k.h))=(S.set s y).flatMap SideV.cells:=by
  have hM: ∀r∈S.map SideV.cells,r.length=10:=fun r hr=>by
   exact m277_
  have hsM:s<(S.map SideV.cells).length:=by simpa using hs
  have h0:s*10=s*10+0:=rfl;rw [List.flatMap_def,List.flatMap_def,h0,fg_ 10 _ _ hM s 0 hsM (by omega),ce_ 10 _ _ hM s 1 hsM (by omega) _ (by simp [SideV.cells_len]),ce_ 10 _ _ hM s 2 hsM (by omega) _ (by simp [SideV.cells_len]),ce_ 10 _ _ hM s 3 hsM (by omega) _ (by simp [SideV.cells_len]),ce_ 10 _ _ hM s 4 hsM (by omega) _ (by simp [SideV.cells_len]),ce_ 10 _ _ hM s 5 hsM (by omega) _ (by simp [SideV.cells_len]),ce_ 10 _ _ hM s 6 hsM (by omega) _ (by simp [SideV.cells_len]),ce_ 10 _ _ hM s 7 hsM (by omega) _ (by simp [SideV.cells_len]),ce_ 10 _ _ hM s 8 hsM (by omega) _ (by simp [SideV.cells_len]),ce_ 10 _ _ hM s 9 hsM (by omega) _ (by simp [SideV.cells_len])];rw [List.map_set];congr 2;rw [List.getElem_map];rfl
 refine⟨?_,((((((((q5_.trans q5_).trans q5_).trans q5_).trans q5_).trans q5_).trans q5_).trans q5_).trans q5_).trans q5_,by simp [World.setCell]⟩;rw [←e];exact r10
theorem bfx_{x:Int}(h1: -1048576≤x)(h2:x≤4194304):wrap64 x=x:=by
 unfold wrap64;omega
theorem bbf_(w:World)(s h0:Int)(A:OA_)(c:Nat)(L:List OpV)(HT:Hid (Tabs w))(HS:Hid (OpsIn w A L))(HM:Hid (∀o∈L,o.Small))(B:OA_)(cc:Nat)(ps:LP_)(HP:Hid (OpIn (· <w.heap.size) w B ps))(hd:Int)(_hw:wrap64 (s - (L.length:Int))=s - L.length)(f1:s - (L.length:Int)≤hd)(f2:hd≤s)(_f3:decide (1048576≤h0)=false)(K:Nat)(_hK:K≤L.length)(HKd:Hid (hd=s - (L.length:Int)+K))(hs1:0≤s)(hs2:s≤1048576)(hls:(L.length:Int)≤s)(hh1:wrap64 (h0+1)=h0+1)(hsp:SmallD ps)(HC:Hid (∀W,Tabs W→OpsIn W A L→(∀o∈L,o.Small)→Calls Tryz.prog 104 #[edgeV s h0 A L.length c] W (R_ W (.bool true))))(HF:Hid (∀W,Tabs W→OpIn (· <W.heap.size) W B ps→Calls Tryz.prog 60 #[.slice B ps.length cc] W (R_ W (.int .i64 0)))):
 Calls Tryz.prog 118 #[edgeV s h0 A L.length c,.slice B ps.length cc,.int .i64 hd,.bool true] w (RetHear w (hearOut s (h0+1) (hearG true [] ps ((L.map OpV.ps).drop K)))):=by
 exact m14_
section
variable(w:World) (l:LinkV) (p:PacketV) (hT:Tabs w) (hi:l.In w) (hm:l.Small) (hf:OpIn (· <w.heap.size) w p.f.o.A p.f.o.ps) (hfm:p.f.Small) (hk:linkMay l) (he:packetFault p.d=0) (h0:l.e≠0) (h1:p.ep=l.e)
include w l p hT hi hm hf hfm hk he h0 h1
theorem bgd_(K:Nat)(hK:(K:Int)=p.ak - (l.n - l.s.length)+1∧1≤K∧K≤l.s.length)(hb:p.b=false)(hn:p.nu≠l.h+1):
 Calls Tryz.prog 73 #[l.val,packetV p.ep p.nu p.b p.ak p.f.k p.f.h p.f.e p.f.o.A p.f.o.ps.length p.f.o.c p.f.s] w (RetLHear w (fillL ⟨l.e,l.n,((l.s.map FrameV.d).drop K),l.q.map FrameV.d,l.h⟩) zeroF.d false (fillP ⟨l.e,l.n,((l.s.map FrameV.d).drop K),l.q.map FrameV.d,l.h⟩++ [bareX ⟨l.e,l.n,((l.s.map FrameV.d).drop K),l.q.map FrameV.d,l.h⟩]) 0):=by
 have vN:=h_ trivial;exact m7_
theorem bgk_(hA:l.n - l.s.length≤p.ak∧l.n≤p.ak)(hb:p.b=false)(hn:p.nu≠l.h+1):
 Calls Tryz.prog 73 #[l.val,packetV p.ep p.nu p.b p.ak p.f.k p.f.h p.f.e p.f.o.A p.f.o.ps.length p.f.o.c p.f.s] w (RetLHear w (fillL ⟨l.e,l.n,(l.s.map FrameV.d),l.q.map FrameV.d,l.h⟩) zeroF.d false (fillP ⟨l.e,l.n,(l.s.map FrameV.d),l.q.map FrameV.d,l.h⟩++ [bareX ⟨l.e,l.n,(l.s.map FrameV.d),l.q.map FrameV.d,l.h⟩]) 0):=by
 exact m7_
end
end Go.Proofs.YtacacoklddogmaaGreatDoor
