/- Lemmas. -/
import Derived.Test.YtacacoklddogmaaGreatDoorKBC
import Derived.Test.YtacacoklddogmaaGreatDoorKJAM
import Derived.BigRegion
import Derived.RangeFuncRecord
import Derived.RangeFuncNested
import Derived.RangeFuncBound
import Derived.RangeFuncCalls
import Derived.RangeFuncLeaves
import Derived.RangeFuncBox
import Derived.Shelf.Abstract
import Derived.Shelf.RegionOpen
import Derived.WalkKit
import Derived.OwnWalkIn
import Derived.TacticsInMore
import Derived.LoopNIn
import Derived.LoopIn
namespace Go.Proofs.YtacacoklddogmaaGreatDoor
set_option maxHeartbeats 4000000
open Go.ChangeShapes Go.WideShapes Go.ChangeAt Go.RowKit
set_option maxRecDepth 100000
theorem m16_{P:Prop}(h:P:=by
 obtain⟨i0,hi,hz0,hz1,hz2⟩:=info_parts infoOp;obtain⟨W1,hW1⟩:=q2_ (w.alloc (.cells #[.int .i64 s,.int .i64 h,.slice A L.length c] 55));obtain⟨W2,hW2⟩:=q2_ (W1.alloc (.cells #[.int .i64 0,.int .i64 0,.slice none 0 0] 55));obtain⟨WA,hWA⟩:=q2_ (W2.alloc (.cells #[.int .i64 s,.int .i64 h,.slice none 0 0] 55));have k155_:K_ (∀(P:Prop) (h:P:=by
 have HEA:=h_ (show EdgeAt WA w.heap.size s h A L.length c from(k3.block _ (by omega)).trans ((k2.block _ (by omega)).trans (by rw [hW1];show(w.heap.push _)[w.heap.size]?=_;simp)));have HRA:=h_ (show EdgeAt WA W1.heap.size 0 0 none 0 0 from(k3.block _ (by omega)).trans (by rw [hW2];show(W1.heap.push _)[W1.heap.size]?=_;simp));have HXA:=h_ (show EdgeAt WA W2.heap.size s h none 0 0 by rw [hWA];show(W2.heap.push _)[W2.heap.size]?=_;simp);have HBA:=h_ (bThen k1 (bThen k2 k3));have HW:=h_ (show((w.alloc (.cells #[.int .i64 s,.int .i64 h,.slice A L.length c] 55)).alloc (.cells #[.int .i64 0,.int .i64 0,.slice none 0 0] 55)).alloc (.cells #[.int .i64 s,.int .i64 h,.slice none 0 0] 55)=WA by rw [hWA,hW2,hW1]);obtain⟨R,hR⟩:=q2_ (W1.heap.size);obtain⟨X,hX⟩:=q2_ (W2.heap.size);have HE1:=h_ (show w.heap.size+1+1=X by omega);have HE2:=h_ (show w.heap.size+1=R by omega);have hRB:w.heap.size<R:=by omega
 have hBX:R<X:=by omega
 have hXz:X<WA.heap.size:=by omega
 rw [←hR]at HRA;rw [←hX]at HXA;have HS:=h_ hs;have HM:=h_ hm;clear hR hX k1 k2 k3 g1 g2 g3 hWA hW2 hW1 hs hm;first
 |guard_hyp vAB
  go_enter Tryz.func127,Tryz.ntmps127
 |go_enter Tryz.func17,Tryz.ntmps17
 go_wp2_with fail
 rw [HW.o,HE1.o,HE2.o];first
 |guard_hyp vAB
  go_loopw [14] (fun i wr=> ∃(k:Nat) (L':List OpV) (Ao:OA_) (co:Nat),k≤L.length∧i= .int .i64 k∧L'.length=k∧Hid (L'.map OpV.ps=(L.take k).map OpV.ps)∧EdgeAt wr X s h Ao k co∧OpsOwn wr WA.heap.size Ao co L'∧EdgeAt wr w.heap.size s h A L.length c∧EdgeAt wr R 0 0 none 0 0∧Below w.heap.size w wr∧WA.heap.size≤wr.heap.size) (fun i _=>L.length - (intOf i).toNat)
 |go_loopw [4] (fun i wr=> ∃(k:Nat) (L':List OpV) (Ao:OA_) (co:Nat),k≤L.length∧i= .int .i64 k∧L'.length=k∧Hid (L'.map OpV.ps=(L.take k).map OpV.ps)∧EdgeAt wr X s h Ao k co∧OpsOwn wr WA.heap.size Ao co L'∧EdgeAt wr w.heap.size s h A L.length c∧EdgeAt wr R 0 0 none 0 0∧Below w.heap.size w wr∧WA.heap.size≤wr.heap.size) (fun i _=>L.length - (intOf i).toNat)
 case atStart=>exact⟨0,[],none,0,Nat.zero_le _,rfl,rfl,rfl,HXA.o,OpsOwn.nil _ _,HEA.o,HRA.o,HBA.o,Nat.le_refl _⟩
 case round=>
  obtain⟨k,L',Ao,co,hk,rfl,hL',hps,hX,hown,hE,hR,hbw,hsz⟩:=hrel;subst hL';obtain⟨x0,x1,x2,f0,f1,f2,hxl⟩:=b_ hX;obtain⟨e0,e1,e2,_,_,_,hel⟩:=b_ hE;by_cases hlt:L'.length<L.length
  ·obtain⟨b,o,rfl,hbs,g0,hop⟩:=(OpsIn.la HS.o hbw).at_ hlt;first
   |guard_hyp vAB
    have HC:=h_ (dj_ wr L[L'.length].A L[L'.length].c L[L'.length].ps)
   |have HC:=h_ (eb_ wr L[L'.length].A L[L'.length].c L[L'.length].ps)
   generalize hq:L[L'.length]=q at*;obtain⟨qA,qc,qp⟩:=q;dsimp only at*;first
   |guard_hyp vAB
    have HC:=h_ (fun W hs=>dj_ W qA qc qp hs (by have:=(HM.o _ (List.getElem_mem hlt)).len;rw [hq]at this;exact this))
   |have HC:=h_ (fun W hs=>eb_ W qA qc qp hs (by have:=(HM.o _ (List.getElem_mem hlt)).len;rw [hq]at this;exact this))
   have HOP:=h_ hop;have HO:=h_ hown;have HX:=h_ hX;have HNE:=h_ (s_ hown.row hX (by decide));clear hop hown hX;go_wp2_with fail
   first
   |guard_hyp vAB
    go_region_law (first
     | (refine bg_ _ rfl _ _ 25 rfl WA.heap.size 30 i0 (.slice none 0 0) 1 24 Tryz.underlying25 hi hz0 hz1 hz2 rfl (by decide) _ _ _ rfl (World.ownsRow.alloc (ge_ HO.o.row) _) (fun _=>True) _ _ _ _ rfl (fa_ rfl (by simp)) ?_ ?_ ?_ ?_ ?_;(intro u hu;simp at hu;subst hu;rfl);(unfold maxLen;omega);omega;(simp;omega);intro A' c' w3 hown' hgrow hat;obtain⟨y0,y1,y2,y3,y4,y5,y6⟩:=b_ (cb_ HX.o HNE.o hgrow))
     | (go_simp;go_at_call 100;refine(HC.o _ ?_).mono ?_;exact HOP.o;rintro e w2 ⟨A2,c2,rfl,ho2,hb2⟩;obtain⟨⟨d2,os2⟩,rfl⟩:=e_ hb2))
   |go_region_law (first
     | (refine bg_ _ rfl _ _ 25 rfl WA.heap.size 30 i0 (.slice none 0 0) 1 24 Tryz.underlying25 hi hz0 hz1 hz2 rfl (by decide) _ _ _ rfl (World.ownsRow.alloc (ge_ HO.o.row) _) (fun _=>True) _ _ _ _ rfl (fa_ rfl (by simp)) ?_ ?_ ?_ ?_ ?_;(intro u hu;simp at hu;subst hu;rfl);(unfold maxLen;omega);omega;(simp;omega);intro A' c' w3 hown' hgrow hat;obtain⟨y0,y1,y2,y3,y4,y5,y6⟩:=b_ (cb_ HX.o HNE.o hgrow))
     | (go_simp;go_at_call 8;refine(HC.o _ ?_).mono ?_;exact HOP.o;rintro e w2 ⟨A2,c2,rfl,ho2,hb2⟩;obtain⟨⟨d2,os2⟩,rfl⟩:=e_ hb2))
   all_goals(
    have HB2:Below wr.heap.size wr (Go.Sort.grow (redrawn wr d2) os2):=⟨hb2.os,hb2.tape,hb2.output,hb2.size,hb2.block⟩
    have ho3:(Go.Sort.grow (redrawn wr d2) os2).ownsRow wr.heap.size 73 3 (.slice A2 qp.length c2) qp.length (opCells qp):=ho2;have hE3:=cb_ hE (it_ HO.o.row (by omega)) hgrow;have hR3:=cb_ hR (it_ HO.o.row (by omega)) hgrow;have hX3:=cb_ HX.o HNE.o hgrow;have hP:=HO.o.push hsz HB2 ho3 hgrow hown' hat;have hF:=bm_ hbw HB2 hgrow (fun g hg=>Nat.le_trans HBA.o.size (HO.o.row.lt g hg).1);have hS3:=hgrow.size;have hS2:=HB2.size;clear hown' hgrow hat ho2 ho3 hb2 HB2 y0 y1 y2 y3 y4 y5 y6;refine u_ (fun G=>EdgeAt G X s h A' (L'.length+1) c'∧OpsOwn G WA.heap.size A' c' (L'++ [⟨A2,c2,qp⟩])∧EdgeAt G w.heap.size s h (some ⟨b,o,none⟩) L.length c∧EdgeAt G R 0 0 none 0 0∧Below w.heap.size w G∧WA.heap.size≤G.heap.size) ⟨x_ hX3,hP.kept (by simp [World.setCell]) (fun g hg _=>bH_ (by show g≠X;omega)),(bH_ (by show w.heap.size≠X;omega)).trans hE3,(bH_ (by show R≠X;omega)).trans hR3,bSet hF (by show w.heap.size≤X;omega) _,by simp [World.setCell];simp at hS3;omega⟩ ?_;rintro G ⟨hX4,hP4,hE4,hR4,hF4,hS4⟩;clear hE3 hR3 hX3 hP hF hS3 hS2;go_wp2_with fail
    go_roundw
    case rel=>exact⟨L'.length+1,L'++ [⟨A2,c2,qp⟩],A',c',by omega,by go_num,by simp,by rw [List.map_append,hps.o,List.take_succ_eq_append_getElem hlt,List.map_append,hq];rfl,hX4,hP4,hE4,hR4,hF4,hS4⟩
    case measure=>simp [intOf];omega)
  ·obtain hk':L'.length=L.length:=(by omega);rw [hk',List.take_length]at hps;have HO:=h_ hown;obtain⟨r0,r1,r2,q0,q1,q2,hrz⟩:=b_ hR;clear hown;go_wp2_with fail
   have HR3:EdgeAt (((wr.setCell ⟨R,0,none⟩ (.int .i64 s)).setCell ⟨R,1,none⟩ (.int .i64 h)).setCell ⟨R,2,none⟩ (.slice Ao L.length co)) R s h Ao L.length co:=x_ (bc_ (bd_ hR));have HO3:=HO.o.kept (w':=((wr.setCell ⟨R,0,none⟩ (.int .i64 s)).setCell ⟨R,1,none⟩ (.int .i64 h)).setCell ⟨R,2,none⟩ (.slice Ao L.length co)) (by simp [World.setCell]) (fun g hg _=>(bH_ (by show g≠R;omega)).trans ((bH_ (by show g≠R;omega)).trans (bH_ (by show g≠R;omega))));have HF3:=bSet (bSet (bSet hbw (p:=⟨R,0,none⟩) (Nat.le_of_lt hRB) (.int .i64 s)) (p:=⟨R,1,none⟩) (Nat.le_of_lt hRB) (.int .i64 h)) (p:=⟨R,2,none⟩) (Nat.le_of_lt hRB) (.slice Ao L.length co);refine u_ (fun G=>EdgeAt G R s h Ao L.length co∧OpsOwn G WA.heap.size Ao co L'∧Below w.heap.size w G) ⟨HR3,HO3,HF3⟩ ?_;rintro G ⟨hR4,hO4,hF4⟩;obtain⟨t0,t1,t2,_,_,_,_⟩:=b_ hR4;clear HR3 HO3 HF3;first
   |guard_hyp vAB
    refine bodyPost_ret (v:=edgeV s h Ao L.length co) (by simp [results,Tryz.results127,go_sem,t0,t1,t2]) rfl ?_
   |refine bodyPost_ret (v:=edgeV s h Ao L.length co) (by simp [results,Tryz.results17,go_sem,t0,t1,t2]) rfl ?_
   exact⟨Ao,co,L',by rw [hk'],hps.o,hO4.mono HBA.o.size,hF4⟩
 ),P):=⟨@q6_⟩
 exact m155_):P:=h
theorem m65_{P:Prop}(h:P:=by
 go_enter Tryz.func36,Tryz.ntmps36
 have k132_:K_ (∀(P:Prop) (h:P:=by
 exact m102_
 ),P):=⟨@q6_⟩
 exact m132_):P:=h
theorem m99_{P:Prop}(h:P:=by
 go_enter Tryz.func29,Tryz.ntmps29
 have k252_:K_ (∀(P:Prop) (h:P:=by
 refine(v_ _ _ (by omega) (by omega)).mono ?_;rintro e w1 ⟨rfl,rfl⟩;go_wp2_with fail
 exact k99_.o _
 ),P):=⟨@q6_⟩
 exact m252_):P:=h
theorem m103_{P:Prop}(h:P:=by
 obtain⟨WA,hWA⟩:=q2_ (W1.alloc (.cells #[.int .i64 0,.int .i64 0,.slice none 0 0] 55));have k204_:K_ (∀(P:Prop) (h:P:=by
 exact k103_.o _
 ),P):=⟨@q6_⟩
 exact m204_):P:=h
theorem m122_{P:Prop}(h:P:=by
 go_wp2_with fail
 rw [HW.o,HE2.o];refine(HC.o _ (HT.o.la HA.o.b) (HS.o.la HA.o.b) HM.o).mono ?_;rintro e w1 ⟨rfl,hb1⟩;have H1:=h_ (HA.o.la hb1);have hz1:=hb1.size;obtain⟨e0,e1,e2,_,_,_,hez⟩:=b_ H1.o.e;obtain⟨r0,r1,r2,q0,q1,q2,hrz⟩:=b_ H1.o.r;clear hb1;exact k122_.o _):P:=h
theorem m131_{P:Prop}(h:P:=by
 first
 |guard_hyp vCG
 |have hs2:=hW.size
 have hs3:=hg.size;first
 |guard_hyp vCG
  simp at hs3;have hlen:(L++ [x]).length=L.length+1:=by simp
  have hold: ∀b,b<W2.heap.size→(Value.slice Ao L.length co).ownBlock≠some b→w3.heap[b]?=W2.heap[b]?:=fun b hb hne=>
   (hg.block b (by simp;omega) (fun e=>hne e.symm)).trans (q_ _ _ b hb)
 |guard_hyp vCF
  have hlen:(L++ [x]).length=L.length+1:=by simp
  have hold: ∀b,b<W2.heap.size→(Value.slice Ao L.length co).ownBlock≠some b→w3.heap[b]?=W2.heap[b]?:=fun b hb hne=>hg.block b hb (fun e=>hne e.symm)
 |simp at hs3;first
  |guard_hyp vCE
   have hlen:(L++ [x]).length=L.length+1:=by simp
  |have hlen:(L++ [(⟨A2,c2,qp⟩:OpV)]).length=L.length+1:=by simp
  have hold: ∀b,b<W2.heap.size→(Value.slice Ao L.length co).ownBlock≠some b→w3.heap[b]?=W2.heap[b]?:=fun b hb hne=>
   (hg.block b (by simp;omega) (fun e=>hne e.symm)).trans (q_ _ _ b hb)
 have hnew: ∀b,b<W2.heap.size→(Value.slice Ao L.length co).ownBlock≠some b→(Value.slice A' (L.length+1) c').ownBlock≠some b:=fun b hb hne e=>by
  rcases hat with h | h
  ·exact hne (h.symm.trans e)
  ·rw [h]at e;simp at e;omega
 first
 |guard_hyp vCG
  refine⟨by rw [hlen,List.flatMap_append];simpa using hown,fun p hp=>?_⟩
 |refine⟨by rw [hlen];simpa using hown,fun p hp=>?_⟩
 rw [hlen];rcases List.mem_append.1 hp with hp | hp
 first
 |guard_hyp vCG
  ·refine(hO.each p hp).mv fun b hb=>⟨⟨⟨hb.1.1,by omega⟩,hnew b (by omega) hb.2⟩,(hold b (by omega) hb.2).trans (hW b hb.1.1 hb.1.2)⟩
 |·refine(hO.each p hp).mv fun b hb=>⟨⟨⟨hb.1.1,by omega⟩,hnew b (by omega) hb.2⟩,(hold b (by omega) hb.2).trans (hW.block b hb.1.2)⟩
 ·first
  |guard_hyp vCG
   obtain rfl:p=x:=(by simpa using hp);refine hx.mv fun b hb=>?_
  |guard_hyp vCF
   obtain rfl:p=x:=(by simpa using hp);refine hx.mv fun b hb=>?_
  |guard_hyp vCE
   obtain rfl:p=x:=(by simpa using hp);refine hx.mv fun b hb=>?_
  |obtain rfl:p=⟨A2,c2,qp⟩:=(by simpa using hp);refine(Sl.of_own _ ho2).mv fun b hb=>?_
  have hne:(Value.slice Ao L.length co).ownBlock≠some b:=fun e=>by have:=(hO.row.lt b e).2;omega
  exact⟨⟨⟨by omega,by omega⟩,hnew b (by omega) hne⟩,hold b hb.2 hne⟩):P:=h
theorem m140_{P:Prop}(h:P:=by
 obtain⟨R,hR⟩:=q2_ (W1.heap.size);have HE2:=h_ (show w.heap.size+1=R by omega);have hRB:w.heap.size<R:=by omega
 have hRz:R<WA.heap.size:=by omega
 rw [←hR]at HA;clear hR k1 k2 g1 g2 hWA hW1;exact k140_.o _):P:=h
theorem m142_{P:Prop}(h:P:=by
 refine⟨⟨h.row.1,?_⟩,fun o ho=>(h.each o ho).mv fun b hb=>⟨⟨⟨hb.1.1,Nat.lt_of_lt_of_le hb.1.2 hs⟩,hb.2⟩,hk b hb.1.1 hb.1.2⟩⟩;rcases h.row.2 with hn | ⟨g,cap,cur,e,hb,hg,rest⟩
 ·exact .inl hn
 ·exact .inr ⟨g,cap,cur,e,hb,(hk g hb (Array.getElem?_eq_some_iff.1 hg).1).trans hg,rest⟩):P:=h
theorem m155_{P:Prop}(h:P:=by
 have g1:W1.heap.size=w.heap.size+1:=by rw [hW1];simp
 have g2:W2.heap.size=W1.heap.size+1:=by rw [hW2];simp
 have g3:WA.heap.size=W2.heap.size+1:=by rw [hWA];simp
 have k1:Below w.heap.size w W1:=by rw [hW1];exact bA_
 have k2:Below W1.heap.size W1 W2:=by rw [hW2];exact bA_
 have k3:Below W2.heap.size W2 WA:=by rw [hWA];exact bA_
 exact k155_.o _):P:=h
theorem m185_{P:Prop}(h:P:=by
 go_enter Tryz.func71,Tryz.ntmps71
 exact m102_):P:=h
theorem m199_{P:Prop}(h:P:=by
 have HA:=h_ (show SendAt w WA W1.heap.size s h A L.length c from⟨(k2.block _ (by omega)).trans (by rw [hW1];show(w.heap.push _)[w.heap.size]?=_;simp),by rw [hWA];show(W1.heap.push _)[W1.heap.size]?=_;simp,bThen k1 k2⟩);have HW:=h_ (show(w.alloc (.cells #[.int .i64 s,.int .i64 h,.slice A L.length c] 55)).alloc (.cells #[.int .i64 0,.int .i64 0,.slice none 0 0] 55)=WA by rw [hWA,hW1]);exact k199_.o _):P:=h
theorem m204_{P:Prop}(h:P:=by
 have g1:W1.heap.size=w.heap.size+1:=by rw [hW1];simp
 have g2:WA.heap.size=W1.heap.size+1:=by rw [hWA];simp
 have k1:Below w.heap.size w W1:=by rw [hW1];exact bA_
 have k2:Below W1.heap.size W1 WA:=by rw [hWA];exact bA_
 exact k204_.o _):P:=h
theorem m205_{P:Prop}(h:P:=by
 clear q;obtain⟨k,h,e,ps,s⟩:=f;dsimp only at*;have k99_:K_ (∀(P:Prop) (h:P:=by
 refine(HE.o _).mono ?_;rintro r w2 ⟨rfl,hb2⟩;obtain⟨⟨d2,os2⟩,rfl⟩:=e_ hb2;go_wp2_with fail
 go_ret
 exact⟨rfl,bz_⟩
 ),P):=⟨@q6_⟩
 exact m99_):P:=h
theorem m232_{P:Prop}(h:P:=by
 refine callsIn_of_wp Tryz.func135 rfl hF ?_ hro;simp only [Tryz.ntmps135,List.size_toArray,List.length_cons,List.length_nil,Nat.reduceAdd,Nat.reduceSub,Array.replicate_succ,Array.replicate_zero,List.push_toArray,List.append_toArray,List.nil_append,List.cons_append];gi_wp2
 exact k232_.o _):P:=h
theorem m253_{P:Prop}(h:P:=by
 gi_wp2
 exact⟨(fz_ HB2.o).trans (KeepsOthers.setCell _ _ _),⟨rfl,HNW.o,World.cell?_setCell_same' _ _ _ (by rw [j4];rfl)⟩,HBW.o.setCell (p:=⟨w.heap.size+1,0,none⟩) (by simp) _⟩):P:=h
theorem m255_{P:Prop}(h:P:=by
 have k99_:K_ (∀(P:Prop) (h:P:=by
 go_ret
 exact⟨rfl,bz_⟩
 ),P):=⟨@q6_⟩
 exact m99_):P:=h
structure SideV where
 p:Int
 j:Bool
 s:Int
 h:Int
 A:Option Addr
 c:Nat
 L:List OpV
 k:LinkV
instance:Inhabited SideV:=⟨⟨0,false,0,0,none,0,[],⟨0,0,none,0,[],none,0,[],0⟩⟩⟩
def SideV.cells (x:SideV):List Value:= [.int .i64 x.p,.bool x.j,.int .i64 x.s,.int .i64 x.h,.slice x.A x.L.length x.c,.int .i64 x.k.e,.int .i64 x.k.n,.slice x.k.sA x.k.s.length x.k.sc,.slice x.k.qA x.k.q.length x.k.qc,.int .i64 x.k.h]
theorem SideV.cells_len(x:SideV):x.cells.length=10:=rfl
structure SideV.In (w:World) (x:SideV):Prop where
 ops:OpsIn w x.A x.L
 link:x.k.In w
structure SideV.Small (x:SideV):Prop where
 len:x.L.length≤1048576
 ops: ∀o∈x.L,o.Small
 link:x.k.Small
theorem LinkV.In.la{w w':World}{l:LinkV}(h:l.In w)(hb:Below w.heap.size w w'):l.In w':=⟨h.s.la hb,h.q.la hb⟩
theorem SideV.In.la{w w':World}{x:SideV}(h:x.In w)(hb:Below w.heap.size w w'):x.In w':=⟨h.ops.la hb,h.link.la hb⟩
structure SidesIn (w:World) (A:OA_) (L:List SideV):Prop where
 row:Sl (· <w.heap.size) w 10 A L.length (L.flatMap SideV.cells)
 each: ∀x∈L,x.In w
theorem SidesIn.la{w w':World}{A:Option Addr}{L:List SideV}(h:SidesIn w A L)(hb:Below w.heap.size w w'):SidesIn w' A L:=⟨h.row.la hb,fun x hx=>(h.each x hx).la hb⟩
def markCells (m:Int × Int):List Value:= [.int .i64 m.1,.int .i64 m.2]
theorem bp_(m:Int × Int):(markCells m).length=2:=rfl
abbrev MarksIn (w:World) (A:OA_) (M:List (Int × Int)):Prop:=Sl (· <w.heap.size) w 2 A M.length (M.flatMap markCells)
structure NodeV where
 me:Int
 ep:Int
 up:Int
 rd:Bool
 t:ByteArray
 sA:Option Addr
 sc:Nat
 S:List SideV
 uA:Option Addr
 uc:Nat
 U:List OpV
 mA:Option Addr
 mc:Nat
 M:List (Int × Int)
abbrev NodeV.val (n:NodeV):Value:= .agg #[.int .i64 n.me,.int .i64 n.ep,.int .i64 n.up,.bool n.rd,.string n.t,.slice n.sA n.S.length n.sc,.slice n.uA n.U.length n.uc,.slice n.mA n.M.length n.mc]
structure NodeV.In (w:World) (n:NodeV):Prop where
 sides:SidesIn w n.sA n.S
 undo:OpsIn w n.uA n.U
 marks:MarksIn w n.mA n.M
theorem NodeV.In.la{w w':World}{n:NodeV}(h:n.In w)(hb:Below w.heap.size w w'):n.In w':=⟨h.sides.la hb,h.undo.la hb,Sl.la h.marks hb⟩
structure NodeV.Small (n:NodeV):Prop where
 text:n.t.size≤1048576
 sl:n.S.length≤1048576
 sides: ∀x∈n.S,x.Small
 ul:n.U.length≤1048576
 undo: ∀o∈n.U,o.Small
 ml:n.M.length≤1048576

def undoOk (at_:Int):List (List PartD)→Prop
 | []=>True
 | o :: os=>(opFault o=0∧(lens o).1=at_)∧undoOk (lens o).2 os
def lastFits (r:Int) (L:List OpV):Prop:= ∀o,L.getLast?=some o→(lens o.ps).2=r
def sideMay (rd:Bool) (r:Int) (x:SideV):Prop:=(edgeMay x.s x.h x.L∧linkMay x.k)∧if x.j=false then x.s=0∧x.h=0 else lastFits r x.L∧rd=true∧x.k.e≠0
def nodeNums (zs:List Int) (n:NodeV):Prop:=(0≤n.me∧n.me<zs.length)∧(1≤n.ep∧n.ep<1048576)∧(0≤n.up∧n.up≤1048576)∧ ¬(n.me=0∧0<n.up)∧textFault n.t=0
def nodeLens (zs:List Int) (n:NodeV):Prop:=(peers zs n.me).length=n.S.length∧n.U.length≤12∧n.M.length≤1∧(n.rd=false→n.me≠0∧n.t.size=0∧n.U.length=0∧n.M.length=0)
def runesI (s:ByteArray):Int:=(Lib.runeCount s:Int)
def sidesOk (zs:List Int) (n:NodeV):Prop:= ∀i (h:i<n.S.length),n.S[i].p=(peers zs n.me).getD i 0∧sideMay n.rd (runesI n.t) n.S[i]
def parentOk (n:NodeV):Prop:=0<n.me→ ∀x,n.S.head?=some x→x.j=n.rd
def markOk (r:Int) (m:Int × Int):Prop:=(0≤m.1∧m.1≤r)∧(0≤m.2∧m.2≤r)
def nodeMay (zs:List Int) (n:NodeV):Prop:=nodeNums zs n∧nodeLens zs n∧undoOk (runesI n.t) (n.U.map OpV.ps).reverse∧sidesOk zs n∧parentOk n∧ ∀m∈n.M,markOk (runesI n.t) m
open Classical in
noncomputable def nodeFault (zs:List Int) (n:NodeV):Int:=if treeFault zs≠0 then treeFault zs else if nodeMay zs n then 0 else 9
section
variable {zs:List Int}{n:NodeV}
include zs n
theorem dy_(h:treeFault zs≠0):nodeFault zs n=treeFault zs:=if_pos h
theorem cq_(h:treeFault zs=0)(hn: ¬nodeMay zs n):nodeFault zs n=9:=by
 unfold nodeFault;rw [if_neg (by simpa using h),if_neg hn]
theorem fv_(h:treeFault zs=0)(hn:nodeMay zs n):nodeFault zs n=0:=by
 unfold nodeFault;rw [if_neg (by simpa using h),if_pos hn]
end
section
variable(w:World) (s h:Int) (A:OA_) (c:Nat) (L:List OpV) (hT:Tabs w) (hs:OpsIn w A L) (hm: ∀o∈L,o.Small)
include w s h A c L hT hs hm
theorem ij_:
 Calls Tryz.prog 122 #[edgeV s h A L.length c] w (R_ w (.int .i64 (edgeErr s h L))):=by
 by_cases hg:((0≤s∧s≤1048576)∧(0≤h∧h≤1048576))∧(L.length:Int)≤s
 ·exact qb_ w s h A c L hg.1.1.1 hg.1.1.2 hg.1.2.1 hg.1.2.2 hg.2 hT hs hm
 ·rw [show edgeErr s h L=9 from if_neg fun k=>hg ⟨k.1,k.2.1⟩];by_cases h1:s<0
  ·exact nq_ w s h A c L h1
  by_cases h2:1048576<s
  ·exact nr_ w s h A c L h2
  by_cases h3:h<0
  ·exact ns_ w s h A c L (by omega) (by omega) h3
  by_cases h4:1048576<h
  ·exact nt_ w s h A c L (by omega) (by omega) h4
  exact nu_ w s h A c L (by omega) (by omega) (by omega) (by omega) (by omega)
theorem jx_:
 Calls Tryz.prog 104 #[edgeV s h A L.length c] w (R_ w (.bool (edgeB s h L))):=by
 by_cases hg:((0≤s∧s≤1048576)∧(0≤h∧h≤1048576))∧(L.length:Int)≤s
 ·exact tp_ w s h A c L hg.1.1.1 hg.1.1.2 hg.1.2.1 hg.1.2.2 hg.2 hT hs hm
 ·rw [show edgeB s h L=false from decide_eq_false fun k=>hg ⟨k.1,k.2.1⟩];by_cases h1:s<0∨1048576<s
  ·exact st_ w s h A c L (h_ h1)
  by_cases h2:h<0∨1048576<h
  ·exact su_ w s h A c L (by omega) (by omega) (h_ h2)
  exact sv_ w s h A c L (by omega) (by omega) (by omega) (by omega) (by omega)
end
namespace edgeChecks
end edgeChecks
theorem dj_(w:World)(A:OA_)(c:Nat)(ps:LP_)(hs:OpIn (· <w.heap.size) w A ps)(hm:ps.length≤1048576):
 Calls Tryz.prog 100 #[.slice A ps.length c] w (RetOp w ps):=by
 obtain⟨i0,hi,hz0,hz1,hz2⟩:=info_parts infoPart;rcases A with _ | ad
 ·have hb:ps= []:=by
   rcases Nat.eq_zero_or_pos ps.length with h | h
   ·exact List.eq_nil_of_length_eq_zero h
   ·obtain⟨_,_,h,_⟩:=hs.2 h;cases h
  subst hb;have hnil:=fun wx=>Lib.run_eql_slice_nil (P:=Tryz.prog) wx 30 73 none 0 c 0 0 Tryz.underlying30;go_enter Tryz.func100,Tryz.ntmps100
  go_wp2
  go_ret
  exact⟨none,0,by simp,World.ownsRow_nil _ _ _ _,Below.refl _ _⟩
 ·have hnil:=fun wx=>Lib.run_eql_slice_nil (P:=Tryz.prog) wx 30 73 (some ad) ps.length c 0 0 Tryz.underlying30;go_enter Tryz.func100,Tryz.ntmps100
  go_wp2_with(at_builtin;refine l_ _ rfl _ _ 30 rfl w.heap.size 73 i0 (.agg #[.int .i64 0,.int .i64 0,.string ⟨#[]⟩]) 3 32 Tryz.underlying30 hi hz0 hz1 hz2 rfl (by decide) _ _ _ rfl (World.ownsRow_lit w #[] 0 (Nat.le_refl _) (by unfold maxLen;omega) rfl) _ _ _ _ _ rfl (hs.la bA_) (bfk_ ps) ?c1 ?c2 ?c3 ?_)
  case c1=>unfold maxLen;omega
  case c2=>omega
  case c3=>simp
  intro A' c' w1 hown hgrow hat;go_wp2
  go_ret
  exact⟨A',c',by simp,hown,bA_.grown hgrow (by simp) (fun k hk=>by simp [Value.ownBlock]at hk;omega)⟩
theorem infoOp:(Tryz.prog.info? 30).map (fun i=>(i.zero,i.size,i.bytes))=some (some (.slice none 0 0),1,24):=by kernel_rfl
structure OpsOwn (w:World) (base:Nat) (A:OA_) (c:Nat) (L:List OpV):Prop where
 row:w.ownsRow base 30 1 (.slice A L.length c) L.length (L.map OpV.val)
 each: ∀o∈L,OpIn (fun b=>(base≤b∧b<w.heap.size)∧(Value.slice A L.length c).ownBlock≠some b) w o.A o.ps
theorem Sl.mv{S S':Nat→Prop}{w w':World}{n m:Nat}{A:Option Addr}{xs:List Value}(h:Sl S w n A m xs)(k: ∀b,S b→S' b∧w'.heap[b]?=w.heap[b]?):Sl S' w' n A m xs:=by
 refine⟨h.1,fun h0=>?_⟩;obtain⟨b,o,e,hb,hc⟩:=h.2 h0;exact⟨b,o,e,(k b hb).1,fun j u hu=>(World.cell?_of_block (w:=w) (a:=⟨b,o+j,none⟩) (k b hb).2).trans (hc j u hu)⟩
theorem OpsOwn.kept{w w':World}{base:Nat}{A:Option Addr}{c:Nat}{L:List OpV}(h:OpsOwn w base A c L)(hs:w.heap.size≤w'.heap.size)(hk: ∀b,base≤b→b<w.heap.size→w'.heap[b]?=w.heap[b]?):OpsOwn w' base A c L:=by
 exact m142_
theorem OpsOwn.nil(w:World)(base:Nat):OpsOwn w base none 0 []:=⟨World.ownsRow_nil _ _ _ _,by simp⟩
theorem OpsOwn.mono{w:World}{base base':Nat}{A:Option Addr}{c:Nat}{L:List OpV}(h:OpsOwn w base A c L)(hb:base'≤base):OpsOwn w base' A c L:=
 ⟨⟨h.row.1,h.row.2.imp id fun⟨g,cap,cur,e,hg,rest⟩=>⟨g,cap,cur,e,Nat.le_trans hb hg,rest⟩⟩,fun o ho=>(h.each o ho).mv fun _ hx=>⟨⟨⟨Nat.le_trans hb hx.1.1,hx.1.2⟩,hx.2⟩,rfl⟩⟩
theorem OpsOwn.push{wr W2 w3:World}{base:Nat}{Ao A' A2:Option Addr}{co c' c2:Nat}{L:List OpV}{qp:List PartD}{o:Obj}(hO:OpsOwn wr base Ao co L)(hbs:base≤wr.heap.size)(hW:Below wr.heap.size wr W2)
 (ho2:W2.ownsRow wr.heap.size 73 3 (.slice A2 qp.length c2) qp.length (opCells qp)) (hg:(W2.alloc o).grownBy w3 (Value.slice Ao L.length co).ownBlock)
 (hown:w3.ownsRow base 30 1 (.slice A' (L.length+1) c') (L.length+1) (L.map OpV.val++ [.slice A2 qp.length c2]))
 (hat:(Value.slice A' (L.length+1) c').ownBlock=(Value.slice Ao L.length co).ownBlock∨(Value.slice A' (L.length+1) c').ownBlock=some (W2.alloc o).heap.size):OpsOwn w3 base A' c' (L++ [⟨A2,c2,qp⟩]):=by
 exact m131_
abbrev EdgeAt (w:World) (X:Nat) (s h:Int) (A:OA_) (n c:Nat):Prop:=w.heap[X]?=some (.cells #[.int .i64 s,.int .i64 h,.slice A n c] 55 (0,0))
theorem ge_{w:World}{base size n d:Nat}{os:Array Obj}{e:TypeId}{v:Value}{xs:List Value}(h:w.ownsRow base e size v n xs):(Go.Sort.grow (redrawn w d) os).ownsRow base e size v n xs:=by
 have hb:=below_regrown w d os;exact h.kept (row:=none) ⟨hb.os,hb.tape,hb.output,hb.size,fun k hk _=>hb.block k hk⟩ (by cases v.ownBlock <;> simp)
theorem cb_{wr w3:World}{X d:Nat}{os:Array Obj}{o ob:Obj}{v:Value}(hX:wr.heap[X]?=some ob)(hne:v.ownBlock≠some X)(hg:((Go.Sort.grow (redrawn wr d) os).alloc o).grownBy w3 v.ownBlock):w3.heap[X]?=some ob:=by
 have hl:X<wr.heap.size:=(Array.getElem?_eq_some_iff.1 hX).1;exact(hg.block X (by simp;omega) (fun e=>hne e.symm)).trans ((q_ _ _ X (by simp;omega)).trans (((below_regrown _ _ _).block X hl).trans hX))
theorem fa_{W:World}{cs:List Value}{t:TypeId}{n:Nat}{A:Option Addr}(hl:cs.length=n*1)(hA:A=some ⟨W.heap.size,0,none⟩):Sl (fun _=>True) (W.alloc (.cells cs.toArray t)) 1 A n cs:=by
 subst hA;exact Sl.new W cs t 1 n hl trivial
theorem bd_{w:World}{B:Nat}{v u z x:Value}{t:TypeId}(h:w.heap[B]?=some (.cells #[v,u,z] t (0,0))):(w.setCell ⟨B,0,none⟩ x).heap[B]?=some (.cells #[x,u,z] t (0,0)):=by
 rw [heap_setCell_same w B 0 _ _ _ h];rfl
theorem it_{w:World}{base:Nat}{e:TypeId}{size n k:Nat}{v:Value}{xs:List Value}(h:w.ownsRow base e size v n xs)(hk:k<base):v.ownBlock≠some k:=fun e1=>by have:=(h.lt k e1).1;omega
theorem bm_{w wr W2 w3:World}{o:Obj}{ob:Option Nat}(hbw:Below w.heap.size w wr)(hW:Below wr.heap.size wr W2)(hg:(W2.alloc o).grownBy w3 ob)(hob: ∀g,ob=some g→w.heap.size≤g):Below w.heap.size w w3:=
 (bAlloc (bThen hbw hW) o).grown hg (by have:=hbw.size;have:=hW.size;simp;omega) hob
def RetEdge (w:World) (s h:Int) (L:List OpV) (e:Ending) (w':World):Prop:=
 ∃A' c' L',e= .returned (edgeV s h A' L'.length c')∧L'.map OpV.ps=L.map OpV.ps∧OpsOwn w' w.heap.size A' c' L'∧Below w.heap.size w w'
theorem jb_(w:World)(s h:Int)(A:OA_)(c:Nat)(L:List OpV)(hs:OpsIn w A L)(hl:L.length≤1048576)(hm: ∀o∈L,o.Small):
 Calls Tryz.prog 17 #[edgeV s h A L.length c] w (RetEdge w s h L):=by
 exact m16_
structure PacketD where
 epoch:Int
 number:Int
 bare:Bool
 ack:Int
 frame:FrameD
def emptyF (f:FrameD):Prop:=f.kind=0∧f.heard=0∧f.epoch=0∧f.op= []∧f.text.toList= []
instance (f:FrameD):Decidable (emptyF f):=by
 unfold emptyF;exact inferInstance
def packetFault (p:PacketD):Int:=
 if(p.epoch<0∨1048576<p.epoch)∨(p.number<0∨1048576<p.number)∨(p.ack<0∨1048576<p.ack)then 2
 else if p.bare=true then(if p.number=0∧emptyF p.frame then 0 else 4)
 else if p.number=0∨p.epoch=0 then 4 else frameFault p.frame
abbrev packetV (ep nu:Int) (b:Bool) (ak k h e:Int) (A:OA_) (n c:Nat) (s:ByteArray):Value:= .agg #[.int .i64 ep,.int .i64 nu,.bool b,.int .i64 ak,.int .i64 k,.int .i64 h,.int .i64 e,.slice A n c,.string s]
section
variable(w:World)
include w
theorem bgo_(k h e:Int)(A:OA_)(n:Nat)(c:Nat)(s:ByteArray)(_q:(k==0)=false):Calls Tryz.prog 71 #[frameV k h e A n c s] w (R_ w (.bool false)):=by
 exact m185_
theorem bgp_(h e:Int)(A:OA_)(n:Nat)(c:Nat)(s:ByteArray)(_q:(h==0)=false):Calls Tryz.prog 71 #[frameV 0 h e A n c s] w (R_ w (.bool false)):=by
 exact m185_
theorem bgq_(e:Int)(A:OA_)(n:Nat)(c:Nat)(s:ByteArray)(_q:(e==0)=false):Calls Tryz.prog 71 #[frameV 0 0 e A n c s] w (R_ w (.bool false)):=by
 exact m185_
theorem bgr_(A:OA_)(n:Nat)(c:Nat)(s:ByteArray):Calls Tryz.prog 71 #[frameV 0 0 0 A (n+1) c s] w (R_ w (.bool false)):=by
 exact m185_
theorem bgs_(A:OA_)(c:Nat)(s:ByteArray)(_q:s.toList.isEmpty=false):Calls Tryz.prog 71 #[frameV 0 0 0 A 0 c s] w (R_ w (.bool false)):=by
 exact m185_
theorem bgt_(A:OA_)(c:Nat)(s:ByteArray)(_q:s.toList.isEmpty=true):Calls Tryz.prog 71 #[frameV 0 0 0 A 0 c s] w (R_ w (.bool true)):=by
 exact m185_
theorem yc_(f:FrameD)(A:OA_)(c:Nat):Calls Tryz.prog 71 #[frameV f.kind f.heard f.epoch A f.op.length c f.text] w (R_ w (.bool (decide (emptyF f)))):=by
 obtain⟨k,h,e,ps,s⟩:=f;dsimp only;by_cases h0:k=0
 ·subst h0;by_cases h1:h=0
  ·subst h1;by_cases h2:e=0
   ·subst h2;rcases ps with _ | ⟨p,r⟩
    ·by_cases h4:s.toList= []
     ·rw [decide_eq_true (show emptyF ⟨0,0,0,[],s⟩from⟨rfl,rfl,rfl,rfl,h4⟩)];exact bgt_ w A c s (by simpa using h4)
     ·rw [decide_eq_false (show¬emptyF ⟨0,0,0,[],s⟩from fun q=>h4 q.2.2.2.2)];exact bgs_ w A c s (by simpa using h4)
    ·rw [decide_eq_false (show¬emptyF ⟨0,0,0,p :: r,s⟩from fun q=>by cases q.2.2.2.1)];exact bgr_ w A r.length c s
   ·rw [decide_eq_false (show¬emptyF ⟨0,0,e,ps,s⟩from fun q=>h2 q.2.2.1)];exact bgq_ w e A ps.length c s (by simpa using h2)
  ·rw [decide_eq_false (show¬emptyF ⟨0,h,e,ps,s⟩from fun q=>h1 q.2.1)];exact bgp_ w h e A ps.length c s (by simpa using h1)
 ·rw [decide_eq_false (show¬emptyF ⟨k,h,e,ps,s⟩from fun q=>h0 q.1)];exact bgo_ w k h e A ps.length c s (by simpa using h0)
section
variable(ep nu:Int) (b:Bool) (ak k h e:Int) (A:OA_) (n c:Nat) (s:ByteArray)
include ep nu b ak k h e A n c s
theorem py_(H:Hid (ep<0∨1048576<ep)):Calls Tryz.prog 29 #[packetV ep nu b ak k h e A n c s] w (R_ w (.int .i64 2)):=by
 go_enter Tryz.func29,Tryz.ntmps29
 go_wp2_with fail
 refine(gu_ _ _ H.o).mono ?_;rintro e w1 ⟨rfl,rfl⟩;exact m102_
theorem pz_(h1:0≤ep)(h2:ep≤1048576)(H:Hid (nu<0∨1048576<nu)):Calls Tryz.prog 29 #[packetV ep nu b ak k h e A n c s] w (R_ w (.int .i64 2)):=by
 go_enter Tryz.func29,Tryz.ntmps29
 go_wp2_with fail
 refine(v_ _ _ (by omega) (by omega)).mono ?_;rintro e w1 ⟨rfl,rfl⟩;go_wp2_with fail
 refine(gu_ _ _ H.o).mono ?_;rintro e w1 ⟨rfl,rfl⟩;exact m102_
theorem qa_(h1:0≤ep)(h2:ep≤1048576)(h3:0≤nu)(h4:nu≤1048576)(H:Hid (ak<0∨1048576<ak)):Calls Tryz.prog 29 #[packetV ep nu b ak k h e A n c s] w (R_ w (.int .i64 2)):=by
 go_enter Tryz.func29,Tryz.ntmps29
 have k252_:K_ (∀(P:Prop) (h:P:=by
 refine(gu_ _ _ H.o).mono ?_;rintro e w1 ⟨rfl,rfl⟩;exact m102_
 ),P):=⟨@q6_⟩
 exact m252_
end
theorem ps_(ep nu:Int)(ak k h e:Int)(A:OA_)(n c:Nat)(s:ByteArray)(h1:0≤ep)(h2:ep≤1048576)(h3:0≤nu)(h4:nu≤1048576)(h5:0≤ak)(h6:ak≤1048576)(_q:(nu !=0)=true):Calls Tryz.prog 29 #[packetV ep nu true ak k h e A n c s] w (R_ w (.int .i64 4)):=by
 exact m255_
section
variable(ep ak:Int) (f:FrameD) (A:OA_) (c:Nat) (h1:0≤ep) (h2:ep≤1048576) (h5:0≤ak) (h6:ak≤1048576)
include ep ak f A c h1 h2 h5 h6
theorem pt_(q:emptyF f):Calls Tryz.prog 29 #[packetV ep 0 true ak f.kind f.heard f.epoch A f.op.length c f.text] w (R_ w (.int .i64 0)):=by
 have HE:=h_ (fun W=>yc_ W f A c);rw [decide_eq_true q]at HE;exact m205_
theorem pu_(q: ¬emptyF f):Calls Tryz.prog 29 #[packetV ep 0 true ak f.kind f.heard f.epoch A f.op.length c f.text] w (R_ w (.int .i64 4)):=by
 have HE:=h_ (fun W=>yc_ W f A c);rw [decide_eq_false q]at HE;exact m205_
end
theorem pv_(ep:Int)(ak k h e:Int)(A:OA_)(n c:Nat)(s:ByteArray)(h1:0≤ep)(h2:ep≤1048576)(h5:0≤ak)(h6:ak≤1048576):Calls Tryz.prog 29 #[packetV ep 0 false ak k h e A n c s] w (R_ w (.int .i64 4)):=by
 exact m255_
theorem pw_(nu:Int)(ak k h e:Int)(A:OA_)(n c:Nat)(s:ByteArray)(h3:1≤nu)(h4:nu≤1048576)(h5:0≤ak)(h6:ak≤1048576):Calls Tryz.prog 29 #[packetV 0 nu false ak k h e A n c s] w (R_ w (.int .i64 4)):=by
 have z1:decide (nu<1)=false:=by simp;omega
 exact m255_
theorem px_(ep nu ak k h e:Int)(A:OA_)(c:Nat)(ps:LP_)(s:ByteArray)(h1:1≤ep)(h2:ep≤1048576)(h3:1≤nu)(h4:nu≤1048576)(h5:0≤ak)(h6:ak≤1048576)(hT:Tabs w)(hs:OpIn (· <w.heap.size) w A ps)(hm:ps.length≤1048576)(ht: ∀p∈ps,p.text.size≤1048576)(hst:s.size≤1048576):Calls Tryz.prog 29 #[packetV ep nu false ak k h e A ps.length c s] w (R_ w (.int .i64 (frameFault ⟨k,h,e,ps,s⟩))):=by
 have z1:decide (nu<1)=false:=by simp;omega
 have z3:decide (ep<1)=false:=by simp;omega
 have HT:=h_ hT;have HTX:=h_ ht;have HC:=h_ (fun W=>em_ W k h e A c ps s);clear hT ht;generalize frameFault ⟨k,h,e,ps,s⟩=x at*;have k99_:K_ (∀(P:Prop) (h:P:=by
 refine(HC.o _ (HT.o.la bz_) (Sl.la hs bz_) hm HTX.o hst).mono ?_;rintro r w2 ⟨rfl,hb2⟩;obtain⟨⟨d2,os2⟩,rfl⟩:=e_ hb2;go_wp2_with fail
 go_ret
 exact⟨rfl,bz_⟩
 ),P):=⟨@q6_⟩
 exact m99_
section
variable(ep nu:Int) (b:Bool) (ak k h e:Int) (A:OA_)
include ep nu b ak k h e A
theorem ca_(c:Nat)(ps:LP_)(s:ByteArray)(hT:Tabs w)(hs:OpIn (· <w.heap.size) w A ps)(hm:ps.length≤1048576)(ht: ∀p∈ps,p.text.size≤1048576)(hst:s.size≤1048576):
 Calls Tryz.prog 29 #[packetV ep nu b ak k h e A ps.length c s] w (R_ w (.int .i64 (packetFault ⟨ep,nu,b,ak,⟨k,h,e,ps,s⟩⟩))):=by
 by_cases g1:ep<0∨1048576<ep
 ·rw [show packetFault ⟨ep,nu,b,ak,⟨k,h,e,ps,s⟩⟩=2 from if_pos (.inl g1)];exact py_ w ep nu b ak k h e A ps.length c s (h_ g1)
 by_cases g2:nu<0∨1048576<nu
 ·rw [show packetFault ⟨ep,nu,b,ak,⟨k,h,e,ps,s⟩⟩=2 from if_pos (.inr (.inl g2))];exact pz_ w ep nu b ak k h e A ps.length c s (by omega) (by omega) (h_ g2)
 by_cases g3:ak<0∨1048576<ak
 ·rw [show packetFault ⟨ep,nu,b,ak,⟨k,h,e,ps,s⟩⟩=2 from if_pos (.inr (.inr g3))];exact qa_ w ep nu b ak k h e A ps.length c s (by omega) (by omega) (by omega) (by omega) (h_ g3)
 have g: ¬((ep<0∨1048576<ep)∨(nu<0∨1048576<nu)∨(ak<0∨1048576<ak)):=by omega
 cases b with
 | true=>
  rw [show packetFault ⟨ep,nu,true,ak,⟨k,h,e,ps,s⟩⟩=if nu=0∧emptyF ⟨k,h,e,ps,s⟩then 0 else 4 from(if_neg g).trans (if_pos rfl)];by_cases z:nu=0
  · subst z
    by_cases q:emptyF ⟨k,h,e,ps,s⟩
    · rw [if_pos ⟨rfl,q⟩]
      exact pt_ w ep ak ⟨k,h,e,ps,s⟩ A c (by omega) (by omega) (by omega) (by omega) q
    · rw [if_neg (fun h=>q h.2)]
      exact pu_ w ep ak ⟨k,h,e,ps,s⟩ A c (by omega) (by omega) (by omega) (by omega) q
  · rw [if_neg (fun q=>z q.1)]
    exact ps_ w ep nu ak k h e A ps.length c s (by omega) (by omega) (by omega) (by omega) (by omega) (by omega) (by simpa using z)
 | false=>
  rw [show packetFault ⟨ep,nu,false,ak,⟨k,h,e,ps,s⟩⟩=if nu=0∨ep=0 then 4 else frameFault ⟨k,h,e,ps,s⟩from(if_neg g).trans (if_neg (show¬false=true by decide))];by_cases z:nu=0
  · subst z
    rw [if_pos (.inl rfl)];exact pv_ w ep ak k h e A ps.length c s (by omega) (by omega) (by omega) (by omega)
  · by_cases y:ep=0
    · subst y
      rw [if_pos (.inr rfl)];exact pw_ w nu ak k h e A ps.length c s (by omega) (by omega) (by omega) (by omega)
    · rw [if_neg (by omega)]
      exact px_ w ep nu ak k h e A c ps s (by omega) (by omega) (by omega) (by omega) (by omega) (by omega) hT hs hm ht hst
section
variable(n c:Nat) (s:ByteArray)
include n c s
theorem qm_(H:Hid (ep<0∨1048576<ep)):Calls Tryz.prog 36 #[packetV ep nu b ak k h e A n c s] w (R_ w (.int .i64 2)):=by
 go_enter Tryz.func36,Tryz.ntmps36
 exact m264_
theorem qn_(h1:0≤ep)(h2:ep≤1048576)(H:Hid (nu<0∨1048576<nu)):Calls Tryz.prog 36 #[packetV ep nu b ak k h e A n c s] w (R_ w (.int .i64 2)):=by
 go_enter Tryz.func36,Tryz.ntmps36
 exact m187_
theorem qo_(h1:0≤ep)(h2:ep≤1048576)(h3:0≤nu)(h4:nu≤1048576)(H:Hid (ak<0∨1048576<ak)):Calls Tryz.prog 36 #[packetV ep nu b ak k h e A n c s] w (R_ w (.int .i64 2)):=by
 go_enter Tryz.func36,Tryz.ntmps36
 go_wp2_with fail
 refine(m_ _ _ _ _ (by omega) (by omega)).mono ?_;rintro e w1 ⟨rfl,rfl⟩;exact m187_
end
end
theorem qi_(ep nu:Int)(ak k h e:Int)(A:OA_)(n c:Nat)(s:ByteArray)(h1:0≤ep)(h2:ep≤1048576)(h3:0≤nu)(h4:nu≤1048576)(h5:0≤ak)(h6:ak≤1048576)(_q:(nu !=0)=true):Calls Tryz.prog 36 #[packetV ep nu true ak k h e A n c s] w (R_ w (.int .i64 4)):=by
 exact m65_
theorem oc_(ep ak k h e:Int)(A:OA_)(n c:Nat)(s:ByteArray)(h1:0≤ep)(h2:ep≤1048576)(h5:0≤ak)(h6:ak≤1048576)(_q:(k !=0)=true):Calls Tryz.prog 36 #[packetV ep 0 true ak k h e A n c s] w (R_ w (.int .i64 4)):=by
 exact m65_
theorem od_(ep ak h e:Int)(A:OA_)(n c:Nat)(s:ByteArray)(h1:0≤ep)(h2:ep≤1048576)(h5:0≤ak)(h6:ak≤1048576)(_q:(h !=0)=true):Calls Tryz.prog 36 #[packetV ep 0 true ak 0 h e A n c s] w (R_ w (.int .i64 4)):=by
 exact m65_
theorem oe_(ep ak e:Int)(A:OA_)(n c:Nat)(s:ByteArray)(h1:0≤ep)(h2:ep≤1048576)(h5:0≤ak)(h6:ak≤1048576)(_q:(e !=0)=true):Calls Tryz.prog 36 #[packetV ep 0 true ak 0 0 e A n c s] w (R_ w (.int .i64 4)):=by
 exact m65_
section
variable(ep ak:Int) (A:OA_)
include ep ak A
theorem of_(n c:Nat)(s:ByteArray)(h1:0≤ep)(h2:ep≤1048576)(h5:0≤ak)(h6:ak≤1048576):Calls Tryz.prog 36 #[packetV ep 0 true ak 0 0 0 A (n+1) c s] w (R_ w (.int .i64 4)):=by
 exact m65_
section
variable(c:Nat) (s:ByteArray) (h1:0≤ep) (h2:ep≤1048576) (h5:0≤ak) (h6:ak≤1048576)
include c s h1 h2 h5 h6
theorem og_(_q:s.toList.isEmpty=false):Calls Tryz.prog 36 #[packetV ep 0 true ak 0 0 0 A 0 c s] w (R_ w (.int .i64 4)):=by
 exact m65_
theorem oh_(_q:s.toList.isEmpty=true):Calls Tryz.prog 36 #[packetV ep 0 true ak 0 0 0 A 0 c s] w (R_ w (.int .i64 0)):=by
 exact m65_
end
end
theorem qj_(ep:Int)(ak k h e:Int)(A:OA_)(n c:Nat)(s:ByteArray)(h1:0≤ep)(h2:ep≤1048576)(h5:0≤ak)(h6:ak≤1048576):Calls Tryz.prog 36 #[packetV ep 0 false ak k h e A n c s] w (R_ w (.int .i64 4)):=by
 exact m65_
theorem qk_(nu:Int)(ak k h e:Int)(A:OA_)(n c:Nat)(s:ByteArray)(h3:1≤nu)(h4:nu≤1048576)(h5:0≤ak)(h6:ak≤1048576):Calls Tryz.prog 36 #[packetV 0 nu false ak k h e A n c s] w (R_ w (.int .i64 4)):=by
 have z2:(nu==0)=false:=by simp;omega
 exact m65_
theorem ql_(ep nu ak k h e:Int)(A:OA_)(c:Nat)(ps:LP_)(s:ByteArray)(h1:1≤ep)(h2:ep≤1048576)(h3:1≤nu)(h4:nu≤1048576)(h5:0≤ak)(h6:ak≤1048576)(hT:Tabs w)(hs:OpIn (· <w.heap.size) w A ps)(hm:ps.length≤1048576)(ht: ∀p∈ps,p.text.size≤1048576)(hst:s.size≤1048576):Calls Tryz.prog 36 #[packetV ep nu false ak k h e A ps.length c s] w (R_ w (.int .i64 (frameFault ⟨k,h,e,ps,s⟩))):=by
 have z2:(nu==0)=false:=by simp;omega
 have z4:(ep==0)=false:=by simp;omega
 have HT:=h_ hT;have HTX:=h_ ht;have HC:=h_ (fun W=>en_ W k h e A c ps s);clear hT ht;generalize frameFault ⟨k,h,e,ps,s⟩=x at*;go_enter Tryz.func36,Tryz.ntmps36
 have k132_:K_ (∀(P:Prop) (h:P:=by
 go_wp2_with fail
 refine(HC.o _ (HT.o.la bz_) (Sl.la hs bz_) hm HTX.o hst).mono ?_;rintro r w2 ⟨rfl,hb2⟩;obtain⟨⟨d2,os2⟩,rfl⟩:=e_ hb2;exact m102_
 ),P):=⟨@q6_⟩
 exact m132_
theorem bu_(ep nu:Int)(b:Bool)(ak k h e:Int)(A:OA_)(c:Nat)(ps:LP_)(s:ByteArray)(hT:Tabs w)(hs:OpIn (· <w.heap.size) w A ps)(hm:ps.length≤1048576)(ht: ∀p∈ps,p.text.size≤1048576)(hst:s.size≤1048576):
 Calls Tryz.prog 36 #[packetV ep nu b ak k h e A ps.length c s] w (R_ w (.int .i64 (packetFault ⟨ep,nu,b,ak,⟨k,h,e,ps,s⟩⟩))):=by
 by_cases g1:ep<0∨1048576<ep
 ·rw [show packetFault ⟨ep,nu,b,ak,⟨k,h,e,ps,s⟩⟩=2 from if_pos (.inl g1)];exact qm_ w ep nu b ak k h e A ps.length c s (h_ g1)
 by_cases g2:nu<0∨1048576<nu
 ·rw [show packetFault ⟨ep,nu,b,ak,⟨k,h,e,ps,s⟩⟩=2 from if_pos (.inr (.inl g2))];exact qn_ w ep nu b ak k h e A ps.length c s (by omega) (by omega) (h_ g2)
 by_cases g3:ak<0∨1048576<ak
 ·rw [show packetFault ⟨ep,nu,b,ak,⟨k,h,e,ps,s⟩⟩=2 from if_pos (.inr (.inr g3))];exact qo_ w ep nu b ak k h e A ps.length c s (by omega) (by omega) (by omega) (by omega) (h_ g3)
 have g: ¬((ep<0∨1048576<ep)∨(nu<0∨1048576<nu)∨(ak<0∨1048576<ak)):=by omega
 cases b with
 | true=>
  rw [show packetFault ⟨ep,nu,true,ak,⟨k,h,e,ps,s⟩⟩=if nu=0∧emptyF ⟨k,h,e,ps,s⟩then 0 else 4 from(if_neg g).trans (if_pos rfl)];by_cases z:nu=0
  · subst z
    by_cases z0:k=0
    · subst z0
      by_cases z1:h=0
      · subst z1
        by_cases z2:e=0
        · subst z2
          rcases ps with _ | ⟨p,r⟩
          · by_cases z4:s.toList= []
            · rw [if_pos ⟨rfl,rfl,rfl,rfl,rfl,z4⟩]
              exact oh_ w ep ak A c s (by omega) (by omega) (by omega) (by omega) (by simpa using z4)
            · rw [if_neg (fun q=>z4 q.2.2.2.2.2)]
              exact og_ w ep ak A c s (by omega) (by omega) (by omega) (by omega) (by simpa using z4)
          · rw [if_neg (fun q=>by cases q.2.2.2.2.1)]
            exact of_ w ep ak A r.length c s (by omega) (by omega) (by omega) (by omega)
        · rw [if_neg (fun q=>z2 q.2.2.2.1)]
          exact oe_ w ep ak e A ps.length c s (by omega) (by omega) (by omega) (by omega) (by simpa using z2)
      · rw [if_neg (fun q=>z1 q.2.2.1)]
        exact od_ w ep ak h e A ps.length c s (by omega) (by omega) (by omega) (by omega) (by simpa using z1)
    · rw [if_neg (fun q=>z0 q.2.1)]
      exact oc_ w ep ak k h e A ps.length c s (by omega) (by omega) (by omega) (by omega) (by simpa using z0)
  · rw [if_neg (fun q=>z q.1)]
    exact qi_ w ep nu ak k h e A ps.length c s (by omega) (by omega) (by omega) (by omega) (by omega) (by omega) (by simpa using z)
 | false=>
  rw [show packetFault ⟨ep,nu,false,ak,⟨k,h,e,ps,s⟩⟩=if nu=0∨ep=0 then 4 else frameFault ⟨k,h,e,ps,s⟩from(if_neg g).trans (if_neg (show¬false=true by decide))];by_cases z:nu=0
  · subst z
    rw [if_pos (.inl rfl)];exact qj_ w ep ak k h e A ps.length c s (by omega) (by omega) (by omega) (by omega)
  · by_cases y:ep=0
    · subst y
      rw [if_pos (.inr rfl)];exact qk_ w nu ak k h e A ps.length c s (by omega) (by omega) (by omega) (by omega)
    · rw [if_neg (by omega)]
      exact ql_ w ep nu ak k h e A c ps s (by omega) (by omega) (by omega) (by omega) (by omega) (by omega) hT hs hm ht hst
theorem own_c(s h:Int)(A:OA_)(c:Nat)(L:List OpV)(hs:OpsIn w A L)(hl:L.length≤1048576)(hm: ∀o∈L,o.Small):
 Calls Tryz.prog 127 #[edgeV s h A L.length c] w (RetEdge w s h L):=by
 have vAB:=h_ trivial;exact m16_
end
theorem OpsOwn.set2{w:World}{base O:Nat}{A A':Option Addr}{c n c':Nat}{L:List OpV}{s h:Int}{v:Value}(k:OpsOwn w base A c L)(hO:EdgeAt w O s h A' n c'):OpsOwn (w.setCell ⟨O,2,none⟩ v) base A c L:=by
 refine⟨k.row.kept (row:=some O) ⟨rfl,rfl,rfl,by simp [World.setCell],fun x _ hx=>bH_ (fun e=>hx (by simp [e]))⟩ (.inr (s_ k.row hO (by decide))),fun o ho=>⟨(k.each o ho).1,fun h0=>?_⟩⟩;obtain⟨b,p,e,hb,hc⟩:=(k.each o ho).2 h0;have hne:b≠O:=fun e1=>by
  subst e1;have h2:=hc 2 _ (by rw [show 2=0*3+2 from rfl,ey_ o.ps 0 2 h0 (by omega)];rfl);simp only [World.cell?,hO]at h2;have hp:p=0:=by
   rcases Nat.eq_zero_or_pos p with h | h
   ·exact h
   ·rw [Array.getElem?_eq_none (by simp;omega)]at h2;cases h2
  subst hp;cases h2
 exact⟨b,p,e,⟨⟨hb.1.1,by simpa [World.setCell]using hb.1.2⟩,hb.2⟩,fun j u hu=>(World.cell?_of_block (w:=w) (a:=⟨b,p+j,none⟩) (bH_ hne)).trans (hc j u hu)⟩
theorem jo_{w G:World}{base R n c':Nat}{s h:Int}{A':Option Addr}{L4:List OpV}(hRB:w.heap.size<R)(hb:R<base)(hR:EdgeAt G R 0 0 none 0 0)(hO:OpsOwn G base A' c' L4)(hF:Below w.heap.size w G):
 EdgeAt (((G.setCell ⟨R,0,none⟩ (.int .i64 s)).setCell ⟨R,1,none⟩ (.int .i64 h)).setCell ⟨R,2,none⟩ (.slice A' n c')) R s h A' n c'∧
 OpsOwn (((G.setCell ⟨R,0,none⟩ (.int .i64 s)).setCell ⟨R,1,none⟩ (.int .i64 h)).setCell ⟨R,2,none⟩ (.slice A' n c')) base A' c' L4∧
 Below w.heap.size w (((G.setCell ⟨R,0,none⟩ (.int .i64 s)).setCell ⟨R,1,none⟩ (.int .i64 h)).setCell ⟨R,2,none⟩ (.slice A' n c')):=
 ⟨x_ (bc_ (bd_ hR)),hO.kept (by simp [World.setCell]) (fun g hg _=>(bH_ (by show g≠R;omega)).trans ((bH_ (by show g≠R;omega)).trans (bH_ (by show g≠R;omega)))),
  bSet (bSet (bSet hF (p:=⟨R,0,none⟩) (Nat.le_of_lt hRB) _) (p:=⟨R,1,none⟩) (Nat.le_of_lt hRB) _) (p:=⟨R,2,none⟩) (Nat.le_of_lt hRB) _⟩
structure SendAt (w W:World) (R:Nat) (s h:Int) (A:OA_) (n c:Nat):Prop where
 e:EdgeAt W w.heap.size s h A n c
 r:EdgeAt W R 0 0 none 0 0
 b:Below w.heap.size w W
theorem SendAt.la{w W W':World}{R:Nat}{s h:Int}{A:Option Addr}{n c:Nat}(k:SendAt w W R s h A n c)(hb:Below W.heap.size W W'):SendAt w W' R s h A n c:=
 ⟨(hb.block _ (b_ k.e).2.2.2.2.2.2).trans k.e,(hb.block _ (b_ k.r).2.2.2.2.2.2).trans k.r,bThen k.b hb⟩
theorem ej_{w:World}{A:Option Addr}{L:List OpV}{o:OpV}(h:OpsIn w A L)(hl:L.getLast?=some o):
 ∃b k,A=some ⟨b,k,none⟩∧b<w.heap.size∧w.cell? ⟨b,k+(L.length - 1),none⟩=some o.val∧OpIn (· <w.heap.size) w o.A o.ps:=by
 have hp:L.length≠0:=fun e=>by
  rw [List.eq_nil_of_length_eq_zero e]at hl;cases hl
 obtain⟨b,k,e,hb,hc,ho⟩:=h.at_ (k:=L.length - 1) (by omega);rw [List.getLast?_eq_getElem?,List.getElem?_eq_getElem (by omega)]at hl;obtain rfl:=Option.some.inj hl;exact⟨b,k,e,hb,hc,ho⟩
theorem cn_{L:List OpV}{o:OpV}(hl:L.getLast?=some o):0<L.length:=by
 cases L with
 | nil=>cases hl
 | cons=>simp
def badLast (L:List OpV) (ps:LP_):Bool:=
 match L.getLast? with
 | none=>false
 | some o=>decide ((lens ps).1≠(lens o.ps).2)
def sendErr (s h:Int) (L:List OpV) (ps:LP_):Int:=
 if¬edgeMay s h L then 9 else if opFault ps≠0 then opFault ps else if badLast L ps=true then 10 else if s=1048576 then 8 else 0
def RetSent (w:World) (s h:Int) (L:List OpV) (ps:LP_) (er:Int) (e:Ending) (w':World):Prop:=
 (er≠0→e= .returned (.tuple #[edgeV 0 0 none 0 0,.int .i64 er])∧Below w.heap.size w w')∧
 (er=0→ ∃A' c' L',e= .returned (.tuple #[edgeV (s+1) h A' L'.length c',.int .i64 0])∧L'.map OpV.ps=L.map OpV.ps++ [ps]∧OpsOwn w' w.heap.size A' c' L'∧Below w.heap.size w w')
abbrev SideV.val (x:SideV):Value:= .agg #[.int .i64 x.p,.bool x.j,.int .i64 x.s,.int .i64 x.h,.slice x.A x.L.length x.c,.int .i64 x.k.e,.int .i64 x.k.n,.slice x.k.sA x.k.s.length x.k.sc,.slice x.k.qA x.k.q.length x.k.qc,.int .i64 x.k.h]
abbrev NodeAt (W:World) (B:Nat) (n:NodeV):Prop:=W.heap[B]?=some (.cells #[.int .i64 n.me,.int .i64 n.ep,.int .i64 n.up,.bool n.rd,.string n.t,.slice n.sA n.S.length n.sc,.slice n.uA n.U.length n.uc,.slice n.mA n.M.length n.mc] 28 (0,0))
abbrev SideAt (W:World) (B:Nat) (x:SideV):Prop:=W.heap[B]?=some (.cells #[.int .i64 x.p,.bool x.j,.int .i64 x.s,.int .i64 x.h,.slice x.A x.L.length x.c,.int .i64 x.k.e,.int .i64 x.k.n,.slice x.k.sA x.k.s.length x.k.sc,.slice x.k.qA x.k.q.length x.k.qc,.int .i64 x.k.h] 60 (0,0))
structure TwoAt (w:World) (n:NodeV) (x:SideV) (W:World):Prop where
 nd:NodeAt W w.heap.size n
 sd:SideAt W (w.heap.size+1) x
 b:Below w.heap.size w W
theorem TwoAt.new(w:World)(n:NodeV)(x:SideV):TwoAt w n x ((w.alloc (.cells #[.int .i64 n.me,.int .i64 n.ep,.int .i64 n.up,.bool n.rd,.string n.t,.slice n.sA n.S.length n.sc,.slice n.uA n.U.length n.uc,.slice n.mA n.M.length n.mc] 28)).alloc (.cells #[.int .i64 x.p,.bool x.j,.int .i64 x.s,.int .i64 x.h,.slice x.A x.L.length x.c,.int .i64 x.k.e,.int .i64 x.k.n,.slice x.k.sA x.k.s.length x.k.sc,.slice x.k.qA x.k.q.length x.k.qc,.int .i64 x.k.h] 60)):=
 ⟨(q_ _ _ _ (by simp)).trans (by show(w.heap.push _)[w.heap.size]?=_;simp),by have:=World.alloc_heap_new (w.alloc (.cells #[.int .i64 n.me,.int .i64 n.ep,.int .i64 n.up,.bool n.rd,.string n.t,.slice n.sA n.S.length n.sc,.slice n.uA n.U.length n.uc,.slice n.mA n.M.length n.mc] 28)) (.cells #[.int .i64 x.p,.bool x.j,.int .i64 x.s,.int .i64 x.h,.slice x.A x.L.length x.c,.int .i64 x.k.e,.int .i64 x.k.n,.slice x.k.sA x.k.s.length x.k.sc,.slice x.k.qA x.k.q.length x.k.qc,.int .i64 x.k.h] 60);rwa [World.size_alloc]at this,bAlloc bA_ _⟩
theorem TwoAt.la{w W W':World}{n:NodeV}{x:SideV}(k:TwoAt w n x W)(hb:Below W.heap.size W W'):TwoAt w n x W':=
 ⟨(hb.block _ (Array.getElem?_eq_some_iff.1 k.nd).1).trans k.nd,(hb.block _ (Array.getElem?_eq_some_iff.1 k.sd).1).trans k.sd,bThen k.b hb⟩
theorem p_{W:World}{B:Nat}{n:NodeV}(h:NodeAt W B n):W.cell? ⟨B,0,none⟩=some (.int .i64 n.me)∧W.cell? ⟨B,1,none⟩=some (.int .i64 n.ep)∧W.cell? ⟨B,2,none⟩=some (.int .i64 n.up)∧W.cell? ⟨B,3,none⟩=some (.bool n.rd)∧W.cell? ⟨B,4,none⟩=some (.string n.t)∧
 W.cell? ⟨B,5,none⟩=some (.slice n.sA n.S.length n.sc)∧W.cell? ⟨B,6,none⟩=some (.slice n.uA n.U.length n.uc)∧W.cell? ⟨B,7,none⟩=some (.slice n.mA n.M.length n.mc)∧B<W.heap.size:=by
 have hz:=(Array.getElem?_eq_some_iff.1 h).1;refine⟨?_,?_,?_,?_,?_,?_,?_,?_,hz⟩ <;> (unfold World.cell?;rw [h];rfl)
theorem bj_{W:World}{B:Nat}{x:SideV}(h:SideAt W B x):W.cell? ⟨B,0,none⟩=some (.int .i64 x.p)∧W.cell? ⟨B,1,none⟩=some (.bool x.j)∧W.cell? ⟨B,2,none⟩=some (.int .i64 x.s)∧W.cell? ⟨B,3,none⟩=some (.int .i64 x.h)∧W.cell? ⟨B,4,none⟩=some (.slice x.A x.L.length x.c)∧
 W.cell? ⟨B,5,none⟩=some (.int .i64 x.k.e)∧W.cell? ⟨B,6,none⟩=some (.int .i64 x.k.n)∧W.cell? ⟨B,7,none⟩=some (.slice x.k.sA x.k.s.length x.k.sc)∧W.cell? ⟨B,8,none⟩=some (.slice x.k.qA x.k.q.length x.k.qc)∧W.cell? ⟨B,9,none⟩=some (.int .i64 x.k.h)∧B<W.heap.size:=by
 have hz:=(Array.getElem?_eq_some_iff.1 h).1;refine⟨?_,?_,?_,?_,?_,?_,?_,?_,?_,?_,hz⟩ <;> (unfold World.cell?;rw [h];rfl)
theorem kg_{r:Int} :lastFits r []:=fun o h=>by cases h
theorem jt_{r:Int}{L:List OpV}{o:OpV}(h:L.getLast?=some o):lastFits r L↔(lens o.ps).2=r:=
 ⟨fun k=>k o h,fun k q hq=>by rw [h]at hq;obtain rfl:=Option.some.inj hq;exact k⟩
end Go.Proofs.YtacacoklddogmaaGreatDoor
namespace Go.Proofs.YtacacoklddogmaaGreatDoor
set_option maxHeartbeats 4000000
open Go.RowKit Go.Shelf
attribute [local go_sem] Oper.semAt_some
set_option maxRecDepth 100000
def upto {α:Type} (f:Nat→α) (k:Nat):List α:=(List.range k).map f
theorem ss_{α:Type}(f:Nat→α)(k:Nat):upto f (k+1)=upto f k++ [f k]:=by simp [upto,List.range_succ]
theorem xy_{α:Type}(f:Nat→α)(k:Nat):(upto f k).length=k:=by simp [upto]
def KpB (Bs n₀:Nat) (A B:World):Prop:=Below n₀ A B∧B.heap[Bs]?=A.heap[Bs]?
theorem KpB.refl(Bs n₀:Nat)(A:World):KpB Bs n₀ A A:=⟨Below.refl _ _,rfl⟩
theorem KpB.trans{Bs n₀:Nat}{A B C:World}(h:KpB Bs n₀ A B)(k:KpB Bs n₀ B C):KpB Bs n₀ A C:=⟨h.1.trans k.1,k.2.trans h.2⟩
theorem KpB.put{Bs n₀:Nat}{w:World}(hn:n₀≤w.heap.size)(hB:Bs<w.heap.size)(W:World)(l:Nat)(o o':Obj)(hl:w.heap.size≤l)(h:W.heap[l]?=some o)(h1:o.isCells=false)(h2:o.isWalk=false):KpB Bs n₀ W (W.putObj l o'):=
 ⟨belowK_b hn W l o o' hl h h1 h2,World.putObj_heap_other (by omega)⟩
theorem bdz_{α:Type}(enc:α→Value)(key:α→Nat)(f:Nat→α)(F:Fence)(n:Nat)(hF:F.fn 135)(hro:F.round=none)(hn:1≤n)(l Bs n₀ b off len cap:Nat)(hreach:len≤1048576)(hb:b<n₀)(J Jx:List α→World→Prop)
 (hY : ∀ pre x W, J pre W → pre.length < len → YieldAt F (n - 1) Tryz.prog l #[.int .i64 (key x : Int), enc x] W fun e W' =>
   (e= .returned (.bool true)∧J (pre++ [x]) W'∧KpB Bs n₀ W W')∨(e= .returned (.bool false)∧Jx (pre++ [x]) W'))
 (hkey: ∀j,j<len→key (f j)=len - 1 - j)
 (W:World) (hBs:W.cell? ⟨Bs,0,none⟩=some (.slice (some ⟨b,off,none⟩) len cap)) (hc: ∀j,j<len→W.cell? ⟨b,off+(len - 1 - j),none⟩=some (enc (f j))) (h0:J [] W):
 CallsIn F n Tryz.prog 135 #[.func (.yield l) #[] #[],.pointer (some ⟨Bs,0,none⟩)] W fun e W'=>(∃v,e= .returned v)∧
  ((∃ys,ys=upto f len∧J ys W')∨(∃pre,(∃k,k≤len∧pre=upto f k)∧Jx pre W')):=by
 have k232_:K_ (∀(P:Prop) (h:P:=by
 gi_loopw [3] (fun i wr=> ∃k:Nat,k≤len∧i= .int .i64 ((len:Int) - 1 - k)∧J (upto f k) wr∧KpB Bs n₀ W wr)
  (fun i _=>(intOf i+1).toNat)
 case atStart=>exact⟨0,Nat.zero_le _,by simp,h0,KpB.refl _ _ _⟩
 case round=>
  obtain⟨k,hk,rfl,hJs,hnx⟩:=hrel;have hBx:=(World.cell?_of_block (w:=W) (a:=⟨Bs,0,none⟩) hnx.2).trans hBs;by_cases hlt:k<len
  ·obtain⟨m,hm⟩: ∃m:Nat,(len:Int) - 1 - k=m:=⟨len - 1 - k,by omega⟩
   have hcx:=(hnx.1.cell (p:=⟨b,off+(len - 1 - k),none⟩) hb).trans (hc k hlt);have hkx:=hkey k hlt;obtain⟨fn,tmps,assign,body,hy,hR⟩:=hY _ (f k) wr hJs (by rw [xy_];exact hlt);rw [hkx,show len - 1 - k=m by omega]at hy;rw [show len - 1 - k=m by omega]at hcx;rw [hm];have hml:m<len:=(by omega);gi_wp2
   refine hR.mono ?_;rintro e W3 (⟨rfl,hJ3,hk3⟩ | ⟨rfl,hJx3⟩)
   ·gi_wp2
    go_roundw
    case rel=>exact⟨k+1,by omega,by go_num,by rw [ss_];exact hJ3,hnx.trans hk3⟩
    case measure=>simp [intOf]
   ·gi_wp2
    refine bodyPost_ret (results_none rfl _ _ _) rfl ?_;exact⟨⟨_,rfl⟩,.inr ⟨_,⟨k+1,by omega,(ss_ _ _).symm⟩,hJx3⟩⟩
  ·obtain rfl:k=len:=(by omega);rw [show((k:Int) - 1 - k)= -1 by omega];gi_wp2
   go_end0
   exact⟨⟨_,rfl⟩,.inl ⟨_,rfl,hJs⟩⟩
 ),P):=⟨@q6_⟩
 exact m232_
theorem bbc_{α:Type}(F:Fence)(n:Nat)(hF:F.fn 135)(hro:F.round=none)(l Bs cap:Nat)(A:OA_)(J:List α→World→Prop)(W:World)(hBs:W.cell? ⟨Bs,0,none⟩=some (.slice A 0 cap))(h0:J [] W):
 CallsIn F n Tryz.prog 135 #[.func (.yield l) #[] #[],.pointer (some ⟨Bs,0,none⟩)] W fun e W'=>(∃v,e= .returned v)∧J [] W':=by
 have k232_:K_ (∀(P:Prop) (h:P:=by
 gi_loopw [3] (fun i wr=>i= .int .i64 (-1)∧J [] wr) (fun _ _=>0)
 case atStart=>exact⟨by simp,h0⟩
 case round=>
  obtain⟨rfl,hJs⟩:=hrel;gi_wp2
  go_end0
  exact⟨⟨_,rfl⟩,hJs⟩
 ),P):=⟨@q6_⟩
 exact m232_
theorem bga_(F:Fence)(n:Nat)(h:F.fn 121)(hro:F.round=none)(a:OA_)(len cap:Nat)(w:World):
 CallsIn F n Tryz.prog 121 #[.slice a len cap] w fun e w'=>e= .returned (.func (.func 135) #[] #[.pointer (some ⟨w.heap.size,0,none⟩)])∧w'=w.alloc (.cells #[.slice a len cap] 25):=by
 refine callsIn_of_wp Tryz.func121 rfl h ?_ hro;simp only [Tryz.ntmps121,List.size_toArray,List.length_cons,List.length_nil,Nat.reduceAdd,Nat.reduceSub,Array.replicate_succ,Array.replicate_zero,List.push_toArray,List.append_toArray,List.nil_append,List.cons_append];gi_wp2
 go_ret
 exact⟨rfl,rfl⟩
abbrev BackI (L:List OpV):Type:=Nat × { o:OpV // o∈L }
abbrev backOps {L:List OpV} (ys:List (BackI L)):List OpV:=ys.map fun x=>x.2.1
def backF (L:List OpV) (h:0<L.length) (j:Nat):BackI L:=(L.length - 1 - j,⟨L[L.length - 1 - j]'(by omega),List.getElem_mem _⟩)
theorem rf_(L:List OpV)(h:0<L.length)(k:Nat)(hk:k≤L.length):backOps (upto (backF L h) k)=L.reverse.take k:=by
 apply List.ext_getElem
 ·simp [upto];omega
 ·intro i h1 h2;simp [upto,backF]
theorem baa_(F:Fence)(n:Nat)(hF:F.fn 135)(hro:F.round=none)(hn:1≤n)(Bs n₀:Nat)(A:OA_)(cap:Nat)(L:List OpV)(hl:L.length≤1048576)(w:World)(hBs:Bs<w.heap.size)(hn₀:n₀≤w.heap.size)
 (hc:w.cell? ⟨Bs,0,none⟩=some (.slice A L.length cap)) (hI:Sl (· <n₀) w 1 A L.length (L.map OpV.val)):
 SeqStopsK F n Tryz.prog 135 #[.pointer (some ⟨Bs,0,none⟩)] (fun x:BackI L=> #[Value.int .i64 (x.1:Int),x.2.1.val]) (KpB Bs n₀) (fun ys=>backOps ys=L.reverse)
  (fun pre=>backOps pre<+:L.reverse) L.length w:=fun l J Jx W hW _ _ hY h0=>by
 have hc':=(hW.cell (p:=⟨Bs,0,none⟩) hBs).trans hc;by_cases hL:0<L.length
 · obtain⟨b,off,rfl,hb,hcs⟩:=(hI.below (hW.mono hn₀) (Nat.le_refl _)).open_ hL
   refine(bdz_ (fun x:BackI L=>x.2.1.val) (fun x=>x.1) (backF L hL) F n hF hro hn l Bs n₀ b off L.length cap hl hb J Jx hY (fun j _=>rfl) W hc' (fun j hj=>?_) h0).mono ?_
   · exact hcs _ _ (by rw [List.getElem?_map,List.getElem?_eq_getElem (by omega)];rfl)
   · rintro e W' ⟨he,⟨ys,rfl,hj⟩ | ⟨pre,⟨k,hk,rfl⟩,hj⟩⟩
     · exact⟨he,.inl ⟨_,by show backOps _=_;rw [rf_ L hL _ (Nat.le_refl _),←List.length_reverse,List.take_length],hj⟩⟩
     · exact⟨he,.inr ⟨_,by show backOps _<+:_;rw [rf_ L hL _ hk];exact List.take_prefix _ _,hj⟩⟩
 · obtain rfl:L= []:=List.eq_nil_of_length_eq_zero (by omega)
   exact(bbc_ F n hF hro l Bs cap A J W hc' h0).mono fun e W' ⟨he,hj⟩=>⟨he,.inl ⟨[],rfl,hj⟩⟩
end Go.Proofs.YtacacoklddogmaaGreatDoor
namespace Go.Proofs.YtacacoklddogmaaGreatDoor
set_option maxHeartbeats 4000000
open Go.ChangeShapes Go.WideShapes Go.ChangeAt Go.RowKit Go.Shelf
attribute [local go_sem] Oper.semAt_some
set_option maxRecDepth 100000
def atOf (r:Int):List (List PartD)→Int
 | []=>r
 | o :: os=>atOf (lens o).2 os
section
variable(r:Int) (a:List (List PartD)) (x:LP_)
include r a x
theorem hx_:atOf r (a++ [x])=(lens x).2:=by
 induction a generalizing r with
 | nil=>rfl
 | cons o os ih=>exact ih _
theorem gq_:undoOk r (a++ [x])↔undoOk r a∧opFault x=0∧(lens x).1=atOf r a:=by
 induction a generalizing r with
 | nil=>exact⟨fun h=>⟨trivial,h.1⟩,fun h=>⟨h.2,trivial⟩⟩
 | cons o os ih=>
  show((opFault o=0∧(lens o).1=r)∧undoOk (lens o).2 (os++ [x]))↔((opFault o=0∧(lens o).1=r)∧undoOk (lens o).2 os)∧opFault x=0∧(lens x).1=atOf (lens o).2 os;rw [ih,and_assoc,and_assoc,and_assoc]
end
theorem ed_{r:Int}{a b:List (List PartD)}(h:undoOk r (a++b)):undoOk r a:=by
 induction a generalizing r with
 | nil=>trivial
 | cons o os ih=>exact⟨h.1,ih h.2⟩
theorem fz_{W W':World}(h:Below W.heap.size W W'):KeepsOthers W W':=⟨h.size,fun k _ hk _=>(h.block k (Array.getElem?_eq_some_iff.1 hk).1).trans hk⟩
def backPs {L:List OpV} (pre:List (BackI L)):List (List PartD):=(backOps pre).map OpV.ps
theorem xf_{L:List OpV}(pre:List (BackI L))(x:BackI L):backPs (pre++ [x])=backPs pre++ [x.2.1.ps]:=by simp [backPs]
theorem ta_{W:World}{B:Nat}{v:Value}{t:TypeId}(h:W.heap[B]?=some (.cells #[v] t (0,0))):W.cell? ⟨B,0,none⟩=some v∧W.frozen? ⟨B,0,none⟩=false:=by
 constructor <;> simp [World.cell?,World.frozen?,h]
theorem ol_(W:World)(v:Value)(t:TypeId):(W.alloc (.cells #[v] t)).cell? ⟨W.heap.size,0,none⟩=some v∧(W.alloc (.cells #[v] t)).frozen? ⟨W.heap.size,0,none⟩=false:=
 ta_ (World.alloc_heap_new W _)
section
variable {W:World}{a:Addr}{v:Value}(o:Obj)(h:W.cell? a=some v)
include W a v o h
theorem uz_:(W.alloc o).cell? a=some v:=cell_kept h (World.grownBy_alloc W o none) (fun r e=>by cases e)
theorem qu_(hf:W.frozen? a=false):(W.alloc o).frozen? a=false:=(frozen_kept h (World.grownBy_alloc W o none) (fun r e=>by cases e)).trans hf
end
structure UndoI (n0 AT:Nat) (uA:OA_) (uc:Nat) (U:List OpV) (r:Int) (pre:List (BackI U)) (W:World):Prop where
 ok:undoOk r (backPs pre)
 at_:W.cell? ⟨AT,0,none⟩=some (.int .i64 (atOf r (backPs pre)))
 atf:W.frozen? ⟨AT,0,none⟩=false
 rb:W.cell? ⟨n0+1,0,none⟩=some (.bool false)
 rbf:W.frozen? ⟨n0+1,0,none⟩=false
 nd:W.cell? ⟨n0,6,none⟩=some (.slice uA U.length uc)
theorem UndoI.own(n0 AT:Nat)(uA:OA_)(uc:Nat)(U:List OpV)(r:Int):Own (UndoI n0 AT uA uc U r):=fun _ _ _ _ hs hg hr=>
 ⟨hs.ok,cell_kept hs.at_ hg hr,(frozen_kept hs.at_ hg hr).trans hs.atf,cell_kept hs.rb hg hr,(frozen_kept hs.rb hg hr).trans hs.rbf,cell_kept hs.nd hg hr⟩
theorem bia_(w:World)(n:NodeV)(hT:Tabs w)(hi:OpsIn w n.uA n.U)(hl:n.U.length≤1048576)(hm: ∀o∈n.U,o.Small)(ht:n.t.size≤1048576):
 Calls Tryz.prog 86 #[n.val] w fun e w'=>(∃b:Bool,e= .returned (.bool b)∧(b=true↔undoOk (runesI n.t) (n.U.map OpV.ps).reverse∧n.U.length≤12))∧Below w.heap.size w w':=by
 obtain⟨me,ep,up,rd,t,sA,sc,S,uA,uc,U,mA,mc,M⟩:=n;dsimp only at*;have HT:=h_ hT;have HI:=h_ hi;have HM:=h_ hm;clear hT hi hm;refine(callsIn_wide (n:=9)).1 ?_;refine callsIn_of_wp_marks Tryz.func86 rfl trivial ?_ rfl;simp only [Tryz.ntmps86,List.size_toArray,List.length_cons,List.length_nil,Nat.reduceAdd,Nat.reduceSub,Array.replicate_succ,Array.replicate_zero,List.push_toArray,List.append_toArray,List.nil_append,List.cons_append];gi_wp2
 all_goals(
  obtain⟨WA,hWA⟩:=q2_ ((w.alloc (.cells #[.int .i64 me,.int .i64 ep,.int .i64 up,.bool rd,.string t,.slice sA S.length sc,.slice uA U.length uc,.slice mA M.length mc] 28)).alloc (.cells #[.bool false] 4));rw [←hWA];have hN:WA.heap[w.heap.size]?=some (.cells #[.int .i64 me,.int .i64 ep,.int .i64 up,.bool rd,.string t,.slice sA S.length sc,.slice uA U.length uc,.slice mA M.length mc] 28 (0,0)):=by rw [hWA];exact(q_ _ _ _ (by simp)).trans (by show(w.heap.push _)[w.heap.size]?=_;simp)
  have hR:WA.heap[w.heap.size+1]?=some (.cells #[.bool false] 4 (0,0)):=by rw [hWA];have:=World.alloc_heap_new (w.alloc (.cells #[.int .i64 me,.int .i64 ep,.int .i64 up,.bool rd,.string t,.slice sA S.length sc,.slice uA U.length uc,.slice mA M.length mc] 28)) (.cells #[.bool false] 4);rwa [World.size_alloc]at this
  have hBA:Below w.heap.size w WA:=by rw [hWA];exact bAlloc bA_ _
  have hzA:WA.heap.size=w.heap.size+2:=by rw [hWA];simp
  clear hWA;refine⟨trivial,callsIn_wide.2 ((dx_ t _ ht).mono ?_)⟩;rintro e w1 ⟨rfl,hb1⟩;have HN1:=h_ ((hb1.block _ (by omega)).trans hN);have HR1:=h_ ((hb1.block _ (by omega)).trans hR);have HB1:=h_ (bThen hBA hb1);have hz1:=hb1.size;have n6:w1.cell? ⟨w.heap.size,6,none⟩=some (.slice uA U.length uc):=by unfold World.cell?;rw [HN1.o];rfl
  have hlt:w.heap.size<w1.heap.size:=by omega
  clear hN hR hBA hb1;gi_wp2
  refine⟨trivial,(bga_ Fence.wide 8 trivial rfl _ _ _ _).mono ?_⟩;rintro e w2 ⟨rfl,rfl⟩;gi_wp2
  obtain⟨AT,hAT⟩:=q2_ (w1.heap.size);obtain⟨WL,hWL⟩:=q2_ ((w1.alloc (.cells #[.int .i64 (Lib.runeCount t:Int)] 3)).alloc (.cells #[.slice uA U.length uc] 25));have hzL:WL.heap.size=AT+2:=by rw [hWL,hAT];simp
  have hkL:Below w1.heap.size w1 WL:=by rw [hWL];exact bAlloc bA_ _
  have hBL:=bThen HB1.o hkL;have hs:=ol_ w1 (.int .i64 (Lib.runeCount t:Int)) 3;have hb:=ol_ (w1.alloc (.cells #[.int .i64 (Lib.runeCount t:Int)] 3)) (.slice uA U.length uc) 25;rw [World.size_alloc,←hWL,←hAT]at hb;have hA1:WL.cell? ⟨AT,0,none⟩=some (.int .i64 (Lib.runeCount t:Int)):=by rw [hWL,hAT];exact uz_ _ hs.1
  have hA2:WL.frozen? ⟨AT,0,none⟩=false:=by rw [hWL,hAT];exact qu_ _ hs.1 hs.2
  have hR1:WL.cell? ⟨w.heap.size+1,0,none⟩=some (.bool false):=by unfold World.cell?;rw [hkL.block (w.heap.size+1) (by omega),HR1.o];rfl
  have hR2:WL.frozen? ⟨w.heap.size+1,0,none⟩=false:=by unfold World.frozen?;rw [hkL.block (w.heap.size+1) (by omega),HR1.o];rfl
  have hN6:WL.cell? ⟨w.heap.size,6,none⟩=some (.slice uA U.length uc):=by unfold World.cell?;rw [hkL.block w.heap.size (by omega),HN1.o];rfl
  have HIL:=h_ (HI.o.la hBL);rw [←hWL,←hAT];have hATw:w.heap.size+1<AT:=by omega
  clear hs hWL hAT hkL hz1 hzA n6 hlt HN1 HR1 HB1;refine wpIn_rangeFunc_ownF (n:=9) rfl (by decide) (gf:=135) (lb:= #[.pointer (some ⟨AT+1,0,none⟩)]) rfl trivial (enters_of Tryz.func135 (by kernel_rfl) rfl)
   (baa_ Fence.wide 8 trivial rfl (by decide) (AT+1) w.heap.size uA uc U hl WL (by omega) (by omega) hb.1 (HI.o.row.below hBL (Nat.le_refl _))) (fun h k=>KpB.trans h k) (fun W l o o' h1 h2 h3 h4=>KpB.put (w:=WL) (by omega) (by omega) W l o o' h1 h2 h3 h4) (Below.refl _ _) (fun _=>rfl)
   (fun pre W=>UndoI w.heap.size AT uA uc U (runesI t) pre W∧(Below w.heap.size w W∧AT+2≤W.heap.size))
   (fun c pre W=>(c= .ret∧ ¬undoOk (runesI t) (backPs pre)∧W.cell? ⟨w.heap.size+1,0,none⟩=some (.bool false))∧Below w.heap.size w W)
   (OwnFrom.and (Own.from (UndoI.own _ _ _ _ _ _) _) (OwnFrom.and (ownFrom_below (Nat.le_refl _) (by omega)) (fun _ _ _ _ h hg _=>Nat.le_trans h hg.size)))
   (fun c=>OwnFrom.and (Own.from (fun s A B row hs hg hr=>⟨hs.1,hs.2.1,cell_kept hs.2.2 hg hr⟩) _) (ownFrom_below (Nat.le_refl _) (by omega)))
   ⟨⟨trivial,hA1,hA2,hR1,hR2,hN6⟩,hBL,by omega⟩
   (fun x=> { tmps:= #[(NodeV.val ⟨me,ep,up,rd,t,sA,sc,S,uA,uc,U,mA,mc,M⟩),.pointer (some ⟨w.heap.size,0,none⟩),.pointer (some ⟨w.heap.size+1,0,none⟩),.pointer (some ⟨AT,0,none⟩),undef,x.2.1.val,undef,undef,.pointer (some ⟨w.heap.size,4,none⟩),.string t,.int .i64 (Lib.runeCount t:Int),.pointer (some ⟨w.heap.size,6,none⟩),.slice uA U.length uc,.func (.func 135) #[] #[.pointer (some ⟨AT+1,0,none⟩)],.int .i64 (x.1:Int),x.2.1.val,undef,undef,undef,undef,undef,undef,undef,undef,undef,undef,undef,undef,undef,undef,undef,undef,undef,undef],defers:= [] }) ?assign ?body ?done ?stop
  case assign=>
   intro l x W K hK;gi_wp2
   exact hK
  case body=>
   rintro l pre ⟨k,⟨⟨qA,qc,qp⟩,hq⟩⟩ W ⟨hI,hB,hsz⟩ _;have HQ:=h_ (xf_ pre (⟨k,⟨⟨qA,qc,qp⟩,hq⟩⟩:BackI U));have hqs:=HM.o _ hq;have HLN:=h_ (fun X hs=>cs_ X qA qc qp hs hqs.len hqs.text);have HCK:=h_ (fun X hT hs=>bt_ X qA qc qp hT hs hqs.len hqs.text);have HOP:=h_ ((HI.o.la hB).each _ hq);obtain⟨i1,i2,i3,i4,i5,i6⟩:=hI;have HB:=h_ hB;have HSN:=h_ (gq_ (runesI t) (backPs pre) qp);have HAS:=h_ (hx_ (runesI t) (backPs pre) qp);generalize hag:atOf (runesI t) (backPs pre)=ag at*;generalize lens qp=ln at*;obtain⟨l1,l2⟩:=ln;have HAG:=h_ hag;clear hag;dsimp only at*;gi_wp2
   refine⟨trivial,CallsIn.inRound l (callsIn_wide.2 ((HLN.o W HOP.o).mono ?_))⟩;rintro e W1 ⟨rfl,hb1⟩;have HOP1:=h_ (Sl.la HOP.o hb1);have HB1:=h_ (bThen HB.o hb1);gi_wp2
   refine⟨trivial,CallsIn.inRound l (callsIn_wide.2 ((HCK.o W1 (HT.o.la HB1.o) HOP1.o).mono ?_))⟩;rintro e W2 ⟨rfl,hb2⟩;have HB2:=h_ (bThen hb1 hb2);have HBW:=h_ (bThen HB.o HB2.o);have j2:=(HB2.o.cell (p:=⟨AT,0,none⟩) (block_lt_of_cell i2)).trans i2;have j3:=(HB2.o.frozen (p:=⟨AT,0,none⟩) (block_lt_of_cell i2)).trans i3;have j4:=(HB2.o.cell (p:=⟨w.heap.size+1,0,none⟩) (block_lt_of_cell i4)).trans i4;have j5:=(HB2.o.frozen (p:=⟨w.heap.size+1,0,none⟩) (block_lt_of_cell i4)).trans i5;have HJ6:=h_ ((HB2.o.cell (p:=⟨w.heap.size,6,none⟩) (block_lt_of_cell i6)).trans i6);have HZ2:=h_ HB2.o.size;clear hb1 hb2 i2 i3 i4 i5 i6;by_cases hf:opFault qp=0
   ·rw [hf];by_cases ha:l1=ag
    ·have HNW:=h_ (show undoOk (runesI t) (backPs (pre++ [(⟨k,⟨⟨qA,qc,qp⟩,hq⟩⟩:BackI U)])) by rw [HQ.o];exact HSN.o.2 ⟨i1,hf,ha⟩);have ha2:(l1 !=ag)=false:=(by simpa using ha);clear ha hf;gi_wp2
     have hne1:w.heap.size+1≠AT:=(by omega);have hne0:w.heap.size≠AT:=(by omega);exact⟨(fz_ HB2.o).trans (KeepsOthers.setCell _ _ _),
      ⟨(HB2.o.mono HB.o.size).setCell (p:=⟨AT,0,none⟩) (by show w.heap.size≤AT;omega) _,(Below.heap_setCell W2 ⟨AT,0,none⟩ _ (AT+1) (by show AT+1≠AT;omega)).trans (HB2.o.block _ (by omega))⟩,
      ⟨HNW.o,by rw [HQ.o,HAS.o];exact World.cell?_setCell_same' _ _ _ (by rw [j2];rfl),by rw [World.frozen?_setCell];exact j3,(World.cell?_of_block (a:=⟨w.heap.size+1,0,none⟩) (Below.heap_setCell W2 ⟨AT,0,none⟩ _ _ hne1)).trans j4,by rw [World.frozen?_setCell];exact j5,(World.cell?_of_block (a:=⟨w.heap.size,6,none⟩) (Below.heap_setCell W2 ⟨AT,0,none⟩ _ _ hne0)).trans HJ6.o⟩,
      HBW.o.setCell (p:=⟨AT,0,none⟩) (by show w.heap.size≤AT;omega) _,by have:=HZ2.o;simp [World.setCell];omega⟩
    ·have HNW:=h_ (show¬undoOk (runesI t) (backPs (pre++ [(⟨k,⟨⟨qA,qc,qp⟩,hq⟩⟩:BackI U)])) by rw [HQ.o];exact fun h=>ha (HSN.o.1 h).2.2);have ha2:(l1 !=ag)=true:=(by simpa using ha);clear ha hf;exact m253_
   ·have HNW:=h_ (show¬undoOk (runesI t) (backPs (pre++ [(⟨k,⟨⟨qA,qc,qp⟩,hq⟩⟩:BackI U)])) by rw [HQ.o];exact fun h=>hf (HSN.o.1 h).2.1);have hf2:(opFault qp !=0)=true:=(by simpa using hf);generalize opFault qp=er at*;clear hf;exact m253_
  case done=>
   rintro D ys W hD hys ⟨hI,hB,hsz⟩ hK;obtain⟨i1,i2,i3,i4,i5,i6⟩:=hI;gi_wp2
   have hK':=(KeepsOthers.setCell W ⟨w.heap.size+1,0,none⟩ (.bool (decide ((U.length:Int)≤12)))).same D _ hK rfl;refine⟨by simp,.inl ⟨_,_,rfl,run_takeDeferred hK',?_⟩⟩;have hc5:=cell_kept (World.cell?_setCell_same' W ⟨w.heap.size+1,0,none⟩ (.bool (decide ((U.length:Int)≤12))) (by rw [i4];rfl)) (grownBy_putObj' _ D (.deferred none)) (fun r e=>by cases e;exact⟨_,hK',rfl⟩);refine⟨.bool (decide ((U.length:Int)≤12)),?_,⟨⟨_,rfl,?_⟩,(hB.setCell (p:=⟨w.heap.size+1,0,none⟩) (by simp) _).trans (belowK_b (w:=w) (Nat.le_refl _) _ D _ _ (by omega) hK' rfl rfl)⟩⟩
   ·simp [results,Tryz.results86,go_sem,hc5]
   ·have e:backPs ys=(U.map OpV.ps).reverse:=(by unfold backPs;rw [hys,List.map_reverse]);rw [e]at i1;simp only [decide_eq_true_eq];exact⟨fun h=>⟨i1,by omega⟩,fun h=>by omega⟩
  case stop=>
   rintro D c pre W hD hpre ⟨⟨rfl,hno,hcr⟩,hB⟩ hK;gi_wp2
   refine⟨by simp,.inl ⟨_,_,rfl,run_takeDeferred hK,?_⟩⟩;have hc5:=cell_kept hcr (grownBy_putObj' _ D (.deferred none)) (fun r e=>by cases e;exact⟨_,hK,rfl⟩);refine⟨.bool false,?_,⟨⟨_,rfl,?_⟩,hB.trans (belowK_b (w:=w) (Nat.le_refl _) W D _ _ (by omega) hK rfl rfl)⟩⟩
   ·simp [results,Tryz.results86,go_sem,hc5]
   ·refine⟨fun h=>(by cases h),fun h=>?_⟩;obtain⟨b,hb⟩:=hpre;exact absurd (ed_ (b:=b.map OpV.ps) (by unfold backPs;rw [←List.map_append,hb,List.map_reverse];exact h.1)) hno)
end Go.Proofs.YtacacoklddogmaaGreatDoor
