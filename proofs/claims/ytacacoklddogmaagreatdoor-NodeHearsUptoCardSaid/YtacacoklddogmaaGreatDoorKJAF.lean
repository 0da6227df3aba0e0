/- Lemmas. -/
import Derived.Test.YtacacoklddogmaaGreatDoorKJAA
import Derived.ArgAppend
namespace Go.Proofs.YtacacoklddogmaaGreatDoor
set_option maxHeartbeats 4000000
open Go.ChangeShapes Go.WideShapes Go.ChangeAt Go.RowKit
set_option maxRecDepth 100000
theorem m25_{P:Prop}(h:P:=by
 obtain⟨W1,hW1⟩:=q2_ (w.alloc (.cells #[.int .i64 k,.int .i64 h,.int .i64 e,.slice A ps.length c,.string s] 46));obtain⟨WA,hWA⟩:=q2_ (W1.alloc (.cells #[.int .i64 0,.int .i64 0,.int .i64 0,.slice none 0 0,.string ⟨#[]⟩] 46));have k204_:K_ (∀(P:Prop) (h:P:=by
 have HPA:=h_ (show FrameAt WA w.heap.size k h e A ps.length c s from(k2.block _ (by omega)).trans (by rw [hW1];show(w.heap.push _)[w.heap.size]?=_;simp));have HRA:=h_ (show FrameAt WA W1.heap.size 0 0 0 none 0 0 ⟨#[]⟩ by rw [hWA];show(W1.heap.push _)[W1.heap.size]?=_;simp);have HBA:=h_ (bThen k1 k2);have HW:=h_ (show(w.alloc (.cells #[.int .i64 k,.int .i64 h,.int .i64 e,.slice A ps.length c,.string s] 46)).alloc (.cells #[.int .i64 0,.int .i64 0,.int .i64 0,.slice none 0 0,.string ⟨#[]⟩] 46)=WA by rw [hWA,hW1]);obtain⟨R,hR⟩:=q2_ (W1.heap.size);have HE:=h_ (show w.heap.size+1=R by omega);have hRB:w.heap.size<R:=by omega
 have hRz:R<WA.heap.size:=by omega
 have n1: ¬w.heap.size=R:=by omega
 have n2: ¬R=w.heap.size:=by omega
 rw [←hR]at HRA;have HS:=h_ hs;clear hR k1 k2 g1 g2 hWA hW1 hs;first
 |guard_hyp vAL
  go_enter Tryz.func112,Tryz.ntmps112
 |go_enter Tryz.func82,Tryz.ntmps82
 go_wp2_with fail
 rw [HW.o,HE.o];first
 |guard_hyp vAL
  refine(dj_ _ A c ps (Sl.la HS.o HBA.o) hm).mono ?_
 |refine(eb_ _ A c ps (Sl.la HS.o HBA.o) hm).mono ?_
 rintro r w1 ⟨A1,c1,rfl,ho1,hb1⟩;have hz1:=hb1.size;have HP1:=h_ (show FrameAt w1 w.heap.size k h e A ps.length c s from(hb1.block _ (by omega)).trans HPA.o);have HR1:=h_ (show FrameAt w1 R 0 0 0 none 0 0 ⟨#[]⟩from(hb1.block _ hRz).trans HRA.o);have HO1:=h_ (show OpIn (fun b=>R<b∧b<w1.heap.size) w1 A1 ps from(Sl.of_own _ ho1).mv fun b hb=>⟨⟨by omega,hb.2⟩,rfl⟩);have HB1:=h_ (bThen HBA.o hb1);obtain⟨p0,p1,p2,p3,p4,q0,q1,q2,q3,q4,hpz⟩:=a_ HP1.o;obtain⟨r0,r1,r2,r3,r4,s0,s1,s2,s3,s4,hrz⟩:=a_ HR1.o;clear ho1 hb1;go_wp2_with fail
 refine u_ (fun G=>FrameAt G R k h e A1 ps.length c1 s∧OpIn (fun b=>w.heap.size≤b∧b<G.heap.size) G A1 ps∧Below w.heap.size w G) ⟨?_,?_,?_⟩ ?_
 ·exact f_ 4 _ (f_ 3 _ (f_ 2 _ (f_ 1 _ (f_ 0 _ ((bH_ n2).trans HR1.o)))))
 ·exact HO1.o.mv fun b hb=>⟨⟨by omega,by simp [World.setCell];omega⟩,have hR:b≠R:=by omega
   have hP:b≠w.heap.size:=by omega
   (bH_ hR).trans ((bH_ hR).trans ((bH_ hR).trans ((bH_ hR).trans ((bH_ hR).trans (bH_ hP)))))⟩
 ·exact bSet (bSet (bSet (bSet (bSet (bSet HB1.o (p:=⟨w.heap.size,3,none⟩) (Nat.le_refl _) _) (p:=⟨R,0,none⟩) (Nat.le_of_lt hRB) _) (p:=⟨R,1,none⟩) (Nat.le_of_lt hRB) _) (p:=⟨R,2,none⟩) (Nat.le_of_lt hRB) _) (p:=⟨R,3,none⟩) (Nat.le_of_lt hRB) _) (p:=⟨R,4,none⟩) (Nat.le_of_lt hRB) _
 rintro G ⟨hR4,hO4,hF4⟩;clear r0 r1 r2 r3 r4;obtain⟨r0,r1,r2,r3,r4,_,_,_,_,_,_⟩:=a_ hR4;first
 |guard_hyp vAL
  refine bodyPost_ret (v:=frameV k h e A1 ps.length c1 s) (by simp [results,Tryz.results112,go_sem,r0,r1,r2,r3,r4]) rfl ?_
 |refine bodyPost_ret (v:=frameV k h e A1 ps.length c1 s) (by simp [results,Tryz.results82,go_sem,r0,r1,r2,r3,r4]) rfl ?_
 exact⟨A1,c1,rfl,hO4,hF4⟩
 ),P):=⟨@q6_⟩
 exact m204_):P:=h
theorem m31_{P:Prop}(h:P:=by
 obtain⟨i0,hi,hz0,hz1,hz2⟩:=info_parts infoOp;have HS:=h_ hs;have HM:=h_ hm;clear hs hm;first
 |guard_hyp vAV
  go_enter Tryz.func16,Tryz.ntmps16
 |go_enter Tryz.func90,Tryz.ntmps90
 go_wp2_with fail
 skip
 first
 |guard_hyp vAV
  go_loopw [3,4] (fun out i wr=> ∃(k:Nat) (L':List OpV) (Ao:OA_) (co:Nat),k≤L.length∧i= .int .i64 k∧Hid (L'.length=k)∧out= .slice Ao L'.length co∧Hid (L'.map OpV.ps=(L.take k).map OpV.ps)∧Hid (OpsOwn wr w.heap.size Ao co L')∧Hid (Below w.heap.size w wr)) (fun _ i _=>L.length - (intOf i).toNat)
 |go_loopw [3,8] (fun out i wr=> ∃(k:Nat) (L':List OpV) (Ao:OA_) (co:Nat),k≤L.length∧i= .int .i64 k∧Hid (L'.length=k)∧out= .slice Ao L'.length co∧Hid (L'.map OpV.ps=(L.take k).map OpV.ps)∧Hid (OpsOwn wr w.heap.size Ao co L')∧Hid (Below w.heap.size w wr)) (fun _ i _=>L.length - (intOf i).toNat)
 case atStart=>exact⟨0,[],none,0,Nat.zero_le _,rfl,rfl,rfl,rfl,OpsOwn.nil _ _,Below.refl _ _⟩
 case round=>
  obtain⟨k,L',Ao,co,hk,rfl,hL',rfl,hps,HO,HB⟩:=hrel;by_cases hlt:k<L.length
  ·obtain⟨b,o,rfl,hbs,c0,hop⟩:=(OpsIn.la HS.o HB.o).at_ hlt;have hsm:=HM.o _ (List.getElem_mem hlt);have HT:=h_ (show(L.take (k+1)).map OpV.ps=(L.take k).map OpV.ps++ [L[k].ps] by rw [List.take_succ_eq_append_getElem hlt,List.map_append];rfl);have hki:(k:Int)<(L.length:Int):=(by omega);generalize L[k]=q at*;obtain⟨qA,qc,qp⟩:=q;dsimp only at c0 hop hsm HT;first
   |guard_hyp vAV
    have HC:=h_ (fun W hs=>eb_ W qA qc qp hs hsm)
   |have HC:=h_ (fun W hs=>dj_ W qA qc qp hs hsm)
   have HOP:=h_ hop;have hsz:=HB.o.size;clear hop hsm;go_wp2_with fail
   refine(HC.o _ HOP.o).mono ?_;rintro e w2 ⟨A2,c2,rfl,ho2,hb2⟩;have HX:=h_ ((HO.o.kept hb2.size (fun b _ hl=>hb2.block b hl)).row.alloc (.cells #[.slice A2 qp.length c2] 30));have HO2:=h_ ho2;have HB2:=h_ hb2;have hzw:=hb2.size;clear ho2 hb2;go_wp2_with(refine bb_ rfl ?_)
   refine⟨?_⟩;refine l_ _ rfl _ _ 25 rfl w.heap.size 30 i0 (.slice none 0 0) 1 24 Tryz.underlying25 hi hz0 hz1 hz2 rfl (by decide) _ _ _ rfl HX.o (fun _=>True) _ _ _ _ rfl (fa_ rfl (by simp)) ?c1 ?c2 ?c3 ?c4 ?_
   case c1=>intro u hu;simp at hu;subst hu;rfl
   case c2=>have:=hL'.o;unfold maxLen;omega
   case c3=>have:=hL'.o;omega
   case c4=>simp;omega
   intro A' c' w3 hown' hgrow hat;have HP:=h_ (HO.o.push hsz HB2.o HO2.o hgrow hown' hat);have HF:=h_ (bm_ HB.o HB2.o hgrow (fun g hg=>(HO.o.row.lt g hg).1));have HLN:=h_ (show(L'++ [(⟨A2,c2,qp⟩:OpV)]).length=L'.length+1 by simp);clear hown' hgrow hat;go_wp2_with fail
   go_roundw
   case rel=>exact⟨k+1,L'++ [⟨A2,c2,qp⟩],A',c',by omega,by go_num,h_ (by rw [HLN.o,hL'.o]),by rw [HLN.o],h_ (by rw [List.map_append,hps.o,HT.o];rfl),HP,HF⟩
   case measure=>simp [intOf];omega
  ·obtain rfl:k=L.length:=(by omega);have HPP:=h_ (show L'.map OpV.ps=L.map OpV.ps by rw [hps.o,List.take_length]);go_wp2_with fail
   go_ret
   exact⟨Ao,co,L',rfl,HPP.o,HO.o,HB.o⟩):P:=h
theorem m36_{P:Prop}(h:P:=by
 exact m54_):P:=h
theorem m37_{P:Prop}(h:P:=by
 obtain⟨e,n,sA,sc,s,qA,qc,q,h⟩:=l;have H1:=h_ (fun W hs=>cc_ W sA sc s hs hm.sl (fun f hf=>(hm.s f hf).op.len));have H2:=h_ (fun W hs=>cc_ W qA qc q hs hm.ql (fun f hf=>(hm.q f hf).op.len));have HI:=h_ hi
 (try dsimp only at*)
 clear hi hm;go_enter Tryz.func18,Tryz.ntmps18
 go_wp2_with(refine z_ ?_)
 refine⟨?_⟩;go_region_held3 (fun w'=>w'.cell? ⟨w.heap.size,0,none⟩=some (.int .i64 e)∧w'.cell? ⟨w.heap.size,1,none⟩=some (.int .i64 n)∧w'.cell? ⟨w.heap.size,2,none⟩=some (.slice sA s.length sc)∧w'.cell? ⟨w.heap.size,3,none⟩=some (.slice qA q.length qc)∧w'.cell? ⟨w.heap.size,4,none⟩=some (.int .i64 h))
  (go_keep)
  ((first
    | (go_at_call 42;(with_reducible refine(H1.o _ ?_).mono ?_);exact HI.o.s.la bz_;rintro r w2 ⟨A2,c2,L2,rfl,hd2,ho2,hb2⟩;obtain⟨⟨d2,os2⟩,rfl⟩:=e_ hb2)
    | (go_at_call 42;(with_reducible refine(H2.o _ ?_).mono ?_);exact HI.o.q.la bz_;rintro r w3 ⟨A3,c3,L3,rfl,hd3,ho3,hb3⟩;obtain⟨⟨d3,os3⟩,rfl⟩:=e_ hb3)))
 all_goals(
  go_wp2_with fail
  refine bodyPost_ret (v:=(⟨e,n,A2,c2,L2,A3,c3,L3,h⟩:LinkV).val) (by simp [results,Tryz.results18,go_sem]) rfl ?_;first
  |guard_hyp vBC
   refine⟨⟨e,n,A2,c2,L2,A3,c3,L3,h⟩,_,rfl,by simp only [LinkV.d,hd2,hd3],⟨?_,?_⟩,FramesTo.kept ((FramesTo.of ho2)) ?_ ?_ |>.mono ?_,RowOwn.kept ho3 ?_ fun b hb hl=>?_,bz_⟩
  |guard_hyp vBB
   refine⟨⟨e,n,A2,c2,L2,A3,c3,L3,h⟩,rfl,by simp only [LinkV.d,hd2,hd3],LinkInS.of (RowOwn.kept ho2 ?_ fun b hb hl=>?_) ?_ (RowOwn.kept ho3 ?_ fun b hb hl=>?_) ?_,bz_,(ky_ ho2.row).1⟩
  |refine⟨⟨e,n,A2,c2,L2,A3,c3,L3,h⟩,rfl,by simp only [LinkV.d,hd2,hd3],LinkInS.of (RowOwn.kept ho2 ?_ fun b hb hl=>?_) ?_ (RowOwn.kept ho3 ?_ fun b hb hl=>?_) ?_,bz_⟩
  ·simp [Go.Sort.grow]
  first
  |guard_hyp vBC
   ·simp [Go.Sort.grow]
   ·simp [Go.Sort.grow]
  |skip
  ·first
   |guard_hyp vBC
    intro b hb hl
   |skip
   exact((below_regrown _ d3 os3).block b (by simpa [Go.Sort.grow]using hl)).trans (ds_ _ _ d2 os2 (by simp) (by simpa using hb))
  ·simp
  ·simp [Go.Sort.grow]
  ·exact ds_ _ _ d3 os3 (by simp [Go.Sort.grow]) hb
  all_goals(first
  |guard_hyp vBC
  |·(simp [Go.Sort.grow] <;> omega)))):P:=h
theorem m51_{P:Prop}(h:P:=by
 have vBX:=h_ trivial;exact m54_):P:=h
theorem m54_{P:Prop}(h:P:=by
 obtain⟨W1,hW1⟩:=q2_ (w.alloc (.cells #[.int .i64 s,.int .i64 h,.slice A L.length c] 55));have k103_:K_ (∀(P:Prop) (h:P:=by
 have k199_:K_ (∀(P:Prop) (h:P:=by
 have k140_:K_ (∀(P:Prop) (h:P:=by
 first
 |guard_hyp vBX
  first
  |guard_hyp vBT
   go_enter Tryz.func132,Tryz.ntmps132
  |go_enter Tryz.func118,Tryz.ntmps118
 |guard_hyp vBA
  go_enter Tryz.func132,Tryz.ntmps132
 |go_enter Tryz.func118,Tryz.ntmps118
 have k122_:K_ (∀(P:Prop) (h:P:=by
 go_wp2_with fail
 first
 |guard_hyp vBX
  refine(HF.o _ (HT.o.la H1.o.b) (Sl.la HP.o H1.o.b)).mono ?_;rintro e w2 ⟨rfl,hb2⟩;have H2:=h_ (H1.o.la hb2);have hz2:=hb2.size;clear e0 e1 e2 hez r0 r1 r2 q0 q1 q2 hrz;obtain⟨e0,e1,e2,_,_,_,hez⟩:=b_ H2.o.e;obtain⟨r0,r1,r2,q0,q1,q2,hrz⟩:=b_ H2.o.r;clear hb2;go_wp2_with fail
  first
  |guard_hyp vBT
  |guard_hyp vAR
  |first
   |guard_hyp vAQ
    refine(m_ hd (s - (L.length:Int)) s _ f1 f2).mono ?_
   |guard_hyp vAP
    refine(In_no hd (s - (L.length:Int)) s _ (.inr f1)).mono ?_
   |refine(In_no hd (s - (L.length:Int)) s _ (.inl f1)).mono ?_
   rintro e w3 ⟨rfl,rfl⟩;go_wp2_with fail
  have z0:=b_ (x_ (x:= .slice none 0 0) (bc_ (x:= .int .i64 0) (bd_ (x:= .int .i64 0) H2.o.r)))
 |have z0:=b_ (x_ (x:= .slice none 0 0) (bc_ (x:= .int .i64 0) (bd_ (x:= .int .i64 0) H1.o.r)))
 obtain⟨z0,z1,z2,_,_,_,_⟩:=z0;first
 |guard_hyp vBX
  first
  |guard_hyp vBT
   first
   |guard_hyp vAU
    refine bodyPost_ret (v:= .tuple #[edgeV 0 0 none 0 0,.slice none 0 0,.int .i64 er]) (by simp [results,Tryz.results132,go_sem,z0,z1,z2]) rfl ?_
   |guard_hyp vAT
    refine bodyPost_ret (v:= .tuple #[edgeV 0 0 none 0 0,.slice none 0 0,.int .i64 8]) (by simp [results,Tryz.results132,go_sem,z0,z1,z2]) rfl ?_
   |refine bodyPost_ret (v:= .tuple #[edgeV 0 0 none 0 0,.slice none 0 0,.int .i64 2]) (by simp [results,Tryz.results132,go_sem,z0,z1,z2]) rfl ?_
  |guard_hyp vAR
   refine bodyPost_ret (v:= .tuple #[edgeV 0 0 none 0 0,.slice none 0 0,.int .i64 er]) (by simp [results,Tryz.results118,go_sem,z0,z1,z2]) rfl ?_
  |guard_hyp vAQ
   refine bodyPost_ret (v:= .tuple #[edgeV 0 0 none 0 0,.slice none 0 0,.int .i64 8]) (by simp [results,Tryz.results118,go_sem,z0,z1,z2]) rfl ?_
  |refine bodyPost_ret (v:= .tuple #[edgeV 0 0 none 0 0,.slice none 0 0,.int .i64 2]) (by simp [results,Tryz.results118,go_sem,z0,z1,z2]) rfl ?_
  exact⟨rfl,bSet (bSet (bSet H2.o.b (p:=⟨R,0,none⟩) (Nat.le_of_lt hRB) _) (p:=⟨R,1,none⟩) (Nat.le_of_lt hRB) _) (p:=⟨R,2,none⟩) (Nat.le_of_lt hRB) _⟩
 |first
  |guard_hyp vBA
   refine bodyPost_ret (v:= .tuple #[edgeV 0 0 none 0 0,.slice none 0 0,.int .i64 9]) (by simp [results,Tryz.results132,go_sem,z0,z1,z2]) rfl ?_
  |refine bodyPost_ret (v:= .tuple #[edgeV 0 0 none 0 0,.slice none 0 0,.int .i64 9]) (by simp [results,Tryz.results118,go_sem,z0,z1,z2]) rfl ?_
  exact⟨rfl,bSet (bSet (bSet H1.o.b (p:=⟨R,0,none⟩) (Nat.le_of_lt hRB) _) (p:=⟨R,1,none⟩) (Nat.le_of_lt hRB) _) (p:=⟨R,2,none⟩) (Nat.le_of_lt hRB) _⟩
 ),P):=⟨@q6_⟩
 exact m122_
 ),P):=⟨@q6_⟩
 exact m140_
 ),P):=⟨@q6_⟩
 exact m199_
 ),P):=⟨@q6_⟩
 exact m103_):P:=h
theorem m251_{P:Prop}(h:P:=by
 go_wp2_with fail
 refine(HC.o _ (Sl.la HS.o bz_) (Sl.la HS'.o bz_)).mono ?_;rintro r w1 ⟨rfl,hb1⟩;obtain⟨⟨d1,os1⟩,rfl⟩:=e_ hb1;go_wp2_with fail
 go_ret
 exact⟨by simp,bz_⟩):P:=h
structure RecV where
 ep:Int
 o:OpV
instance:Inhabited RecV:=⟨⟨0,⟨none,0,[]⟩⟩⟩
def RecV.cells (r:RecV):List Value:= [.int .i64 r.ep,r.o.val]
theorem RecV.cells_len(r:RecV):r.cells.length=2:=rfl
structure RecsIn (w:World) (A:OA_) (L:List RecV):Prop where
 row:Sl (· <w.heap.size) w 2 A L.length (L.flatMap RecV.cells)
 each: ∀r∈L,OpIn (· <w.heap.size) w r.o.A r.o.ps
theorem RecsIn.la{w w':World}{A:Option Addr}{L:List RecV}(h:RecsIn w A L)(hb:Below w.heap.size w w'):RecsIn w' A L:=⟨h.row.la hb,fun r hr=>Sl.la (h.each r hr) hb⟩
theorem RecsIn.at_{w:World}{A:Option Addr}{L:List RecV}(h:RecsIn w A L){k:Nat}(hk:k<L.length):
 ∃b o,A=some ⟨b,o,none⟩∧b<w.heap.size∧w.cell? ⟨b,o+k*2,none⟩=some (.int .i64 L[k].ep)∧w.cell? ⟨b,o+k*2+1,none⟩=some (.slice L[k].o.A L[k].o.ps.length L[k].o.c)∧OpIn (· <w.heap.size) w L[k].o.A L[k].o.ps:=by
 obtain⟨b,o,e,hb,hc⟩:=bh_ RecV.cells 2 RecV.cells_len h.row hk;exact⟨b,o,e,hb,hc 0 _ rfl,hc 1 _ rfl,h.each _ (List.getElem_mem hk)⟩
theorem infoRec:(Tryz.prog.info? 119).map (fun i=>(i.zero,i.size,i.bytes))=some (some (.agg #[.int .i64 0,.slice none 0 0]),2,32):=by kernel_rfl
structure RowOwn {α:Type} (t:TypeId) (n:Nat) (f:α→List Value) (op:α→OpV) (w:World) (base:Nat) (A:OA_) (c:Nat) (L:List α):Prop where
 row:w.ownsRow base t n (.slice A L.length c) L.length (L.flatMap f)
 each: ∀x∈L,OpIn (fun b=>(base≤b∧b<w.heap.size)∧(Value.slice A L.length c).ownBlock≠some b) w (op x).A (op x).ps
section
variable {α:Type}{t:TypeId}{n:Nat}{f:α→List Value}{op:α→OpV}
section
variable {w w':World}{base:Nat}{A:Option Addr}{c:Nat}{L:List α}(h:RowOwn t n f op w base A c L)
include w w' base A c L h
theorem RowOwn.kept(hs:w.heap.size≤w'.heap.size)(hk: ∀b,base≤b→b<w.heap.size→w'.heap[b]?=w.heap[b]?):RowOwn t n f op w' base A c L:=by
 exact m142_
theorem RowOwn.la(hb:Below w.heap.size w w'):RowOwn t n f op w' base A c L:=h.kept hb.size fun b _ hl=>hb.block b hl
end
theorem RowOwn.nil(w:World)(base:Nat):RowOwn t n f op w base none 0 []:=⟨World.ownsRow_nil _ _ _ _,by simp⟩
theorem RowOwn.mono{w:World}{base base':Nat}{A:Option Addr}{c:Nat}{L:List α}(h:RowOwn t n f op w base A c L)(hb:base'≤base):RowOwn t n f op w base' A c L:=
 ⟨⟨h.row.1,h.row.2.imp id fun⟨g,cap,cur,e,hg,rest⟩=>⟨g,cap,cur,e,Nat.le_trans hb hg,rest⟩⟩,fun o ho=>(h.each o ho).mv fun _ hx=>⟨⟨⟨Nat.le_trans hb hx.1.1,hx.1.2⟩,hx.2⟩,rfl⟩⟩
theorem RowOwn.push{wr W2 w3:World}{base:Nat}{Ao A':Option Addr}{co c':Nat}{L:List α}{x:α}{o:Obj}(hO:RowOwn t n f op wr base Ao co L)(hbs:base≤wr.heap.size)(hW:Below wr.heap.size wr W2)
 (hx:OpIn (fun b=>wr.heap.size≤b∧b<W2.heap.size) W2 (op x).A (op x).ps) (hg:(W2.alloc o).grownBy w3 (Value.slice Ao L.length co).ownBlock)
 (hown:w3.ownsRow base t n (.slice A' (L.length+1) c') (L.length+1) (L.flatMap f++f x))
 (hat:(Value.slice A' (L.length+1) c').ownBlock=(Value.slice Ao L.length co).ownBlock∨(Value.slice A' (L.length+1) c').ownBlock=some (W2.alloc o).heap.size):RowOwn t n f op w3 base A' c' (L++ [x]):=by
 have vCE:=h_ trivial;exact m131_
end
abbrev RecsOwn (w:World) (base:Nat) (A:OA_) (c:Nat) (L:List RecV):Prop:=RowOwn 119 2 RecV.cells RecV.o w base A c L
theorem RecsOwn.in_{w:World}{base:Nat}{A:Option Addr}{c:Nat}{L:List RecV}(h:RecsOwn w base A c L):RecsIn w A L:=
 ⟨(Sl.of_own _ h.row).mv fun _ hx=>⟨hx.2,rfl⟩,fun o ho=>(h.each o ho).mv fun _ hx=>⟨hx.1.2,rfl⟩⟩
theorem a_{w:World}{B:Nat}{v0 v1 v2 v3 v4:Value}{t:TypeId}(h:w.heap[B]?=some (.cells #[v0,v1,v2,v3,v4] t (0,0))):
 w.cell? ⟨B,0,none⟩=some v0∧w.cell? ⟨B,1,none⟩=some v1∧w.cell? ⟨B,2,none⟩=some v2∧w.cell? ⟨B,3,none⟩=some v3∧w.cell? ⟨B,4,none⟩=some v4∧
  w.frozen? ⟨B,0,none⟩=false∧w.frozen? ⟨B,1,none⟩=false∧w.frozen? ⟨B,2,none⟩=false∧w.frozen? ⟨B,3,none⟩=false∧w.frozen? ⟨B,4,none⟩=false∧B<w.heap.size:=
 ⟨by simp [World.cell?,h],by simp [World.cell?,h],by simp [World.cell?,h],by simp [World.cell?,h],by simp [World.cell?,h],by simp [World.frozen?,h],by simp [World.frozen?,h],by simp [World.frozen?,h],by simp [World.frozen?,h],by simp [World.frozen?,h],(Array.getElem?_eq_some_iff.1 h).1⟩
theorem f_{w:World}{B:Nat}{vs:Array Value}{t:TypeId}(j:Nat)(x:Value)(h:w.heap[B]?=some (.cells vs t (0,0))):(w.setCell ⟨B,j,none⟩ x).heap[B]?=some (.cells (vs.setIfInBounds j x) t (0,0)):=by
 rw [heap_setCell_same w B j _ _ _ h]
abbrev FrameAt (w:World) (X:Nat) (k h e:Int) (A:OA_) (n c:Nat) (s:ByteArray):Prop:=w.heap[X]?=some (.cells #[.int .i64 k,.int .i64 h,.int .i64 e,.slice A n c,.string s] 46 (0,0))
def RetFrame (w:World) (f:FrameD) (e:Ending) (w':World):Prop:=
 ∃A c,e= .returned (frameV f.kind f.heard f.epoch A f.op.length c f.text)∧OpIn (fun b=>w.heap.size≤b∧b<w'.heap.size) w' A f.op∧Below w.heap.size w w'
section
variable(w:World) (k h e:Int) (A:OA_) (c:Nat) (ps:LP_) (s:ByteArray) (hs:OpIn (· <w.heap.size) w A ps) (hm:ps.length≤1048576)
include w k h e A c ps s hs hm
theorem dk_:
 Calls Tryz.prog 82 #[frameV k h e A ps.length c s] w (RetFrame w ⟨k,h,e,ps,s⟩):=by
 exact m25_
theorem dv_:
 Calls Tryz.prog 112 #[frameV k h e A ps.length c s] w (RetFrame w ⟨k,h,e,ps,s⟩):=by
 have vAL:=h_ trivial;exact m25_
end
theorem infoFrame:(Tryz.prog.info? 46).map (fun i=>(i.zero,i.size,i.bytes))=some (some (.agg #[.int .i64 0,.int .i64 0,.int .i64 0,.slice none 0 0,.string ⟨#[]⟩]),5,64):=by kernel_rfl
abbrev FramesOwn (w:World) (base:Nat) (A:OA_) (c:Nat) (L:List FrameV):Prop:=RowOwn 46 5 FrameV.cells FrameV.o w base A c L
theorem FramesIn.nil(w:World):FramesIn w none []:=⟨Sl.nil,by simp⟩
theorem bl_{W:World}{cs:List Value}{t:TypeId}{n m:Nat}{A:Option Addr}(hl:cs.length=n*m)(hA:A=some ⟨W.heap.size,0,none⟩):Sl (fun _=>True) (W.alloc (.cells cs.toArray t)) m A n cs:=by
 subst hA;exact Sl.new W cs t m n hl trivial
def RetFrames (w:World) (D:List FrameD) (e:Ending) (w':World):Prop:=
 ∃A c L,e= .returned (.slice A L.length c)∧L.map FrameV.d=D∧FramesOwn w' w.heap.size A c L∧Below w.heap.size w w'
theorem cc_(w:World)(A:OA_)(c:Nat)(L:List FrameV)(hs:FramesIn w A L)(hl:L.length≤1048576)(hm: ∀f∈L,f.o.ps.length≤1048576):
 Calls Tryz.prog 42 #[.slice A L.length c] w (RetFrames w (L.map FrameV.d)):=by
 obtain⟨i0,hi,hz0,hz1,hz2⟩:=info_parts infoFrame;have HS:=h_ hs;have HM:=h_ hm;clear hs hm;go_enter Tryz.func42,Tryz.ntmps42
 go_wp2_with fail
 go_loopw [3,4] (fun out i wr=> ∃(k:Nat) (L':List FrameV) (Ao:OA_) (co:Nat),k≤L.length∧i= .int .i64 k∧L'.length=k∧out= .slice Ao k co∧Hid (L'.map FrameV.d=(L.take k).map FrameV.d)∧FramesOwn wr w.heap.size Ao co L'∧Below w.heap.size w wr) (fun _ i _=>L.length - (intOf i).toNat)
 case atStart=>exact⟨0,[],none,0,Nat.zero_le _,rfl,rfl,rfl,rfl,RowOwn.nil _ _,Below.refl _ _⟩
 case round=>
  obtain⟨k,L',Ao,co,hk,rfl,hL',rfl,hps,hown,hbw⟩:=hrel;subst hL';by_cases hlt:L'.length<L.length
  ·obtain⟨b,o,rfl,hbs,g0,g1,g2,g3,g4,hop⟩:=(FramesIn.la HS.o hbw).at_ hlt;have hsm:=HM.o _ (List.getElem_mem hlt);have HT:=h_ (show(L.take (L'.length+1)).map FrameV.d=(L.take L'.length).map FrameV.d++ [L[L'.length].d] by rw [List.take_succ_eq_append_getElem hlt,List.map_append];rfl);generalize L[L'.length]=q at*;obtain⟨fk,fh,fe,⟨fA,fc,fp⟩,fs⟩:=q;dsimp only at*;have HC:=h_ (fun W hs=>dk_ W fk fh fe fA fc fp fs hs hsm);have HOP:=h_ hop;have HO:=h_ hown;have hsz:=hbw.size;clear hop hown hsm;go_wp2_with fail
   refine(HC.o _ (Sl.la HOP.o bz_)).mono ?_;rintro e w2 ⟨A2,c2,rfl,ho2,hb2⟩;have HX:=h_ (((HO.o.la hb2).row.alloc (.cells #[.int .i64 fk,.int .i64 fh,.int .i64 fe,.slice A2 fp.length c2,.string fs] 46)).alloc (.cells #[.int .i64 fk,.int .i64 fh,.int .i64 fe,.slice A2 fp.length c2,.string fs] 46));have HO2:=h_ ho2;have HB2:=h_ hb2;have hzw:=hb2.size;clear ho2 hb2;go_wp2_with(refine bb_ rfl ?_)
   refine⟨?_⟩;refine l_ _ rfl _ _ 56 rfl w.heap.size 46 i0 (.agg #[.int .i64 0,.int .i64 0,.int .i64 0,.slice none 0 0,.string ⟨#[]⟩]) 5 64 Tryz.underlying56 hi hz0 hz1 hz2 rfl (by decide) _ _ _ rfl HX.o (fun _=>True) _ _ _ _ rfl (bl_ (by rfl) (by simp)) ?c1 ?c2 ?c3 ?c4 ?_
   case c1=>intro u hu;simp at hu;rcases hu with rfl | rfl | rfl | rfl | rfl <;> rfl
   case c2=>unfold maxLen;omega
   case c3=>omega
   case c4=>simp;omega
   intro A' c' w3 hown' hgrow hat;have hP:=RowOwn.push (f:=FrameV.cells) (op:=FrameV.o) (x:=⟨fk,fh,fe,⟨A2,c2,fp⟩,fs⟩) (W2:=w2.alloc (.cells #[.int .i64 fk,.int .i64 fh,.int .i64 fe,.slice A2 fp.length c2,.string fs] 46)) HO.o hsz (bAlloc HB2.o _) (HO2.o.mv fun b hb=>⟨⟨hb.1,by simp;omega⟩,q_ _ _ b hb.2⟩) hgrow hown' hat;have hF:=bm_ hbw (bAlloc HB2.o _) hgrow (fun g hg=>(HO.o.row.lt g hg).1);clear hown' hgrow hat;go_wp2_with fail
   go_roundw
   case rel=>exact⟨L'.length+1,L'++ [⟨fk,fh,fe,⟨A2,c2,fp⟩,fs⟩],A',c',by omega,by go_num,by simp,rfl,by rw [List.map_append,hps.o,HT.o];rfl,hP,hF⟩
   case measure=>simp [intOf];omega
  ·obtain hk':L'.length=L.length:=(by omega);rw [hk',List.take_length]at hps;go_wp2_with fail
   go_ret
   exact⟨Ao,co,L',rfl,hps.o,hown,hbw⟩
theorem mc_(w:World)(k h e:Int)(A A':Option Addr)(c c':Nat)(ps:LP_)(s:ByteArray)(hs:OpIn (· <w.heap.size) w A ps)(hs':OpIn (· <w.heap.size) w A' ps)(hm:ps.length≤1048576):
 Calls Tryz.prog 68 #[frameV k h e A ps.length c s,frameV k h e A' ps.length c' s] w (R_ w (.bool true)):=by
 have HC:=h_ (fun W h h'=>nl_ W A A' c c' ps h h' hm);have HS:=h_ hs;have HS':=h_ hs';clear hs hs';go_enter Tryz.func68,Tryz.ntmps68
 exact m251_
theorem wh_(w:World)(ep nu:Int)(b:Bool)(ak k h e:Int)(A A':Option Addr)(c c':Nat)(ps:LP_)(s:ByteArray)(hs:OpIn (· <w.heap.size) w A ps)(hs':OpIn (· <w.heap.size) w A' ps)(hm:ps.length≤1048576):
 Calls Tryz.prog 25 #[packetV ep nu b ak k h e A ps.length c s,packetV ep nu b ak k h e A' ps.length c' s] w (R_ w (.bool true)):=by
 have HC:=h_ (fun W g g'=>mc_ W k h e A A' c c' ps s g g' hm);have HS:=h_ hs;have HS':=h_ hs';clear hs hs';go_enter Tryz.func25,Tryz.ntmps25
 exact m251_
structure PacketV where
 ep:Int
 nu:Int
 b:Bool
 ak:Int
 f:FrameV
instance:Inhabited PacketV:=⟨⟨0,0,false,0,default⟩⟩
def PacketV.cells (p:PacketV):List Value:= [.int .i64 p.ep,.int .i64 p.nu,.bool p.b,.int .i64 p.ak,.int .i64 p.f.k,.int .i64 p.f.h,.int .i64 p.f.e,p.f.o.val,.string p.f.s]
theorem PacketV.cells_len(p:PacketV):p.cells.length=9:=rfl
abbrev PacketV.op (p:PacketV):OpV:=p.f.o
abbrev PacketV.d (p:PacketV):PacketD:=⟨p.ep,p.nu,p.b,p.ak,p.f.d⟩
structure PacketsIn (w:World) (A:OA_) (L:List PacketV):Prop where
 row:Sl (· <w.heap.size) w 9 A L.length (L.flatMap PacketV.cells)
 each: ∀p∈L,OpIn (· <w.heap.size) w p.f.o.A p.f.o.ps
theorem PacketsIn.nil(w:World):PacketsIn w none []:=⟨Sl.nil,by simp⟩
def RetPacket (w:World) (d:PacketD) (e:Ending) (w':World):Prop:=
 ∃A c,e= .returned (packetV d.epoch d.number d.bare d.ack d.frame.kind d.frame.heard d.frame.epoch A d.frame.op.length c d.frame.text)∧OpIn (fun b=>w.heap.size≤b∧b<w'.heap.size) w' A d.frame.op∧Below w.heap.size w w'
theorem ds_(X Y:World)(d:Nat)(os:Array Obj)(h:X.heap.size=Y.heap.size){b:Nat}(hb:X.heap.size≤b):(Go.Sort.grow (redrawn Y d) os).heap[b]?=(Go.Sort.grow (redrawn X d) os).heap[b]?:=by
 show(Y.heap++os)[b]?=(X.heap++os)[b]?;rw [Array.getElem?_append_right (by omega),Array.getElem?_append_right hb,h]
theorem bfg_{n:Int}{m k:Nat}(h1:1≤n)(h2:n≤1048576)(h3:m≤8)(hk:k<m):IntKind.i64.wrap (IntKind.i64.wrap (n - (m:Int))+(k:Int))=n - m+k:=by
 rw [IntKind.wrap_i64,IntKind.wrap_i64];omega
theorem n_{w:World}{B:Nat}{v0 v1 v2 v3 v4 v5 v6 v7 v8:Value}{t:TypeId}(h:w.heap[B]?=some (.cells #[v0,v1,v2,v3,v4,v5,v6,v7,v8] t (0,0))):
 w.cell? ⟨B,0,none⟩=some v0∧w.cell? ⟨B,1,none⟩=some v1∧w.cell? ⟨B,2,none⟩=some v2∧w.cell? ⟨B,3,none⟩=some v3∧w.cell? ⟨B,4,none⟩=some v4∧w.cell? ⟨B,5,none⟩=some v5∧w.cell? ⟨B,6,none⟩=some v6∧w.cell? ⟨B,7,none⟩=some v7∧w.cell? ⟨B,8,none⟩=some v8∧
  w.frozen? ⟨B,0,none⟩=false∧w.frozen? ⟨B,1,none⟩=false∧w.frozen? ⟨B,2,none⟩=false∧w.frozen? ⟨B,3,none⟩=false∧w.frozen? ⟨B,4,none⟩=false∧w.frozen? ⟨B,5,none⟩=false∧w.frozen? ⟨B,6,none⟩=false∧w.frozen? ⟨B,7,none⟩=false∧w.frozen? ⟨B,8,none⟩=false∧B<w.heap.size:=
 ⟨by simp [World.cell?,h],by simp [World.cell?,h],by simp [World.cell?,h],by simp [World.cell?,h],by simp [World.cell?,h],by simp [World.cell?,h],by simp [World.cell?,h],by simp [World.cell?,h],by simp [World.cell?,h],by simp [World.frozen?,h],by simp [World.frozen?,h],by simp [World.frozen?,h],by simp [World.frozen?,h],by simp [World.frozen?,h],by simp [World.frozen?,h],by simp [World.frozen?,h],by simp [World.frozen?,h],by simp [World.frozen?,h],(Array.getElem?_eq_some_iff.1 h).1⟩
theorem bcq_{w:World}{B:Nat}{v0 v1 v2 v3 v4 v5 v6 v7 v8 x0 x1 x2 x3 x4 x5 x6 x7 x8:Value}{t:TypeId}(h:w.heap[B]?=some (.cells #[v0,v1,v2,v3,v4,v5,v6,v7,v8] t (0,0))):
 (((((((((w.setCell ⟨B,0,none⟩ x0).setCell ⟨B,1,none⟩ x1).setCell ⟨B,2,none⟩ x2).setCell ⟨B,3,none⟩ x3).setCell ⟨B,4,none⟩ x4).setCell ⟨B,5,none⟩ x5).setCell ⟨B,6,none⟩ x6).setCell ⟨B,7,none⟩ x7).setCell ⟨B,8,none⟩ x8).heap[B]?=some (.cells #[x0,x1,x2,x3,x4,x5,x6,x7,x8] t (0,0)):=by
 have h0:(w.setCell ⟨B,0,none⟩ x0).heap[B]?=some (.cells #[x0,v1,v2,v3,v4,v5,v6,v7,v8] t (0,0)):=f_ 0 x0 h;have h1:((w.setCell ⟨B,0,none⟩ x0).setCell ⟨B,1,none⟩ x1).heap[B]?=some (.cells #[x0,x1,v2,v3,v4,v5,v6,v7,v8] t (0,0)):=f_ 1 x1 h0;have h2:(((w.setCell ⟨B,0,none⟩ x0).setCell ⟨B,1,none⟩ x1).setCell ⟨B,2,none⟩ x2).heap[B]?=some (.cells #[x0,x1,x2,v3,v4,v5,v6,v7,v8] t (0,0)):=f_ 2 x2 h1;have h3:((((w.setCell ⟨B,0,none⟩ x0).setCell ⟨B,1,none⟩ x1).setCell ⟨B,2,none⟩ x2).setCell ⟨B,3,none⟩ x3).heap[B]?=some (.cells #[x0,x1,x2,x3,v4,v5,v6,v7,v8] t (0,0)):=f_ 3 x3 h2;have h4:(((((w.setCell ⟨B,0,none⟩ x0).setCell ⟨B,1,none⟩ x1).setCell ⟨B,2,none⟩ x2).setCell ⟨B,3,none⟩ x3).setCell ⟨B,4,none⟩ x4).heap[B]?=some (.cells #[x0,x1,x2,x3,x4,v5,v6,v7,v8] t (0,0)):=f_ 4 x4 h3;have h5:((((((w.setCell ⟨B,0,none⟩ x0).setCell ⟨B,1,none⟩ x1).setCell ⟨B,2,none⟩ x2).setCell ⟨B,3,none⟩ x3).setCell ⟨B,4,none⟩ x4).setCell ⟨B,5,none⟩ x5).heap[B]?=some (.cells #[x0,x1,x2,x3,x4,x5,v6,v7,v8] t (0,0)):=f_ 5 x5 h4;have h6:(((((((w.setCell ⟨B,0,none⟩ x0).setCell ⟨B,1,none⟩ x1).setCell ⟨B,2,none⟩ x2).setCell ⟨B,3,none⟩ x3).setCell ⟨B,4,none⟩ x4).setCell ⟨B,5,none⟩ x5).setCell ⟨B,6,none⟩ x6).heap[B]?=some (.cells #[x0,x1,x2,x3,x4,x5,x6,v7,v8] t (0,0)):=f_ 6 x6 h5;have h7:((((((((w.setCell ⟨B,0,none⟩ x0).setCell ⟨B,1,none⟩ x1).setCell ⟨B,2,none⟩ x2).setCell ⟨B,3,none⟩ x3).setCell ⟨B,4,none⟩ x4).setCell ⟨B,5,none⟩ x5).setCell ⟨B,6,none⟩ x6).setCell ⟨B,7,none⟩ x7).heap[B]?=some (.cells #[x0,x1,x2,x3,x4,x5,x6,x7,v8] t (0,0)):=f_ 7 x7 h6;have h8:(((((((((w.setCell ⟨B,0,none⟩ x0).setCell ⟨B,1,none⟩ x1).setCell ⟨B,2,none⟩ x2).setCell ⟨B,3,none⟩ x3).setCell ⟨B,4,none⟩ x4).setCell ⟨B,5,none⟩ x5).setCell ⟨B,6,none⟩ x6).setCell ⟨B,7,none⟩ x7).setCell ⟨B,8,none⟩ x8).heap[B]?=some (.cells #[x0,x1,x2,x3,x4,x5,x6,x7,x8] t (0,0)):=f_ 8 x8 h7;exact h8
abbrev LinkAt (w:World) (X:Nat) (l:LinkV):Prop:=w.heap[X]?=some (.cells #[.int .i64 l.e,.int .i64 l.n,.slice l.sA l.s.length l.sc,.slice l.qA l.q.length l.qc,.int .i64 l.h] 58 (0,0))
abbrev PacketAt (w:World) (X:Nat) (ep nu:Int) (b:Bool) (ak k h e:Int) (A:OA_) (n c:Nat) (s:ByteArray):Prop:=w.heap[X]?=some (.cells #[.int .i64 ep,.int .i64 nu,.bool b,.int .i64 ak,.int .i64 k,.int .i64 h,.int .i64 e,.slice A n c,.string s] 48 (0,0))
def packetD (l:LinkV) (k:Nat):PacketD:=⟨l.e,l.n - l.s.length+k,false,l.h,(l.s.getD k default).d⟩
def bareD (l:LinkV):PacketD:=⟨l.e,0,true,l.h,⟨0,0,0,[],⟨#[]⟩⟩⟩
theorem pf_(l:LinkV)(k:Nat)(hk:k<l.s.length):packetD l k=⟨l.e,l.n - l.s.length+k,false,l.h,l.s[k].d⟩:=by
 unfold packetD;simp [List.getD_eq_getElem?_getD,hk]
section
variable(w:World) (l:LinkV)
include w l
theorem ir_:Calls Tryz.prog 114 #[l.val] w (RetPacket w (bareD l)):=by
 obtain⟨e,n,sA,sc,s,qA,qc,q,h⟩:=l;go_enter Tryz.func114,Tryz.ntmps114
 go_wp2_with fail
 refine bodyPost_ret (v:=packetV e 0 true h 0 0 0 none 0 0 ⟨#[]⟩) (by simp [results,Tryz.results114,go_sem]) rfl ?_;exact⟨none,0,rfl,Sl.nil,bz_⟩
section
variable(k:Nat) (hk:k<l.s.length) (hs:FramesIn w l.sA l.s) (hm: ∀f∈l.s,f.o.ps.length≤1048576) (hn:1≤l.n∧l.n≤1048576∧l.s.length≤8)
include k hk hs hm hn
theorem bfh_:
 Calls Tryz.prog 131 #[l.val,.int .i64 k] w (RetPacket w (packetD l k)):=by
 rw [pf_ l k hk];obtain⟨b,o,hA,hbs,g0,g1,g2,g3,g4,hop⟩:=hs.at_ hk;have hl:=hm _ (List.getElem_mem hk);generalize l.s[k]=f at*;obtain⟨fk,fh,fe,⟨fA,fc,fp⟩,fs⟩:=f;obtain⟨e,n,sA,sc,s,qA,qc,q,h⟩:=l;dsimp only at*;subst hA;have HC:=h_ (fun W hs=>dv_ W fk fh fe fA fc fp fs hs hl);have HP:=h_ hop;obtain⟨h1,h2,h3⟩:=hn;clear hop hl hs hm;go_enter Tryz.func131,Tryz.ntmps131
 go_wp2_with fail
 go_region_held3 (fun w'=>w'.cell? ⟨w.heap.size,0,none⟩=some (.int .i64 e)∧w'.cell? ⟨w.heap.size,1,none⟩=some (.int .i64 n)∧w'.cell? ⟨w.heap.size,2,none⟩=some (.slice (some ⟨b,o,none⟩) s.length sc)∧w'.cell? ⟨w.heap.size,4,none⟩=some (.int .i64 h)∧w'.cell? ⟨b,o+k*5,none⟩=some (.int .i64 fk)∧w'.cell? ⟨b,o+k*5+1,none⟩=some (.int .i64 fh)∧w'.cell? ⟨b,o+k*5+2,none⟩=some (.int .i64 fe)∧w'.cell? ⟨b,o+k*5+3,none⟩=some (.slice fA fp.length fc)∧w'.cell? ⟨b,o+k*5+4,none⟩=some (.string fs))
  (go_keep)
  ((first
    | (go_at_call 112;refine(HC.o _ ?_).mono ?_;exact Sl.la HP.o bz_;rintro r w2 ⟨A2,c2,rfl,ho2,hb2⟩;obtain⟨⟨d2,os2⟩,rfl⟩:=e_ hb2)))
 all_goals(
  go_wp2_with fail
  rw [bfg_ h1 h2 h3 hk];have hb2':=hb2;refine bodyPost_ret (v:=packetV e (n - s.length+k) false h fk fh fe A2 fp.length c2 fs) (by simp [results,Tryz.results131,go_sem]) rfl ?_;exact⟨A2,c2,rfl,ho2.mv fun b hb=>⟨by simp at hb⊢;omega,ds_ _ _ _ _ (by simp) hb.1⟩,bz_⟩)
theorem pe_:
 Calls Tryz.prog 134 #[l.val,.int .i64 k] w (RetPacket w (packetD l k)):=by
 rw [pf_ l k hk];obtain⟨b,o,hA,hbs,g0,g1,g2,g3,g4,hop⟩:=hs.at_ hk;have hl:=hm _ (List.getElem_mem hk);generalize l.s[k]=f at*;obtain⟨fk,fh,fe,⟨fA,fc,fp⟩,fs⟩:=f;obtain⟨e,n,sA,sc,s,qA,qc,q,h⟩:=l;dsimp only at*;subst hA;have HC:=h_ (fun W hs=>dk_ W fk fh fe fA fc fp fs hs hl);have HP:=h_ hop;obtain⟨h1,h2,h3⟩:=hn;clear hop hl hs hm;go_enter Tryz.func134,Tryz.ntmps134
 go_wp2_with fail
 refine(HC.o _ (Sl.la HP.o bz_)).mono ?_;rintro r w2 ⟨A2,c2,rfl,ho2,hb2⟩;have HL:=h_ (show LinkAt w2 w.heap.size ⟨e,n,some ⟨b,o,none⟩,sc,s,qA,qc,q,h⟩from(hb2.block _ (by simp)).trans ((q_ _ _ _ (by simp)).trans (heap_alloc_new _ _)));have HR:=h_ (show PacketAt w2 (w.heap.size+1) 0 0 false 0 0 0 0 none 0 0 ⟨#[]⟩from(hb2.block _ (by simp)).trans (by have h1:=heap_alloc_new (w.alloc (.cells #[.int .i64 e,.int .i64 n,.slice (some ⟨b,o,none⟩) s.length sc,.slice qA q.length qc,.int .i64 h] 58)) (.cells #[.int .i64 0,.int .i64 0,.bool false,.int .i64 0,.int .i64 0,.int .i64 0,.int .i64 0,.slice none 0 0,.string ⟨#[]⟩] 48);simpa using h1));have hz2:=hb2.size;simp at hz2;obtain⟨x0,x1,x2,x3,x4,_,_,_,_,_,hxz⟩:=a_ HL.o;obtain⟨y0,y1,y2,y3,y4,y5,y6,y7,y8,f0,f1,f2,f3,f4,f5,f6,f7,f8,hyz⟩:=n_ HR.o;have n1: ¬w.heap.size=w2.heap.size:=by omega
 have n2: ¬w2.heap.size=w.heap.size:=by omega
 have n3: ¬w.heap.size+1=w2.heap.size:=by omega
 have n4: ¬w2.heap.size=w.heap.size+1:=by omega
 go_wp2_with fail
 obtain⟨W9,hW9⟩:=q2_ ((((((((((w2.setCell ⟨w.heap.size+1,0,none⟩ (.int .i64 e)).setCell ⟨w.heap.size+1,1,none⟩ (.int .i64 (n - s.length+k))).setCell ⟨w.heap.size+1,2,none⟩ (.bool false)).setCell ⟨w.heap.size+1,3,none⟩ (.int .i64 h)).setCell ⟨w.heap.size+1,4,none⟩ (.int .i64 fk)).setCell ⟨w.heap.size+1,5,none⟩ (.int .i64 fh)).setCell ⟨w.heap.size+1,6,none⟩ (.int .i64 fe)).setCell ⟨w.heap.size+1,7,none⟩ (.slice A2 fp.length c2)).setCell ⟨w.heap.size+1,8,none⟩ (.string fs)));have hO:Only (w.heap.size+1) w2 W9:=by rw [hW9];exact(((((((q5_.trans q5_).trans q5_).trans q5_).trans q5_).trans q5_).trans q5_).trans q5_).trans q5_
 have hP9:PacketAt W9 (w.heap.size+1) e (n - s.length+k) false h fk fh fe A2 fp.length c2 fs:=by rw [hW9];exact bcq_ HR.o
 rw [←hW9];have hz9:=hO.size;have hB9:Below w.heap.size w W9:=(y_ (y_ hb2)).trans (hO.below (by omega) (by omega));refine u_ (fun G=>PacketAt G (w.heap.size+1) e (n - s.length+k) false h fk fh fe A2 fp.length c2 fs∧OpIn (fun b=>w.heap.size≤b∧b<G.heap.size) G A2 fp∧Below w.heap.size w G) ⟨(q_ _ _ _ (by omega)).trans hP9,ho2.mv fun b hb=>⟨?_,?_⟩,bAlloc hB9 _⟩ ?_
 ·simp at hb⊢;omega
 ·simp at hb;exact(q_ _ _ _ (by omega)).trans (hO.block _ hb.2 (by omega))
 rintro G ⟨hR4,hO4,hF4⟩;clear y0 y1 y2 y3 y4 y5 y6 y7 y8;obtain⟨y0,y1,y2,y3,y4,y5,y6,y7,y8,_,_,_,_,_,_,_,_,_,_⟩:=n_ hR4;refine bodyPost_ret (v:=packetV e (n - s.length+k) false h fk fh fe A2 fp.length c2 fs) (by simp [results,Tryz.results134,go_sem,y0,y1,y2,y3,y4,y5,y6,y7,y8]) rfl ?_;exact⟨A2,c2,rfl,hO4,hF4⟩
end
end
structure LinkD where
 e:Int
 n:Int
 s:List FrameD
 q:List FrameD
 h:Int
abbrev LinkV.d (l:LinkV):LinkD:=⟨l.e,l.n,l.s.map FrameV.d,l.q.map FrameV.d,l.h⟩
section
variable {L L':List FrameV}(h:L'.map FrameV.d=L.map FrameV.d)
include L L' h
theorem d_at{i:Nat}(hi:i<L.length)(hi':i<L'.length):L'[i].d=L[i].d:=by
 have:=congrArg (fun l=>l[i]?) h;simpa [hi,hi']using this
theorem os_(hk:framesOk L):framesOk L':=by
 intro i hi;have hl:L'.length=L.length:=by rw [←List.length_map (f:=FrameV.d),h,List.length_map]
 rw [d_at h (hl ▸ hi) hi];exact hk i (hl ▸ hi)
end
theorem gt_{l l':LinkV}(h:l'.d=l.d)(hk:linkMay l):linkMay l':=by
 obtain⟨e,n,sA,sc,s,qA,qc,q,hd⟩:=l;obtain⟨e',n',sA',sc',s',qA',qc',q',hd'⟩:=l';simp only [LinkV.d,LinkD.mk.injEq]at h;obtain⟨rfl,rfl,h1,h2,rfl⟩:=h;have l1:s'.length=s.length:=by rw [←List.length_map (f:=FrameV.d),h1,List.length_map]
 have l2:q'.length=q.length:=by rw [←List.length_map (f:=FrameV.d),h2,List.length_map]
 obtain⟨k1,k2,⟨k3,k4⟩,k5⟩:=hk;refine⟨k1,?_,⟨os_ h1 k3,os_ h2 k4⟩,?_⟩
 ·unfold linkLens at k2⊢;dsimp only at k2⊢;rw [l1,l2];exact k2
 ·unfold linkNone at k5⊢;dsimp only at k5⊢;rw [l1];exact k5
theorem be_{L L':List FrameV}(h:L'.map FrameV.d=L.map FrameV.d)(hk: ∀f∈L,f.Small): ∀f∈L',f.Small:=by
 intro f hf;have:f.d∈L.map FrameV.d:=by rw [←h];exact List.mem_map.2 ⟨f,hf,rfl⟩
 obtain⟨g,hg,e⟩:=List.mem_map.1 this;obtain⟨⟨o1,o2⟩,o3⟩:=hk g hg;obtain⟨fk,fh,fe,⟨fA,fc,fp⟩,fs⟩:=f;obtain⟨gk,gh,ge,⟨gA,gc,gp⟩,gs⟩:=g;simp only [FrameV.d,FrameD.mk.injEq]at e;obtain⟨_,_,_,rfl,rfl⟩:=e;exact⟨⟨o1,o2⟩,o3⟩
theorem LinkV.Small.of_d{l l':LinkV}(h:l'.d=l.d)(hk:l.Small):l'.Small:=by
 simp only [LinkV.d,LinkD.mk.injEq]at h;obtain⟨_,_,h1,h2,_⟩:=h;exact⟨by rw [←List.length_map (f:=FrameV.d),h1,List.length_map];exact hk.sl,by rw [←List.length_map (f:=FrameV.d),h2,List.length_map];exact hk.ql,be_ h1 hk.s,be_ h2 hk.q⟩
structure SideD where
 p:Int
 j:Bool
 s:Int
 h:Int
 L:List (List PartD)
 k:LinkD
abbrev SideV.d (x:SideV):SideD:=⟨x.p,x.j,x.s,x.h,x.L.map OpV.ps,x.k.d⟩
structure NodeD where
 me:Int
 ep:Int
 up:Int
 rd:Bool
 t:ByteArray
 S:List SideD
 U:List (List PartD)
 M:List (Int × Int)
abbrev NodeV.d (n:NodeV):NodeD:=⟨n.me,n.ep,n.up,n.rd,n.t,n.S.map SideV.d,n.U.map OpV.ps,n.M⟩
theorem sd_at{L L':List SideV}(h:L'.map SideV.d=L.map SideV.d){i:Nat}(hi:i<L.length)(hi':i<L'.length):L'[i].d=L[i].d:=by
 have:=congrArg (fun l=>l[i]?) h;simpa [hi,hi']using this
structure SideV.Mid (x:SideV):Prop where
 len:x.L.length≤1048577
 ops: ∀o∈x.L,o.ps.length≤1048576
 link:x.k.s.length≤1048577∧x.k.q.length≤1048577
 frames:(∀f∈x.k.s,f.o.ps.length≤1048576)∧ ∀f∈x.k.q,f.o.ps.length≤1048576
structure NodeV.Mid (n:NodeV):Prop where
 sl:n.S.length≤1048577
 sides: ∀x∈n.S,x.Mid
 ul:n.U.length≤1048577
 undo: ∀o∈n.U,o.ps.length≤1048576
 ml:n.M.length≤1048577
theorem SideV.Small.mid{x:SideV}(h:x.Small):x.Mid:=⟨Nat.le_trans h.len (by decide),fun o ho=>(h.ops o ho).len,⟨Nat.le_trans h.link.sl (by decide),Nat.le_trans h.link.ql (by decide)⟩,⟨fun f hf=>(h.link.s f hf).op.len,fun f hf=>(h.link.q f hf).op.len⟩⟩
theorem NodeV.Small.mid{n:NodeV}(h:n.Small):n.Mid:=⟨Nat.le_trans h.sl (by decide),fun x hx=>(h.sides x hx).mid,Nat.le_trans h.ul (by decide),fun o ho=>(h.undo o ho).len,Nat.le_trans h.ml (by decide)⟩
structure SideV.InS (S:Nat→Prop) (w:World) (x:SideV):Prop where
 ops:Sl S w 1 x.A x.L.length (x.L.map OpV.val)
 op: ∀o∈x.L,OpIn S w o.A o.ps
 s:Sl S w 5 x.k.sA x.k.s.length (x.k.s.flatMap FrameV.cells)
 so: ∀f∈x.k.s,OpIn S w f.o.A f.o.ps
 q:Sl S w 5 x.k.qA x.k.q.length (x.k.q.flatMap FrameV.cells)
 qo: ∀f∈x.k.q,OpIn S w f.o.A f.o.ps
theorem SideV.InS.mv{S S':Nat→Prop}{w w':World}{x:SideV}(h:x.InS S w)(k: ∀b,S b→S' b∧w'.heap[b]?=w.heap[b]?):x.InS S' w':=
 ⟨h.ops.mv k,fun o ho=>(h.op o ho).mv k,h.s.mv k,fun f hf=>(h.so f hf).mv k,h.q.mv k,fun f hf=>(h.qo f hf).mv k⟩
theorem SideV.InS.in_{S:Nat→Prop}{w:World}{x:SideV}(h:x.InS S w)(k: ∀b,S b→b<w.heap.size):x.In w:=by
 have h':=h.mv (S':=(· <w.heap.size)) fun b hb=>⟨k b hb,rfl⟩
 exact⟨⟨h'.ops,h'.op⟩,⟨⟨h'.s,h'.so⟩,⟨h'.q,h'.qo⟩⟩⟩
structure SidesOwn (w:World) (base:Nat) (A:OA_) (c:Nat) (L:List SideV):Prop where
 row:w.ownsRow base 60 10 (.slice A L.length c) L.length (L.flatMap SideV.cells)
 each: ∀x∈L,x.InS (fun b=>(base≤b∧b<w.heap.size)∧(Value.slice A L.length c).ownBlock≠some b) w
theorem SidesOwn.kept{w w':World}{base:Nat}{A:Option Addr}{c:Nat}{L:List SideV}(h:SidesOwn w base A c L)(hs:w.heap.size≤w'.heap.size)(hk: ∀b,base≤b→b<w.heap.size→w'.heap[b]?=w.heap[b]?):SidesOwn w' base A c L:=by
 exact m142_
theorem SidesOwn.nil(w:World)(base:Nat):SidesOwn w base none 0 []:=⟨World.ownsRow_nil _ _ _ _,by simp⟩
theorem SidesOwn.push{wr W2 w3:World}{base:Nat}{Ao A':Option Addr}{co c':Nat}{L:List SideV}{x:SideV}{o:Obj}(hO:SidesOwn wr base Ao co L)(hbs:base≤wr.heap.size)(hW: ∀b,base≤b→b<wr.heap.size→W2.heap[b]?=wr.heap[b]?)(hz:wr.heap.size≤W2.heap.size)
 (hx:x.InS (fun b=>wr.heap.size≤b∧b<W2.heap.size) W2) (hg:(W2.alloc o).grownBy w3 (Value.slice Ao L.length co).ownBlock)
 (hown:w3.ownsRow base 60 10 (.slice A' (L.length+1) c') (L.length+1) (L.flatMap SideV.cells++x.cells))
 (hat:(Value.slice A' (L.length+1) c').ownBlock=(Value.slice Ao L.length co).ownBlock∨(Value.slice A' (L.length+1) c').ownBlock=some (W2.alloc o).heap.size):SidesOwn w3 base A' c' (L++ [x]):=by
 have vCG:=h_ trivial;exact m131_
theorem kj_(w:World)(A:OA_)(c:Nat)(L:List FrameV)(hs:FramesIn w A L)(hl:L.length≤1048576)(hm: ∀f∈L,f.o.ps.length≤1048576):
 Calls Tryz.prog 91 #[.slice A L.length c] w (RetFrames w (L.map FrameV.d)):=by
 obtain⟨i0,hi,hz0,hz1,hz2⟩:=info_parts infoFrame;have HS:=h_ hs;have HM:=h_ hm;clear hs hm;go_enter Tryz.func91,Tryz.ntmps91
 go_wp2_with fail
 go_loopw [3,8] (fun out i wr=> ∃(k:Nat) (L':List FrameV) (Ao:OA_) (co:Nat),k≤L.length∧i= .int .i64 k∧Hid (L'.length=k)∧out= .slice Ao L'.length co∧Hid (L'.map FrameV.d=(L.take k).map FrameV.d)∧Hid (FramesOwn wr w.heap.size Ao co L')∧Hid (Below w.heap.size w wr)) (fun _ i _=>L.length - (intOf i).toNat)
 case atStart=>exact⟨0,[],none,0,Nat.zero_le _,rfl,rfl,rfl,rfl,RowOwn.nil _ _,Below.refl _ _⟩
 case round=>
  obtain⟨k,L',Ao,co,hk,rfl,hL',rfl,hps,HO,HB⟩:=hrel;by_cases hlt:k<L.length
  ·obtain⟨b,o,rfl,hbs,g0,g1,g2,g3,g4,hop⟩:=(FramesIn.la HS.o HB.o).at_ hlt;have hsm:=HM.o _ (List.getElem_mem hlt);have HT:=h_ (show(L.take (k+1)).map FrameV.d=(L.take k).map FrameV.d++ [L[k].d] by rw [List.take_succ_eq_append_getElem hlt,List.map_append];rfl);have hki:(k:Int)<(L.length:Int):=(by omega);generalize L[k]=q at*;obtain⟨fk,fh,fe,⟨fA,fc,fp⟩,fs⟩:=q;dsimp only at g0 g1 g2 g3 g4 hop hsm HT;have HC:=h_ (fun W hs=>dj_ W fA fc fp hs hsm);have HOP:=h_ hop;have hsz:=HB.o.size;clear hop hsm;obtain⟨WX,hWX⟩:=q2_ (wr.alloc (.cells #[.int .i64 fk,.int .i64 fh,.int .i64 fe,.slice fA fp.length fc,.string fs] 46));have HF0:=h_ (show FrameAt WX wr.heap.size fk fh fe fA fp.length fc fs by rw [hWX];show(wr.heap.push _)[wr.heap.size]?=_;simp);have HBX:=h_ (show Below wr.heap.size wr WX by rw [hWX];exact bA_);have hzX:WX.heap.size=wr.heap.size+1:=(by rw [hWX];simp);have HW:=h_ hWX.symm;clear hWX;go_wp2_with fail
   rw [HW.o];refine(HC.o _ (Sl.la HOP.o HBX.o)).mono ?_;rintro e w2 ⟨A2,c2,rfl,ho2,hb2⟩;obtain⟨x0,x1,x2,x3,x4,f0,f1,f2,f3,f4,xz⟩:=a_ ((hb2.block _ (by omega)).trans HF0.o);obtain⟨X,hX⟩:=q2_ (wr.heap.size);rw [←hX]at x0 x1 x2 x3 x4 f0 f1 f2 f3 f4 xz;have hF2w:FrameAt w2 X fk fh fe fA fp.length fc fs:=(by rw [hX];exact(hb2.block _ (by omega)).trans HF0.o);have HF2:=h_ (show FrameAt (w2.setCell ⟨X,3,none⟩ (.slice A2 fp.length c2)) X fk fh fe A2 fp.length c2 fs from f_ 3 _ hF2w);have HB2:=h_ (show Below wr.heap.size wr (w2.setCell ⟨X,3,none⟩ (.slice A2 fp.length c2))from bSet (HBX.o.trans (hb2.mono HBX.o.size)) (p:=⟨X,3,none⟩) (by show wr.heap.size≤X;omega) _);have hzw2:=hb2.size;have HO2:=h_ (show OpIn (fun b=>wr.heap.size≤b∧b<(w2.setCell ⟨X,3,none⟩ (.slice A2 fp.length c2)).heap.size) (w2.setCell ⟨X,3,none⟩ (.slice A2 fp.length c2)) A2 fp from(Sl.of_own _ ho2).mv fun b hb=>⟨⟨by omega,by simp [World.setCell];exact hb.2⟩,bH_ (by show b≠X;omega)⟩);rw [←hX];have hwX:w.heap.size≤X:=(by omega);clear ho2 hb2 hX hF2w;go_wp2_with(refine bb_ rfl ?_)
   refine⟨?_⟩;have HX:=h_ ((RowOwn.la HO.o HB2.o).row.alloc (.cells #[.int .i64 fk,.int .i64 fh,.int .i64 fe,.slice A2 fp.length c2,.string fs] 46));refine l_ _ rfl _ _ 56 rfl w.heap.size 46 i0 (.agg #[.int .i64 0,.int .i64 0,.int .i64 0,.slice none 0 0,.string ⟨#[]⟩]) 5 64 Tryz.underlying56 hi hz0 hz1 hz2 rfl (by decide) _ _ _ rfl HX.o (fun _=>True) _ _ _ _ rfl (bl_ (by rfl) (by simp)) ?c1 ?c2 ?c3 ?c4 ?_
   case c1=>intro u hu;simp at hu;rcases hu with rfl | rfl | rfl | rfl | rfl <;> rfl
   case c2=>have:=hL'.o;unfold maxLen;omega
   case c3=>have:=hL'.o;omega
   case c4=>have:=HB2.o.size;simp at this⊢;omega
   intro A' c' w3 hown' hgrow hat;have HP:=h_ (RowOwn.push (f:=FrameV.cells) (op:=FrameV.o) (x:=⟨fk,fh,fe,⟨A2,c2,fp⟩,fs⟩) HO.o hsz HB2.o HO2.o hgrow hown' hat);have HF:=h_ (bm_ HB.o HB2.o hgrow (fun g hg=>(HO.o.row.lt g hg).1));have HLN:=h_ (show(L'++ [(⟨fk,fh,fe,⟨A2,c2,fp⟩,fs⟩:FrameV)]).length=L'.length+1 by simp);clear hown' hgrow hat x0 x1 x2 x3 x4 f0 f1 f2 f3 f4 xz;go_wp2_with fail
   go_roundw
   case rel=>exact⟨k+1,L'++ [⟨fk,fh,fe,⟨A2,c2,fp⟩,fs⟩],A',c',by omega,by go_num,h_ (by rw [HLN.o,hL'.o]),by rw [HLN.o],h_ (by rw [List.map_append,hps.o,HT.o];rfl),HP,HF⟩
   case measure=>simp [intOf];omega
  ·obtain rfl:k=L.length:=(by omega);have HPP:=h_ (show L'.map FrameV.d=L.map FrameV.d by rw [hps.o,List.take_length]);go_wp2_with fail
   go_ret
   exact⟨Ao,co,L',rfl,HPP.o,HO.o,HB.o⟩
def RetOps (w:World) (D:List (List PartD)) (e:Ending) (w':World):Prop:=
 ∃A c L,e= .returned (.slice A L.length c)∧L.map OpV.ps=D∧OpsOwn w' w.heap.size A c L∧Below w.heap.size w w'
section
variable(w:World) (A:OA_) (c:Nat) (L:List OpV) (hs:OpsIn w A L) (hl:L.length≤1048576) (hm: ∀o∈L,o.ps.length≤1048576)
include w A c L hs hl hm
theorem sb_:
 Calls Tryz.prog 90 #[.slice A L.length c] w (RetOps w (L.map OpV.ps)):=by
 exact m31_
theorem sf_:
 Calls Tryz.prog 16 #[.slice A L.length c] w (RetOps w (L.map OpV.ps)):=by
 have vAV:=h_ trivial;exact m31_
end
theorem infoMark:(Tryz.prog.info? 53).map (fun i=>(i.zero,i.size,i.bytes))=some (some (.agg #[.int .i64 0,.int .i64 0]),2,16):=by kernel_rfl
theorem bff_(M:List (Int × Int)): ∀u∈M.flatMap markCells,u.oneCell'=true:=by
 intro u hu;obtain⟨m,_,hm⟩:=List.mem_flatMap.1 hu;simp only [markCells,List.mem_cons,List.not_mem_nil,or_false]at hm;rcases hm with rfl | rfl <;> rfl
def RetMarks (w:World) (M:List (Int × Int)) (e:Ending) (w':World):Prop:=
 ∃A c,e= .returned (.slice A M.length c)∧w'.ownsRow w.heap.size 53 2 (.slice A M.length c) M.length (M.flatMap markCells)∧Below w.heap.size w w'
theorem tm_(w:World)(A:OA_)(c:Nat)(M:List (Int × Int))(hs:MarksIn w A M)(hm:M.length≤1048576):
 Calls Tryz.prog 89 #[.slice A M.length c] w (RetMarks w M):=by
 obtain⟨i0,hi,hz0,hz1,hz2⟩:=info_parts infoMark;rcases A with _ | ad
 ·have hb:M= []:=by
   rcases Nat.eq_zero_or_pos M.length with h | h
   ·exact List.eq_nil_of_length_eq_zero h
   ·obtain⟨_,_,h,_⟩:=hs.2 h;cases h
  subst hb;have hnil:=fun wx=>Lib.run_eql_slice_nil (P:=Tryz.prog) wx 26 53 none 0 c 0 0 Tryz.underlying26;go_enter Tryz.func89,Tryz.ntmps89
  go_wp2
  go_ret
  exact⟨none,0,by simp,World.ownsRow_nil _ _ _ _,Below.refl _ _⟩
 ·have hnil:=fun wx=>Lib.run_eql_slice_nil (P:=Tryz.prog) wx 26 53 (some ad) M.length c 0 0 Tryz.underlying26;go_enter Tryz.func89,Tryz.ntmps89
  go_wp2_with(at_builtin;refine l_ _ rfl _ _ 26 rfl w.heap.size 53 i0 (.agg #[.int .i64 0,.int .i64 0]) 2 16 Tryz.underlying26 hi hz0 hz1 hz2 rfl (by decide) _ _ _ rfl (World.ownsRow_lit w #[] 0 (Nat.le_refl _) (by unfold maxLen;omega) rfl) _ _ _ _ _ rfl (hs.la bA_) (bff_ M) ?c1 ?c2 ?c3 ?_)
  case c1=>unfold maxLen;omega
  case c2=>omega
  case c3=>simp
  intro A' c' w1 hown hgrow hat;go_wp2
  go_ret
  exact⟨A',c',by simp,hown,bA_.grown hgrow (by simp) (fun k hk=>by simp [Value.ownBlock]at hk;omega)⟩
structure LinkInS (S:Nat→Prop) (w:World) (l:LinkV):Prop where
 s:Sl S w 5 l.sA l.s.length (l.s.flatMap FrameV.cells)
 so: ∀f∈l.s,OpIn S w f.o.A f.o.ps
 q:Sl S w 5 l.qA l.q.length (l.q.flatMap FrameV.cells)
 qo: ∀f∈l.q,OpIn S w f.o.A f.o.ps
theorem LinkInS.mv{S S':Nat→Prop}{w w':World}{l:LinkV}(h:LinkInS S w l)(k: ∀b,S b→S' b∧w'.heap[b]?=w.heap[b]?):LinkInS S' w' l:=
 ⟨h.s.mv k,fun f hf=>(h.so f hf).mv k,h.q.mv k,fun f hf=>(h.qo f hf).mv k⟩
theorem LinkInS.of{w:World}{B b1 b2:Nat}{e n h:Int}{sA qA:Option Addr}{sc qc:Nat}{s q:List FrameV}(h1:FramesOwn w b1 sA sc s)(k1:B≤b1)(h2:FramesOwn w b2 qA qc q)(k2:B≤b2):LinkInS (fun b=>B≤b∧b<w.heap.size) w ⟨e,n,sA,sc,s,qA,qc,q,h⟩:=
 ⟨(Sl.of_own _ h1.row).mv fun b hb => ⟨⟨by omega, hb.2⟩, rfl⟩, fun f hf => (h1.each f hf).mv fun b hb => ⟨⟨by omega, hb.1.2⟩, rfl⟩,
   (Sl.of_own _ h2.row).mv fun b hb=>⟨⟨by omega,hb.2⟩,rfl⟩,fun f hf=>(h2.each f hf).mv fun b hb=>⟨⟨by omega,hb.1.2⟩,rfl⟩⟩
def RetLinkS (w:World) (d:LinkD) (e:Ending) (w':World):Prop:=
 ∃l:LinkV,e= .returned l.val∧l.d=d∧LinkInS (fun b=>w.heap.size≤b∧b<w'.heap.size) w' l∧Below w.heap.size w w'
theorem zh_(w:World)(l:LinkV)(hi:l.In w)(hm:l.Small):Calls Tryz.prog 18 #[l.val] w (RetLinkS w l.d):=by
 exact m37_
structure OwnsAt (w:World) (base size:Nat) (A:OA_) (n c:Nat) (xs:List Value):Prop where
 len:xs.length=n*size
 cap:n≤c∧c≤maxLen
 at_:(A=none∧c=0)∨ ∃g o,A=some ⟨g,o,none⟩∧base≤g∧g<w.heap.size∧(∀j,j<c*size→(w.cell? ⟨g,o+j,none⟩).isSome=true∧w.frozen? ⟨g,o+j,none⟩=false)∧ ∀j u,xs[j]?=some u→w.cell? ⟨g,o+j,none⟩=some u
theorem OwnsAt.of_row{w:World}{base size n c:Nat}{e:TypeId}{A:Option Addr}{xs:List Value}(h:w.ownsRow base e size (.slice A n c) n xs):OwnsAt w base size A n c xs:=by
 refine⟨h.1,?_,?_⟩
 ·rcases h.2 with⟨e1,e2⟩ | ⟨g,cap,cur,e1,_,_,h3,h4,_⟩
  ·injection e1 with _ _ e4
   subst e4;subst e2;exact⟨Nat.le_refl _,by unfold maxLen;omega⟩
  ·injection e1 with _ _ e4
   subst e4;exact⟨h3,h4⟩
 ·rcases h.2 with⟨e1,e2⟩ | ⟨g,cap,cur,e1,hb,hg,h3,h4,h5,h6⟩
  ·injection e1 with e3 _ e4
   exact .inl ⟨e3,e4⟩
  ·injection e1 with e3 _ e4
   subst e3;subst e4;refine .inr ⟨g,0,rfl,hb,(Array.getElem?_eq_some_iff.1 hg).1,fun j hj=>⟨?_,by simp [World.frozen?,hg]⟩,fun j u hu=>?_⟩
   ·simp [World.cell?,hg,h5,hj]
   ·have:=h.cells (g:=g) rfl j u hu;rwa [Go.WideShapes.add_plain]at this
theorem OwnsAt.kept{w w':World}{base size n c:Nat}{A:Option Addr}{xs:List Value}(h:OwnsAt w base size A n c xs)(hs:w.heap.size≤w'.heap.size)(hk: ∀g,(Value.slice A n c).ownBlock=some g→w'.heap[g]?=w.heap[g]?):OwnsAt w' base size A n c xs:=by
 refine⟨h.len,h.cap,h.at_.imp id fun⟨g,o,e,hb,hg,hc,hx⟩=>?_⟩;subst e;have hq:=hk g rfl;refine⟨g,o,rfl,hb,by omega,fun j hj=>?_,fun j u hu=>(World.cell?_of_block (w:=w) (a:=⟨g,o+j,none⟩) hq).trans (hx j u hu)⟩;rw [World.cell?_of_block (w:=w) (a:=⟨g,o+j,none⟩) hq,World.frozen?_of_block (w:=w) (a:=⟨g,o+j,none⟩) hq];exact hc j hj
section
variable {w:World}{base size n c:Nat}{A:Option Addr}{xs:List Value}(h:OwnsAt w base size A n c xs)
include w base size n c A xs h
theorem OwnsAt.lt{g:Nat}(hg:(Value.slice A n c).ownBlock=some g):base≤g∧g<w.heap.size:=by
 rcases h.at_ with⟨rfl,_⟩ | ⟨g',o,rfl,hb,hl,_⟩
 ·cases hg
 ·cases hg;exact⟨hb,hl⟩
theorem OwnsAt.sl:Sl (fun b=>(Value.slice A n c).ownBlock=some b∧b<w.heap.size) w size A n xs:=by
 refine⟨h.len,fun hn=>?_⟩;rcases h.at_ with⟨_,hc⟩ | ⟨g,o,rfl,_,hl,_,hx⟩
 ·have:=h.cap.1;omega
 ·exact⟨g,o,rfl,⟨rfl,hl⟩,hx⟩
end
theorem OwnsAt.mono{w:World}{base base' size n c:Nat}{A:Option Addr}{xs:List Value}(h:OwnsAt w base size A n c xs)(hb:base'≤base):OwnsAt w base' size A n c xs:=
 ⟨h.len,h.cap,h.at_.imp id fun⟨g,o,e,h1,rest⟩=>⟨g,o,e,Nat.le_trans hb h1,rest⟩⟩
theorem OwnsAt.drop{w:World}{base size n c k:Nat}{A:Option Addr}{xs:List Value}(h:OwnsAt w base size A n c xs)(hk:k≤n):OwnsAt w base size (A.map (fun x=>x.add (k*size))) (n - k) (c - k) (xs.drop (k*size)):=by
 have hcap:=h.cap;refine⟨by rw [List.length_drop,h.len,Nat.sub_mul],⟨by omega,by omega⟩,?_⟩;rcases h.at_ with⟨rfl,hc⟩ | ⟨g,o,rfl,hb,hl,hc,hx⟩
 ·exact .inl ⟨rfl,by omega⟩
 ·refine .inr ⟨g,o+k*size,by simp [Addr.add],hb,hl,fun j hj=>?_,fun j u hu=>?_⟩
  ·rw [Nat.add_assoc];refine hc _ ?_;have:(c - k)*size=c*size - k*size:=Nat.sub_mul _ _ _;have h2:k*size≤c*size:=Nat.mul_le_mul_right _ (by omega);omega
  ·rw [List.getElem?_drop]at hu;rw [Nat.add_assoc];exact hx _ u hu
theorem OwnsAt.gone{w:World}{base size n c:Nat}{A:Option Addr}{xs:List Value}(h:OwnsAt w base size A n c xs):OwnsAt w base size A 0 0 []:=
 ⟨by simp,⟨Nat.le_refl _,by unfold maxLen;omega⟩,h.at_.imp (fun⟨e,_⟩=>⟨e,rfl⟩) fun⟨g,o,e,hb,hl,_⟩=>⟨g,o,e,hb,hl,fun j hj=>by omega,fun j u hu=>by simp at hu⟩⟩
theorem iw_(b:Nat): ∀(vs:List Value) (o:Nat) (w:World),(w.setCells b o vs).os=w.os∧(w.setCells b o vs).tape=w.tape∧(w.setCells b o vs).output=w.output∧(w.setCells b o vs).heap.size=w.heap.size∧ ∀k,k≠b→(w.setCells b o vs).heap[k]?=w.heap[k]?
 | [],_,_=>⟨rfl,rfl,rfl,rfl,fun _ _=>rfl⟩
 | v :: r,o,w=>by
  obtain⟨h1,h2,h3,h4,h5⟩:=iw_ b r (o+1) (w.setCell ⟨b,o,none⟩ v);rw [World.setCells];exact⟨h1,h2,h3,by rw [h4];simp [World.setCell],fun k hk=>(h5 k hk).trans (bH_ hk)⟩
section
variable {P:Program}(w:World)
theorem ti_(base:Nat)(t ty e:TypeId)(i:TypeInfo)(z:Value)(size bytes:Nat)(ht:P.underlying t=some (.slice e))(hi:P.info? e=some i)(hz:i.zero=some z)
 (hsize:i.size=size) (hby:i.bytes=bytes) (hzs:z.cells.size=size) (hsz:0<size)
 (A:OA_) (n cap:Nat) (xs:List Value) (hown:OwnsAt w base size A n cap xs)
 (a:Addr) (m c:Nat) (news:List Value) (hl:news.length=m*size) (hnews: ∀j u,news[j]?=some u→w.cell? (a.add j)=some u) (h1: ∀u∈news,u.oneCell'=true)
 (hm:0<m) (h63:n+m≤maxLen) (hbytes:(n+m)*bytes≤140737488355328) (hbase:base≤w.heap.size):
 ∃A' c' w',(Builtin.append_ #[t,t] ty #[.slice A n cap,.slice (some a) m c]).run P w= .ok (.slice A' (n+m) c') w'∧OwnsAt w' base size A' (n+m) c' (xs++news)∧w.grownBy w' (Value.slice A n cap).ownBlock∧
  ((Value.slice A' (n+m) c').ownBlock=(Value.slice A n cap).ownBlock∨ ∃g,(Value.slice A' (n+m) c').ownBlock=some g∧w.heap.size≤g):=by
 have hlen:(xs++news).length=(n+m)*size:=by rw [List.length_append,hown.len,hl,Nat.add_mul]
 rcases hown.at_ with⟨rfl,rfl⟩ | ⟨g,o,rfl,hb,hgl,hc,hx⟩
 ·have hn0:n=0:=by have:=hown.cap.1;omega
  subst hn0;have hx0:xs= []:=List.eq_nil_of_length_eq_zero (by have:=hown.len;simpa using this);subst hx0;obtain⟨v',w',hr,h2,h3,_,h5⟩:=run_append_own_at (P:=P) w base t ty e i z size bytes ht hi hz hsize hby hzs hsz (.slice none 0 0) 0 [] (World.ownsRow_nil _ _ _ _) a m c news hl hnews h1 h63 hbytes hbase;obtain⟨g,cap',rfl,_,_⟩:=h2.form (by omega);exact⟨_,_,w',hr,OwnsAt.of_row h2,h3,h5.imp id fun q=>⟨_,q,Nat.le_refl _⟩⟩
 ·by_cases hroom:n+m≤cap
  ·subst hsize;have hr:=run_append_room_cells (P:=P) w t ty e i ht hi g o n cap a m c news hl hnews h1 hroom
    (fun j hj=>by rw [Nat.add_assoc];refine(hc _ ?_).1;have:(n+m)*i.size≤cap*i.size:=Nat.mul_le_mul_right _ hroom;rw [Nat.add_mul]at this;omega)
    (fun j hj=>by rw [Nat.add_assoc];refine(hc _ ?_).2;have:(n+m)*i.size≤cap*i.size:=Nat.mul_le_mul_right _ hroom;rw [Nat.add_mul]at this;omega)
   obtain⟨q1,q2,q3,q4,q5⟩:=iw_ g news (o+n*i.size) w;refine⟨_,_,_,hr,⟨hlen,⟨hroom,hown.cap.2⟩,.inr ⟨g,o,rfl,hb,by rw [q4];exact hgl,fun j hj=>⟨?_,?_⟩,fun j u hu=>?_⟩⟩,⟨q1,q2,q3,by rw [q4];exact Nat.le_refl _,fun k _ hk=>q5 k (fun e1=>hk (by simp [Value.ownBlock,e1]))⟩,.inl rfl⟩
   ·by_cases hin:n*i.size≤j∧j<n*i.size+news.length
    ·have h9:=World.cell?_setCells_in g news (o+n*i.size) w (fun j hj=>by rw [Nat.add_assoc];refine(hc _ ?_).1;have:(n+m)*i.size≤cap*i.size:=Nat.mul_le_mul_right _ hroom;rw [Nat.add_mul]at this;omega) (j - n*i.size) (by omega);rw [show o+n*i.size+(j - n*i.size)=o+j by omega]at h9;rw [h9];rfl
    ·rw [World.cell?_setCells_out g news (o+n*i.size) w ⟨g,o+j,none⟩ (fun _ _=>by show o+j<_∨_≤o+j;omega)];exact(hc j hj).1
   ·rw [World.frozen?_setCells];exact(hc j hj).2
   ·rcases Nat.lt_or_ge j (n*i.size)with hj | hj
    ·rw [World.cell?_setCells_out g news (o+n*i.size) w ⟨g,o+j,none⟩ (fun _ _=>by show o+j<_∨_≤o+j;omega)];rw [List.getElem?_append_left (by rw [hown.len];exact hj)]at hu;exact hx j u hu
    ·rw [List.getElem?_append_right (by rw [hown.len];exact hj),hown.len]at hu;have hjl:j - n*i.size<news.length:=(List.getElem?_eq_some_iff.1 hu).1;have h9:=World.cell?_setCells_in g news (o+n*i.size) w (fun j hj=>by rw [Nat.add_assoc];refine(hc _ ?_).1;have:(n+m)*i.size≤cap*i.size:=Nat.mul_le_mul_right _ hroom;rw [Nat.add_mul]at this;omega) (j - n*i.size) hjl;rw [show o+n*i.size+(j - n*i.size)=o+j by omega]at h9;rw [h9,←hu,List.getElem?_eq_getElem hjl]
  ·obtain⟨v',w',hr,h2,h3⟩:=run_append_arg_grows (P:=P) w t ty e i z size bytes ht hi hz hsize hby hzs hsz ⟨g,o,none⟩ n cap xs hown.len (fun j u hu=>by rw [Go.WideShapes.add_plain];exact hx j u hu) a m c news hl hnews (by omega) h63 hbytes;obtain⟨g',cap',rfl,hg1,hg2⟩:=h2.form (by omega);exact⟨_,_,w',hr,(OwnsAt.of_row h2).mono hbase,⟨h3.os,h3.tape,h3.output,h3.size,fun k hk _=>h3.block k hk (by simp)⟩,.inr ⟨g',rfl,hg1⟩⟩
theorem wr_{o:Oper}{a:Act}{K:Act→World→Prop}{Q:Exit→Act→World→Prop}(s x:Operand)(t:TypeId)
 (ho:o.op= .call { callee:= .builtin .append,args:= #[s,x],argTypes:= #[t,t] })
 (base:Nat) (e:TypeId) (i:TypeInfo) (z:Value) (size bytes:Nat) (ht:P.underlying t=some (.slice e)) (hi:P.info? e=some i) (hz:i.zero=some z)
 (hsize:i.size=size) (hby:i.bytes=bytes) (hzs:z.cells.size=size) (hsz:0<size)
 (A:OA_) (n cap:Nat) (xs:List Value) (hs:a.eval s= .slice A n cap) (hown:OwnsAt w base size A n cap xs)
 (S:Nat→Prop) (B:OA_) (m c:Nat) (news:List Value) (hx:a.eval x= .slice B m c) (hr:Sl S w size B m news) (h1: ∀u∈news,u.oneCell'=true)
 (hm:0<m) (h63:n+m≤maxLen) (hbytes:(n+m)*bytes≤140737488355328) (hbase:base≤w.heap.size)
 (h: ∀A' c' w',OwnsAt w' base size A' (n+m) c' (xs++news)→w.grownBy w' (Value.slice A n cap).ownBlock→((Value.slice A' (n+m) c').ownBlock=(Value.slice A n cap).ownBlock∨ ∃g,(Value.slice A' (n+m) c').ownBlock=some g∧w.heap.size≤g)→K (a.put o.dst (.slice A' (n+m) c')) w'):o.wp P a w K Q:=by
 obtain⟨b,k,rfl,_,hc⟩:=hr.2 hm;obtain⟨A',c',w',hrun,h2,h3,h4⟩:=ti_ (P:=P) w base t o.type e i z size bytes ht hi hz hsize hby hzs hsz A n cap xs hown ⟨b,k,none⟩ m c news hr.1 (fun j u hu=>by rw [Go.WideShapes.add_plain];exact hc j u hu) h1 hm h63 hbytes hbase;exact m254_
theorem qz_{ops:Array Oper}{o:Oper}{a:Act}{K:Act→World→Prop}{Q:Exit→Act→World→Prop}{E:Prop}(hgd:o.guard=none)(s x:Operand)(t:TypeId)
 (ho:o.op= .call { callee:= .builtin .append,args:= #[s,x],argTypes:= #[t,t] })
 (base:Nat) (e:TypeId) (i:TypeInfo) (z:Value) (size bytes:Nat) (ht:P.underlying t=some (.slice e)) (hi:P.info? e=some i) (hz:i.zero=some z)
 (hsize:i.size=size) (hby:i.bytes=bytes) (hzs:z.cells.size=size) (hsz:0<size)
 (A:OA_) (n cap:Nat) (xs:List Value) (hs:a.eval s= .slice A n cap) (hown:OwnsAt w base size A n cap xs)
 (S:Nat→Prop) (B:OA_) (m c:Nat) (news:List Value) (hx:a.eval x= .slice B m c) (hr:Sl S w size B m news) (h1: ∀u∈news,u.oneCell'=true)
 (hm:0<m) (h63:n+m≤maxLen) (hbytes:(n+m)*bytes≤140737488355328) (hbase:base≤w.heap.size)
 (h: ∀A' c' w',OwnsAt w' base size A' (n+m) c' (xs++news)→w.grownBy w' (Value.slice A n cap).ownBlock→((Value.slice A' (n+m) c').ownBlock=(Value.slice A n cap).ownBlock∨ ∃g,(Value.slice A' (n+m) c').ownBlock=some g∧w.heap.size≤g)→K (a.put o.dst (.slice A' (n+m) c')) w'):
 if Region.wanted o (yielded ops a.tmps)=true then Oper.wp P o a w K Q else E:=by
 have hw:Region.wanted o (yielded ops a.tmps)=true:=by simp [Region.wanted,hgd]
 rw [if_pos hw];exact wr_ w s x t ho base e i z size bytes ht hi hz hsize hby hzs hsz A n cap xs hs hown S B m c news hx hr h1 hm h63 hbytes hbase h
end
end Go.Proofs.YtacacoklddogmaaGreatDoor
