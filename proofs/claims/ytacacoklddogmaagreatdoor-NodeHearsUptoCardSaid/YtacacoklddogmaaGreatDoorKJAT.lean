/- Lemmas. -/
import Derived.Test.YtacacoklddogmaaGreatDoorKJAA
namespace Go.Proofs.YtacacoklddogmaaGreatDoor
set_option maxHeartbeats 4000000
open Go.ChangeShapes Go.WideShapes Go.ChangeAt Go.RowKit
set_option maxRecDepth 100000
theorem m15_{P:Prop}(h:P:=by
 first
 |guard_hyp vAA
  have hn:decide (0<L.length)=false:=by simp [hl0.o]
  obtain⟨W1,hW1⟩:=q2_ (w.alloc (.cells #[.int .i64 s,.int .i64 h,.slice A L.length c] 55));skip
 |guard_hyp vZ
  have hn:decide (0<L.length)=false:=by simp [hl0.o]
  obtain⟨W1,hW1⟩:=q2_ (w.alloc (.cells #[.int .i64 s,.int .i64 h,.slice A L.length c] 55));skip
 |obtain⟨b,o,rfl,hbs,hcell,hop⟩:=ej_ HS.o hlast;have hn:decide (0<L.length)=true:=by simpa using cn_ hlast
  have hlp:=cn_ hlast;have HQI:=h_ hop;have HCL:=h_ hcell;clear hop hcell hlast;obtain⟨W1,hW1⟩:=q2_ (w.alloc (.cells #[.int .i64 s,.int .i64 h,.slice (some ⟨b,o,none⟩) L.length c] 55))
 have k103_:K_ (∀(P:Prop) (h:P:=by
 first
 |guard_hyp vAA
  have HA:=h_ (show SendAt w WA W1.heap.size s h A L.length c from⟨(k2.block _ (by omega)).trans (by rw [hW1];show(w.heap.push _)[w.heap.size]?=_;simp),by rw [hWA];show(W1.heap.push _)[W1.heap.size]?=_;simp,bThen k1 k2⟩);have HW:=h_ (show(w.alloc (.cells #[.int .i64 s,.int .i64 h,.slice A L.length c] 55)).alloc (.cells #[.int .i64 0,.int .i64 0,.slice none 0 0] 55)=WA by rw [hWA,hW1])
 |guard_hyp vZ
  have HA:=h_ (show SendAt w WA W1.heap.size s h A L.length c from⟨(k2.block _ (by omega)).trans (by rw [hW1];show(w.heap.push _)[w.heap.size]?=_;simp),by rw [hWA];show(W1.heap.push _)[W1.heap.size]?=_;simp,bThen k1 k2⟩);have HW:=h_ (show(w.alloc (.cells #[.int .i64 s,.int .i64 h,.slice A L.length c] 55)).alloc (.cells #[.int .i64 0,.int .i64 0,.slice none 0 0] 55)=WA by rw [hWA,hW1])
 |have HA:=h_ (show SendAt w WA W1.heap.size s h (some ⟨b,o,none⟩) L.length c from⟨(k2.block _ (by omega)).trans (by rw [hW1];show(w.heap.push _)[w.heap.size]?=_;simp),by rw [hWA];show(W1.heap.push _)[W1.heap.size]?=_;simp,bThen k1 k2⟩);have HW:=h_ (show(w.alloc (.cells #[.int .i64 s,.int .i64 h,.slice (some ⟨b,o,none⟩) L.length c] 55)).alloc (.cells #[.int .i64 0,.int .i64 0,.slice none 0 0] 55)=WA by rw [hWA,hW1])
 have k140_:K_ (∀(P:Prop) (h:P:=by
 first
 |guard_hyp vZ
  go_enter Tryz.func109,Tryz.ntmps109
 |guard_hyp vY
  go_enter Tryz.func109,Tryz.ntmps109
 |go_enter Tryz.func101,Tryz.ntmps101
 have k122_:K_ (∀(P:Prop) (h:P:=by
 first
 |guard_hyp vAA
 |guard_hyp vZ
 |have lc:w1.cell? ⟨b,o+(L.length - 1),none⟩=some (.slice qA qp.length qc):=(H1.o.b.cell (p:=⟨b,o+(L.length - 1),none⟩) hbs).trans HCL.o
 go_wp2_with fail
 refine(HF.o _ (HT.o.la H1.o.b) (Sl.la HP.o H1.o.b)).mono ?_;rintro e w2 ⟨rfl,hb2⟩;have H2:=h_ (H1.o.la hb2);have hz2:=hb2.size;obtain⟨e0,e1,e2,_,_,_,hez⟩:=b_ H2.o.e;obtain⟨r0,r1,r2,q0,q1,q2,hrz⟩:=b_ H2.o.r;clear hb2;first
 |guard_hyp vAA
 |guard_hyp vZ
 |have lc:w2.cell? ⟨b,o+(L.length - 1),none⟩=some (.slice qA qp.length qc):=(H2.o.b.cell (p:=⟨b,o+(L.length - 1),none⟩) hbs).trans HCL.o
 go_wp2_with fail
 first
 |guard_hyp vAA
  refine(HO.o _ (HS.o.la H2.o.b)).mono ?_
 |guard_hyp vZ
  refine(HO.o _ (HS.o.la H2.o.b)).mono ?_
 |first
  |guard_hyp vY
   refine(HL.o _ (Sl.la HP.o H2.o.b)).mono ?_
  |refine(HQ.o _ (Sl.la HQI.o H2.o.b)).mono ?_
  rintro e w3 ⟨rfl,hb3⟩;have H3:=h_ (H2.o.la hb3);have hz3:=hb3.size;obtain⟨e0,e1,e2,_,_,_,hez⟩:=b_ H3.o.e;obtain⟨r0,r1,r2,q0,q1,q2,hrz⟩:=b_ H3.o.r;clear hb3;have lc:w3.cell? ⟨b,o+(L.length - 1),none⟩=some (.slice qA qp.length qc):=(H3.o.b.cell (p:=⟨b,o+(L.length - 1),none⟩) hbs).trans HCL.o;go_wp2_with fail
  first
  |guard_hyp vY
   refine(HQ.o _ (Sl.la HQI.o H3.o.b)).mono ?_
  |refine(HL.o _ (Sl.la HP.o H3.o.b)).mono ?_
  rintro e w4 ⟨rfl,hb4⟩;have H4:=h_ (H3.o.la hb4);have hz4:=hb4.size;obtain⟨e0,e1,e2,_,_,_,hez⟩:=b_ H4.o.e;obtain⟨r0,r1,r2,q0,q1,q2,hrz⟩:=b_ H4.o.r;clear hb4;have lc:w4.cell? ⟨b,o+(L.length - 1),none⟩=some (.slice qA qp.length qc):=(H4.o.b.cell (p:=⟨b,o+(L.length - 1),none⟩) hbs).trans HCL.o;go_wp2_with fail
  refine(HO.o _ (HS.o.la H4.o.b)).mono ?_
 rintro e wc ⟨A3,c3,L3,rfl,hps3,hown3,hb3⟩;have hL3:L3.length≤1048576:=by have:=congrArg List.length hps3;simp at this;omega
 have HPS:=h_ hps3;obtain⟨O,hO⟩:=q2_ (wc.heap.size);obtain⟨WX,hWX⟩:=q2_ (wc.alloc (.cells #[.int .i64 (s+1),.int .i64 h,.slice A3 L3.length c3] 55));have hbX:Below wc.heap.size wc WX:=by rw [hWX];exact bA_
 have hzc:=hb3.size;first
 |guard_hyp vAA
  have HX:=h_ ((H2.o.la hb3).la hbX)
 |guard_hyp vZ
  have HX:=h_ ((H2.o.la hb3).la hbX)
 |have HX:=h_ ((H4.o.la hb3).la hbX)
 have HXO:=h_ (show EdgeAt WX O (s+1) h A3 L3.length c3 by rw [hWX,hO];show(wc.heap.push _)[wc.heap.size]?=_;simp);first
 |guard_hyp vAA
  have HXP:=h_ ((hown3.kept hbX.size (fun b _ hb=>hbX.block b hb)).mono (show WA.heap.size≤w2.heap.size by omega))
 |guard_hyp vZ
  have HXP:=h_ ((hown3.kept hbX.size (fun b _ hb=>hbX.block b hb)).mono (show WA.heap.size≤w2.heap.size by omega))
 |have HXP:=h_ ((hown3.kept hbX.size (fun b _ hb=>hbX.block b hb)).mono (show WA.heap.size≤w4.heap.size by omega))
 have HNE:=h_ (s_ HXP.o.row HXO.o (by decide));have HNR:=h_ (s_ HXP.o.row HX.o.r (by decide));have hXz:WA.heap.size≤WX.heap.size:=by have:=hbX.size;omega
 have hAz:=HA.o.b.size;have HWX:=h_ hWX;have hOR:R<O:=by omega
 have HOO:=h_ hO;have HPX:=h_ (Sl.la HP.o HX.o.b);first
 |guard_hyp vAA
  obtain⟨e0,e1,e2,_,_,_,hez⟩:=b_ (H2.o.la hb3).e;skip
 |guard_hyp vZ
  obtain⟨e0,e1,e2,_,_,_,hez⟩:=b_ (H2.o.la hb3).e;skip
 |obtain⟨e0,e1,e2,_,_,_,hez⟩:=b_ (H4.o.la hb3).e
 clear hWX hbX hb3 hown3 hps3 hO hzc;go_wp2_with fail
 rw [←HWX.o,←HOO.o];obtain⟨y0,y1,y2,y3,y4,y5,y6⟩:=b_ HXO.o;obtain⟨j0,hj,jz0,jz1,jz2⟩:=info_parts infoOp;first
 |guard_hyp vZ
  go_region_law (first
   | (refine bg_ _ rfl _ _ 25 rfl WA.heap.size 30 j0 (.slice none 0 0) 1 24 Tryz.underlying25 hj jz0 jz1 jz2 rfl (by decide) _ _ _ rfl (World.ownsRow.alloc (ge_ HXP.o.row) _) (fun _=>True) _ _ _ _ rfl (fa_ rfl (by simp)) ?_ ?_ ?_ ?_ ?_;(intro u hu;simp at hu;subst hu;rfl);(unfold maxLen;omega);omega;(simp;omega);intro A' c' w3 hown' hgrow hat;obtain⟨y0,y1,y2,y3,y4,y5,y6⟩:=b_ (cb_ HXO.o HNE.o hgrow))
   | (go_simp;go_at_call 8;refine(HD.o _ ?_).mono ?_;exact HPX.o;rintro e wd ⟨A2,c2,rfl,ho2,hb2⟩;obtain⟨⟨d2,os2⟩,rfl⟩:=e_ hb2))
 |guard_hyp vY
  go_region_law (first
   | (refine bg_ _ rfl _ _ 25 rfl WA.heap.size 30 j0 (.slice none 0 0) 1 24 Tryz.underlying25 hj jz0 jz1 jz2 rfl (by decide) _ _ _ rfl (World.ownsRow.alloc (ge_ HXP.o.row) _) (fun _=>True) _ _ _ _ rfl (fa_ rfl (by simp)) ?_ ?_ ?_ ?_ ?_;(intro u hu;simp at hu;subst hu;rfl);(unfold maxLen;omega);omega;(simp;omega);intro A' c' w3 hown' hgrow hat;obtain⟨y0,y1,y2,y3,y4,y5,y6⟩:=b_ (cb_ HXO.o HNE.o hgrow))
   | (go_simp;go_at_call 8;refine(HD.o _ ?_).mono ?_;exact HPX.o;rintro e wd ⟨A2,c2,rfl,ho2,hb2⟩;obtain⟨⟨d2,os2⟩,rfl⟩:=e_ hb2))
 |go_region_law (first
   | (refine bg_ _ rfl _ _ 25 rfl WA.heap.size 30 j0 (.slice none 0 0) 1 24 Tryz.underlying25 hj jz0 jz1 jz2 rfl (by decide) _ _ _ rfl (World.ownsRow.alloc (ge_ HXP.o.row) _) (fun _=>True) _ _ _ _ rfl (fa_ rfl (by simp)) ?_ ?_ ?_ ?_ ?_;(intro u hu;simp at hu;subst hu;rfl);(unfold maxLen;omega);omega;(simp;omega);intro A' c' w3 hown' hgrow hat;obtain⟨y0,y1,y2,y3,y4,y5,y6⟩:=b_ (cb_ HXO.o HNE.o hgrow))
   | (go_simp;go_at_call 100;refine(HD.o _ ?_).mono ?_;exact HPX.o;rintro e wd ⟨A2,c2,rfl,ho2,hb2⟩;obtain⟨⟨d2,os2⟩,rfl⟩:=e_ hb2))
 all_goals(
  have HB2:Below WX.heap.size WX (Go.Sort.grow (redrawn WX d2) os2):=⟨hb2.os,hb2.tape,hb2.output,hb2.size,hb2.block⟩
  have ho3:(Go.Sort.grow (redrawn WX d2) os2).ownsRow WX.heap.size 73 3 (.slice A2 ps.length c2) ps.length (opCells ps):=ho2;have hR3:=cb_ HX.o.r HNR.o hgrow;have hO3:=cb_ HXO.o HNE.o hgrow;have hP:=HXP.o.push hXz HB2 ho3 hgrow hown' hat;have hF:=bm_ HX.o.b HB2 hgrow (fun g hg=>by have:=(HXP.o.row.lt g hg).1;omega);clear hown' hgrow hat ho2 ho3 hb2 HB2 y0 y1 y2 y3 y4 y5 y6;refine u_ (fun G=>EdgeAt G O (s+1) h A' (L3.length+1) c'∧OpsOwn G WA.heap.size A' c' (L3++ [⟨A2,c2,ps⟩])∧EdgeAt G R 0 0 none 0 0∧Below w.heap.size w G) ⟨x_ hO3,hP.set2 hO3,(bH_ (by show R≠O;omega)).trans hR3,bSet hF (by show w.heap.size≤O;omega) _⟩ ?_;rintro G ⟨hO4,hP4,hR4,hF4⟩;clear hR3 hO3 hP hF;obtain⟨y0,y1,y2,y3,y4,y5,y6⟩:=b_ hO4;obtain⟨r0,r1,r2,q0,q1,q2,hrz⟩:=b_ hR4;have HO4:=h_ hP4;clear hP4;go_wp2_with fail
  obtain⟨hR5,hO5,hF5⟩:=jo_ (s:=s+1) (h:=h) (n:=L3.length+1) hRB hRz hR4 HO4.o hF4;clear HO4 hF4 hR4;refine u_ (fun G=>EdgeAt G R (s+1) h A' (L3.length+1) c'∧OpsOwn G WA.heap.size A' c' (L3++ [⟨A2,c2,ps⟩])∧Below w.heap.size w G) ⟨hR5,hO5,hF5⟩ ?_;clear hR5 hO5 hF5;rintro G' ⟨hR5,hO5,hF5⟩;obtain⟨t0,t1,t2,_,_,_,_⟩:=b_ hR5;first
  |guard_hyp vZ
   refine bodyPost_ret (v:= .tuple #[edgeV (s+1) h A' (L3.length+1) c',.int .i64 0]) (by simp [results,Tryz.results109,go_sem,t0,t1,t2]) rfl ?_
  |guard_hyp vY
   refine bodyPost_ret (v:= .tuple #[edgeV (s+1) h A' (L3.length+1) c',.int .i64 0]) (by simp [results,Tryz.results109,go_sem,t0,t1,t2]) rfl ?_
  |refine bodyPost_ret (v:= .tuple #[edgeV (s+1) h A' (L3.length+1) c',.int .i64 0]) (by simp [results,Tryz.results101,go_sem,t0,t1,t2]) rfl ?_
  exact⟨fun h0=>absurd rfl h0,fun _=>⟨A',c',L3++ [⟨A2,c2,ps⟩],by simp,by simp [HPS.o],hO5.mono hAz,hF5⟩⟩)
 ),P):=⟨@q6_⟩
 exact m122_
 ),P):=⟨@q6_⟩
 exact m140_
 ),P):=⟨@q6_⟩
 exact m103_):P:=h
theorem m20_{P:Prop}(h:P:=by
 exact m48_):P:=h
theorem m21_{P:Prop}(h:P:=by
 have vBQ:=h_ trivial;exact m48_):P:=h
theorem m32_{P:Prop}(h:P:=by
 exact m52_):P:=h
theorem m33_{P:Prop}(h:P:=by
 have vBU:=h_ trivial;exact m52_):P:=h
theorem m34_{P:Prop}(h:P:=by
 have vBV:=h_ trivial;exact m52_):P:=h
theorem m48_{P:Prop}(h:P:=by
 obtain⟨b,o,rfl,hbs,hcell,hop⟩:=ej_ HS.o hlast;have hn:decide (0<L.length)=true:=by simpa using cn_ hlast
 have hlp:=cn_ hlast;have HQI:=h_ hop;have HCL:=h_ hcell;clear hop hcell hlast;obtain⟨W1,hW1⟩:=q2_ (w.alloc (.cells #[.int .i64 s,.int .i64 h,.slice (some ⟨b,o,none⟩) L.length c] 55));have k103_:K_ (∀(P:Prop) (h:P:=by
 have HA:=h_ (show SendAt w WA W1.heap.size s h (some ⟨b,o,none⟩) L.length c from⟨(k2.block _ (by omega)).trans (by rw [hW1];show(w.heap.push _)[w.heap.size]?=_;simp),by rw [hWA];show(W1.heap.push _)[W1.heap.size]?=_;simp,bThen k1 k2⟩);have HW:=h_ (show(w.alloc (.cells #[.int .i64 s,.int .i64 h,.slice (some ⟨b,o,none⟩) L.length c] 55)).alloc (.cells #[.int .i64 0,.int .i64 0,.slice none 0 0] 55)=WA by rw [hWA,hW1]);have k140_:K_ (∀(P:Prop) (h:P:=by
 first
 |guard_hyp vBQ
  go_enter Tryz.func101,Tryz.ntmps101
 |go_enter Tryz.func109,Tryz.ntmps109
 have k122_:K_ (∀(P:Prop) (h:P:=by
 have lc:w1.cell? ⟨b,o+(L.length - 1),none⟩=some (.slice qA qp.length qc):=(H1.o.b.cell (p:=⟨b,o+(L.length - 1),none⟩) hbs).trans HCL.o;go_wp2_with fail
 refine(HF.o _ (HT.o.la H1.o.b) (Sl.la HP.o H1.o.b)).mono ?_;rintro e w2 ⟨rfl,hb2⟩;have H2:=h_ (H1.o.la hb2);have hz2:=hb2.size;obtain⟨e0,e1,e2,_,_,_,hez⟩:=b_ H2.o.e;obtain⟨r0,r1,r2,q0,q1,q2,hrz⟩:=b_ H2.o.r;clear hb2;have lc:w2.cell? ⟨b,o+(L.length - 1),none⟩=some (.slice qA qp.length qc):=(H2.o.b.cell (p:=⟨b,o+(L.length - 1),none⟩) hbs).trans HCL.o;go_wp2_with fail
 first
 |guard_hyp vBQ
  refine(HQ.o _ (Sl.la HQI.o H2.o.b)).mono ?_
 |refine(HL.o _ (Sl.la HP.o H2.o.b)).mono ?_
 rintro e w3 ⟨rfl,hb3⟩;have H3:=h_ (H2.o.la hb3);have hz3:=hb3.size;obtain⟨e0,e1,e2,_,_,_,hez⟩:=b_ H3.o.e;obtain⟨r0,r1,r2,q0,q1,q2,hrz⟩:=b_ H3.o.r;clear hb3;have lc:w3.cell? ⟨b,o+(L.length - 1),none⟩=some (.slice qA qp.length qc):=(H3.o.b.cell (p:=⟨b,o+(L.length - 1),none⟩) hbs).trans HCL.o;go_wp2_with fail
 first
 |guard_hyp vBQ
  refine(HL.o _ (Sl.la HP.o H3.o.b)).mono ?_
 |refine(HQ.o _ (Sl.la HQI.o H3.o.b)).mono ?_
 rintro e w4 ⟨rfl,hb4⟩;have H4:=h_ (H3.o.la hb4);have hz4:=hb4.size;obtain⟨e0,e1,e2,_,_,_,hez⟩:=b_ H4.o.e;obtain⟨r0,r1,r2,q0,q1,q2,hrz⟩:=b_ H4.o.r;clear hb4;have lc:w4.cell? ⟨b,o+(L.length - 1),none⟩=some (.slice qA qp.length qc):=(H4.o.b.cell (p:=⟨b,o+(L.length - 1),none⟩) hbs).trans HCL.o;go_wp2_with fail
 have z0:=b_ (x_ (x:= .slice none 0 0) (bc_ (x:= .int .i64 0) (bd_ (x:= .int .i64 0) H4.o.r)));obtain⟨z0,z1,z2,_,_,_,_⟩:=z0;first
 |guard_hyp vBQ
  first
  |guard_hyp vAG
   refine bodyPost_ret (v:= .tuple #[edgeV 0 0 none 0 0,.int .i64 8]) (by simp [results,Tryz.results101,go_sem,z0,z1,z2]) rfl ?_
  |refine bodyPost_ret (v:= .tuple #[edgeV 0 0 none 0 0,.int .i64 10]) (by simp [results,Tryz.results101,go_sem,z0,z1,z2]) rfl ?_
 |guard_hyp vAF
  refine bodyPost_ret (v:= .tuple #[edgeV 0 0 none 0 0,.int .i64 8]) (by simp [results,Tryz.results109,go_sem,z0,z1,z2]) rfl ?_
 |refine bodyPost_ret (v:= .tuple #[edgeV 0 0 none 0 0,.int .i64 10]) (by simp [results,Tryz.results109,go_sem,z0,z1,z2]) rfl ?_
 exact⟨fun _=>⟨rfl,bSet (bSet (bSet H4.o.b (p:=⟨R,0,none⟩) (Nat.le_of_lt hRB) _) (p:=⟨R,1,none⟩) (Nat.le_of_lt hRB) _) (p:=⟨R,2,none⟩) (Nat.le_of_lt hRB) _⟩,fun h0=>absurd h0 (by decide)⟩
 ),P):=⟨@q6_⟩
 exact m122_
 ),P):=⟨@q6_⟩
 exact m140_
 ),P):=⟨@q6_⟩
 exact m103_):P:=h
theorem m52_{P:Prop}(h:P:=by
 first
 |guard_hyp vBV
 |guard_hyp vBU
 |have hn:decide (0<L.length)=false:=by simp [hl0.o]
 obtain⟨W1,hW1⟩:=q2_ (w.alloc (.cells #[.int .i64 s,.int .i64 h,.slice A L.length c] 55));have k103_:K_ (∀(P:Prop) (h:P:=by
 have k199_:K_ (∀(P:Prop) (h:P:=by
 have k140_:K_ (∀(P:Prop) (h:P:=by
 first
 |guard_hyp vBV
  first
  |guard_hyp vAY
   go_enter Tryz.func109,Tryz.ntmps109
  |go_enter Tryz.func101,Tryz.ntmps101
 |guard_hyp vBU
  first
  |guard_hyp vAX
   go_enter Tryz.func109,Tryz.ntmps109
  |go_enter Tryz.func101,Tryz.ntmps101
 |guard_hyp vAW
  go_enter Tryz.func109,Tryz.ntmps109
 |go_enter Tryz.func101,Tryz.ntmps101
 have k122_:K_ (∀(P:Prop) (h:P:=by
 go_wp2_with fail
 first
 |guard_hyp vBV
  have z0:=b_ (x_ (x:= .slice none 0 0) (bc_ (x:= .int .i64 0) (bd_ (x:= .int .i64 0) H1.o.r)))
 |refine(HF.o _ (HT.o.la H1.o.b) (Sl.la HP.o H1.o.b)).mono ?_;rintro e w2 ⟨rfl,hb2⟩;have H2:=h_ (H1.o.la hb2);have hz2:=hb2.size;obtain⟨e0,e1,e2,_,_,_,hez⟩:=b_ H2.o.e;obtain⟨r0,r1,r2,q0,q1,q2,hrz⟩:=b_ H2.o.r;clear hb2;go_wp2_with fail
  have z0:=b_ (x_ (x:= .slice none 0 0) (bc_ (x:= .int .i64 0) (bd_ (x:= .int .i64 0) H2.o.r)))
 obtain⟨z0,z1,z2,_,_,_,_⟩:=z0;first
 |guard_hyp vBV
  first
  |guard_hyp vAY
   refine bodyPost_ret (v:= .tuple #[edgeV 0 0 none 0 0,.int .i64 9]) (by simp [results,Tryz.results109,go_sem,z0,z1,z2]) rfl ?_
  |refine bodyPost_ret (v:= .tuple #[edgeV 0 0 none 0 0,.int .i64 9]) (by simp [results,Tryz.results101,go_sem,z0,z1,z2]) rfl ?_
  exact⟨fun _=>⟨rfl,bSet (bSet (bSet H1.o.b (p:=⟨R,0,none⟩) (Nat.le_of_lt hRB) _) (p:=⟨R,1,none⟩) (Nat.le_of_lt hRB) _) (p:=⟨R,2,none⟩) (Nat.le_of_lt hRB) _⟩,fun h0=>absurd h0 (by decide)⟩
 |guard_hyp vBU
  first
  |guard_hyp vAX
   refine bodyPost_ret (v:= .tuple #[edgeV 0 0 none 0 0,.int .i64 er]) (by simp [results,Tryz.results109,go_sem,z0,z1,z2]) rfl ?_
  |refine bodyPost_ret (v:= .tuple #[edgeV 0 0 none 0 0,.int .i64 er]) (by simp [results,Tryz.results101,go_sem,z0,z1,z2]) rfl ?_
  exact⟨fun _=>⟨rfl,bSet (bSet (bSet H2.o.b (p:=⟨R,0,none⟩) (Nat.le_of_lt hRB) _) (p:=⟨R,1,none⟩) (Nat.le_of_lt hRB) _) (p:=⟨R,2,none⟩) (Nat.le_of_lt hRB) _⟩,fun h0=>absurd h0 (by simpa using _hne)⟩
 |first
  |guard_hyp vAW
   refine bodyPost_ret (v:= .tuple #[edgeV 0 0 none 0 0,.int .i64 8]) (by simp [results,Tryz.results109,go_sem,z0,z1,z2]) rfl ?_
  |refine bodyPost_ret (v:= .tuple #[edgeV 0 0 none 0 0,.int .i64 8]) (by simp [results,Tryz.results101,go_sem,z0,z1,z2]) rfl ?_
  exact⟨fun _=>⟨rfl,bSet (bSet (bSet H2.o.b (p:=⟨R,0,none⟩) (Nat.le_of_lt hRB) _) (p:=⟨R,1,none⟩) (Nat.le_of_lt hRB) _) (p:=⟨R,2,none⟩) (Nat.le_of_lt hRB) _⟩,fun h0=>absurd h0 (by decide)⟩
 ),P):=⟨@q6_⟩
 exact m122_
 ),P):=⟨@q6_⟩
 exact m140_
 ),P):=⟨@q6_⟩
 exact m199_
 ),P):=⟨@q6_⟩
 exact m103_):P:=h
section
variable(w:World) (s h:Int) (A:OA_) (c:Nat) (L:List OpV) (HT:Hid (Tabs w)) (HS:Hid (OpsIn w A L)) (HM:Hid (∀o∈L,o.Small)) (B:OA_) (cc:Nat) (ps:LP_)
include w s h A c L HT HS HM B cc ps
theorem xb_(HC:Hid (∀W,Tabs W→OpsIn W A L→(∀o∈L,o.Small)→Calls Tryz.prog 122 #[edgeV s h A L.length c] W (R_ W (.int .i64 9)))):
 Calls Tryz.prog 101 #[edgeV s h A L.length c,.slice B ps.length cc] w (RetSent w s h L ps 9):=by
 exact m34_
section
variable(HP:Hid (OpIn (· <w.heap.size) w B ps))
include HP
theorem wy_(er:Int)(_hne:(er !=0)=true)(HC:Hid (∀W,Tabs W→OpsIn W A L→(∀o∈L,o.Small)→Calls Tryz.prog 122 #[edgeV s h A L.length c] W (R_ W (.int .i64 0))))(HF:Hid (∀W,Tabs W→OpIn (· <W.heap.size) W B ps→Calls Tryz.prog 96 #[.slice B ps.length cc] W (R_ W (.int .i64 (er))))):
 Calls Tryz.prog 101 #[edgeV s h A L.length c,.slice B ps.length cc] w (RetSent w s h L ps er):=by
 exact m33_
section
variable(qA:OA_) (qc:Nat) (qp:LP_) (hlast:L.getLast?=some ⟨qA,qc,qp⟩)
include qA qc qp hlast
theorem xa_(a1 a2 b1 b2:Int)(_hm:(a1 !=b2)=true)(hll:L.length≤1048576)(HC:Hid (∀W,Tabs W→OpsIn W A L→(∀o∈L,o.Small)→Calls Tryz.prog 122 #[edgeV s h A L.length c] W (R_ W (.int .i64 0))))(HF:Hid (∀W,Tabs W→OpIn (· <W.heap.size) W B ps→Calls Tryz.prog 96 #[.slice B ps.length cc] W (R_ W (.int .i64 (0)))))(HL:Hid (∀W,OpIn (· <W.heap.size) W B ps→Calls Tryz.prog 46 #[.slice B ps.length cc] W (R_ W (.tuple #[.int .i64 a1,.int .i64 a2]))))(HQ:Hid (∀W,OpIn (· <W.heap.size) W qA qp→Calls Tryz.prog 46 #[.slice qA qp.length qc] W (R_ W (.tuple #[.int .i64 b1,.int .i64 b2])))):
 Calls Tryz.prog 101 #[edgeV s h A L.length c,.slice B ps.length cc] w (RetSent w s h L ps 10):=by
 exact m21_
theorem zf_(a1 a2 b1:Int)(hll:L.length≤1048576)(_f1:(s==1048576)=true)(_f2:decide (1048576≤s)=true)(HC:Hid (∀W,Tabs W→OpsIn W A L→(∀o∈L,o.Small)→Calls Tryz.prog 122 #[edgeV s h A L.length c] W (R_ W (.int .i64 0))))(HF:Hid (∀W,Tabs W→OpIn (· <W.heap.size) W B ps→Calls Tryz.prog 96 #[.slice B ps.length cc] W (R_ W (.int .i64 (0)))))(HL:Hid (∀W,OpIn (· <W.heap.size) W B ps→Calls Tryz.prog 46 #[.slice B ps.length cc] W (R_ W (.tuple #[.int .i64 a1,.int .i64 a2]))))(HQ:Hid (∀W,OpIn (· <W.heap.size) W qA qp→Calls Tryz.prog 46 #[.slice qA qp.length qc] W (R_ W (.tuple #[.int .i64 b1,.int .i64 a1])))):
 Calls Tryz.prog 101 #[edgeV s h A L.length c,.slice B ps.length cc] w (RetSent w s h L ps 8):=by
 have vAG:=h_ trivial;exact m21_
end
theorem wz_(hl0:Hid (L.length=0))(_f1:(s==1048576)=true)(_f2:decide (1048576≤s)=true)(HC:Hid (∀W,Tabs W→OpsIn W A L→(∀o∈L,o.Small)→Calls Tryz.prog 122 #[edgeV s h A L.length c] W (R_ W (.int .i64 0))))(HF:Hid (∀W,Tabs W→OpIn (· <W.heap.size) W B ps→Calls Tryz.prog 96 #[.slice B ps.length cc] W (R_ W (.int .i64 (0))))):
 Calls Tryz.prog 101 #[edgeV s h A L.length c,.slice B ps.length cc] w (RetSent w s h L ps 8):=by
 exact m32_
theorem bbg_(hl0:Hid (L.length=0))(hll:L.length≤1048576)(hs0:0≤s)(hs1:s<1048576)(_f1:(s==1048576)=false)(_f2:decide (1048576≤s)=false)(HC:Hid (∀W,Tabs W→OpsIn W A L→(∀o∈L,o.Small)→Calls Tryz.prog 122 #[edgeV s h A L.length c] W (R_ W (.int .i64 0))))(HF:Hid (∀W,Tabs W→OpIn (· <W.heap.size) W B ps→Calls Tryz.prog 96 #[.slice B ps.length cc] W (R_ W (.int .i64 (0)))))(HO:Hid (∀W,OpsIn W A L→Calls Tryz.prog 127 #[edgeV s h A L.length c] W (RetEdge W s h L)))(HD:Hid (∀W,OpIn (· <W.heap.size) W B ps→Calls Tryz.prog 100 #[.slice B ps.length cc] W (RetOp W ps))):
 Calls Tryz.prog 101 #[edgeV s h A L.length c,.slice B ps.length cc] w (RetSent w s h L ps 0):=by
 have vAA:=h_ trivial;exact m15_
theorem bec_(qA:OA_)(qc:Nat)(qp:LP_)(hlast:L.getLast?=some ⟨qA,qc,qp⟩)(a1 a2 b1:Int)(hll:L.length≤1048576)(hs0:0≤s)(hs1:s<1048576)(_f1:(s==1048576)=false)(_f2:decide (1048576≤s)=false)(HC:Hid (∀W,Tabs W→OpsIn W A L→(∀o∈L,o.Small)→Calls Tryz.prog 122 #[edgeV s h A L.length c] W (R_ W (.int .i64 0))))(HF:Hid (∀W,Tabs W→OpIn (· <W.heap.size) W B ps→Calls Tryz.prog 96 #[.slice B ps.length cc] W (R_ W (.int .i64 (0)))))(HL:Hid (∀W,OpIn (· <W.heap.size) W B ps→Calls Tryz.prog 46 #[.slice B ps.length cc] W (R_ W (.tuple #[.int .i64 a1,.int .i64 a2]))))(HQ:Hid (∀W,OpIn (· <W.heap.size) W qA qp→Calls Tryz.prog 46 #[.slice qA qp.length qc] W (R_ W (.tuple #[.int .i64 b1,.int .i64 a1]))))(HO:Hid (∀W,OpsIn W A L→Calls Tryz.prog 127 #[edgeV s h A L.length c] W (RetEdge W s h L)))(HD:Hid (∀W,OpIn (· <W.heap.size) W B ps→Calls Tryz.prog 100 #[.slice B ps.length cc] W (RetOp W ps))):
 Calls Tryz.prog 101 #[edgeV s h A L.length c,.slice B ps.length cc] w (RetSent w s h L ps 0):=by
 exact m15_
end
theorem ur_(HC:Hid (∀W,Tabs W→OpsIn W A L→(∀o∈L,o.Small)→Calls Tryz.prog 104 #[edgeV s h A L.length c] W (R_ W (.bool false)))):
 Calls Tryz.prog 109 #[edgeV s h A L.length c,.slice B ps.length cc] w (RetSent w s h L ps 9):=by
 have vAY:=h_ trivial;exact m34_
section
variable(HP:Hid (OpIn (· <w.heap.size) w B ps))
include HP
theorem uo_(er:Int)(_hne:(er !=0)=true)(HC:Hid (∀W,Tabs W→OpsIn W A L→(∀o∈L,o.Small)→Calls Tryz.prog 104 #[edgeV s h A L.length c] W (R_ W (.bool true))))(HF:Hid (∀W,Tabs W→OpIn (· <W.heap.size) W B ps→Calls Tryz.prog 60 #[.slice B ps.length cc] W (R_ W (.int .i64 (er))))):
 Calls Tryz.prog 109 #[edgeV s h A L.length c,.slice B ps.length cc] w (RetSent w s h L ps er):=by
 have vAX:=h_ trivial;exact m33_
section
variable(qA:OA_) (qc:Nat) (qp:LP_) (hlast:L.getLast?=some ⟨qA,qc,qp⟩)
include qA qc qp hlast
theorem uq_(a1 a2 b1 b2:Int)(_hm:(a1 !=b2)=true)(hll:L.length≤1048576)(HC:Hid (∀W,Tabs W→OpsIn W A L→(∀o∈L,o.Small)→Calls Tryz.prog 104 #[edgeV s h A L.length c] W (R_ W (.bool true))))(HF:Hid (∀W,Tabs W→OpIn (· <W.heap.size) W B ps→Calls Tryz.prog 60 #[.slice B ps.length cc] W (R_ W (.int .i64 (0)))))(HL:Hid (∀W,OpIn (· <W.heap.size) W B ps→Calls Tryz.prog 59 #[.slice B ps.length cc] W (R_ W (.tuple #[.int .i64 a1,.int .i64 a2]))))(HQ:Hid (∀W,OpIn (· <W.heap.size) W qA qp→Calls Tryz.prog 59 #[.slice qA qp.length qc] W (R_ W (.tuple #[.int .i64 b1,.int .i64 b2])))):
 Calls Tryz.prog 109 #[edgeV s h A L.length c,.slice B ps.length cc] w (RetSent w s h L ps 10):=by
 exact m20_
theorem xd_(a1 a2 b1:Int)(hll:L.length≤1048576)(_f1:(s==1048576)=true)(_f2:decide (1048576≤s)=true)(HC:Hid (∀W,Tabs W→OpsIn W A L→(∀o∈L,o.Small)→Calls Tryz.prog 104 #[edgeV s h A L.length c] W (R_ W (.bool true))))(HF:Hid (∀W,Tabs W→OpIn (· <W.heap.size) W B ps→Calls Tryz.prog 60 #[.slice B ps.length cc] W (R_ W (.int .i64 (0)))))(HL:Hid (∀W,OpIn (· <W.heap.size) W B ps→Calls Tryz.prog 59 #[.slice B ps.length cc] W (R_ W (.tuple #[.int .i64 a1,.int .i64 a2]))))(HQ:Hid (∀W,OpIn (· <W.heap.size) W qA qp→Calls Tryz.prog 59 #[.slice qA qp.length qc] W (R_ W (.tuple #[.int .i64 b1,.int .i64 a1])))):
 Calls Tryz.prog 109 #[edgeV s h A L.length c,.slice B ps.length cc] w (RetSent w s h L ps 8):=by
 have vAF:=h_ trivial;exact m20_
end
theorem up_(hl0:Hid (L.length=0))(_f1:(s==1048576)=true)(_f2:decide (1048576≤s)=true)(HC:Hid (∀W,Tabs W→OpsIn W A L→(∀o∈L,o.Small)→Calls Tryz.prog 104 #[edgeV s h A L.length c] W (R_ W (.bool true))))(HF:Hid (∀W,Tabs W→OpIn (· <W.heap.size) W B ps→Calls Tryz.prog 60 #[.slice B ps.length cc] W (R_ W (.int .i64 (0))))):
 Calls Tryz.prog 109 #[edgeV s h A L.length c,.slice B ps.length cc] w (RetSent w s h L ps 8):=by
 have vAW:=h_ trivial;exact m32_
theorem zs_(hl0:Hid (L.length=0))(hll:L.length≤1048576)(hs0:0≤s)(hs1:s<1048576)(_f1:(s==1048576)=false)(_f2:decide (1048576≤s)=false)(HC:Hid (∀W,Tabs W→OpsIn W A L→(∀o∈L,o.Small)→Calls Tryz.prog 104 #[edgeV s h A L.length c] W (R_ W (.bool true))))(HF:Hid (∀W,Tabs W→OpIn (· <W.heap.size) W B ps→Calls Tryz.prog 60 #[.slice B ps.length cc] W (R_ W (.int .i64 (0)))))(HO:Hid (∀W,OpsIn W A L→Calls Tryz.prog 17 #[edgeV s h A L.length c] W (RetEdge W s h L)))(HD:Hid (∀W,OpIn (· <W.heap.size) W B ps→Calls Tryz.prog 8 #[.slice B ps.length cc] W (RetOp W ps))):
 Calls Tryz.prog 109 #[edgeV s h A L.length c,.slice B ps.length cc] w (RetSent w s h L ps 0):=by
 have vZ:=h_ trivial;exact m15_
theorem bbp_(qA:OA_)(qc:Nat)(qp:LP_)(hlast:L.getLast?=some ⟨qA,qc,qp⟩)(a1 a2 b1:Int)(hll:L.length≤1048576)(hs0:0≤s)(hs1:s<1048576)(_f1:(s==1048576)=false)(_f2:decide (1048576≤s)=false)(HC:Hid (∀W,Tabs W→OpsIn W A L→(∀o∈L,o.Small)→Calls Tryz.prog 104 #[edgeV s h A L.length c] W (R_ W (.bool true))))(HF:Hid (∀W,Tabs W→OpIn (· <W.heap.size) W B ps→Calls Tryz.prog 60 #[.slice B ps.length cc] W (R_ W (.int .i64 (0)))))(HL:Hid (∀W,OpIn (· <W.heap.size) W B ps→Calls Tryz.prog 59 #[.slice B ps.length cc] W (R_ W (.tuple #[.int .i64 a1,.int .i64 a2]))))(HQ:Hid (∀W,OpIn (· <W.heap.size) W qA qp→Calls Tryz.prog 59 #[.slice qA qp.length qc] W (R_ W (.tuple #[.int .i64 b1,.int .i64 a1]))))(HO:Hid (∀W,OpsIn W A L→Calls Tryz.prog 17 #[edgeV s h A L.length c] W (RetEdge W s h L)))(HD:Hid (∀W,OpIn (· <W.heap.size) W B ps→Calls Tryz.prog 8 #[.slice B ps.length cc] W (RetOp W ps))):
 Calls Tryz.prog 109 #[edgeV s h A L.length c,.slice B ps.length cc] w (RetSent w s h L ps 0):=by
 have vY:=h_ trivial;exact m15_
end
end
end Go.Proofs.YtacacoklddogmaaGreatDoor
