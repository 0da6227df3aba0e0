/- Lemmas. -/
import Derived.Test.YtacacoklddogmaaGreatDoorKJAF
namespace Go.Proofs.YtacacoklddogmaaGreatDoor
set_option maxHeartbeats 4000000
open Go.ChangeShapes Go.WideShapes Go.ChangeAt Go.RowKit
set_option maxRecDepth 100000
theorem m29_{P:Prop}(h:P:=by
 exact m51_):P:=h
theorem m116_{P:Prop}(h:P:=by
 have ce0:wr.cell? ⟨b,o+k*10,none⟩=some (.int .i64 S[k].p):=hc 0 _ rfl;have ce1:wr.cell? ⟨b,o+k*10+1,none⟩=some (.bool S[k].j):=hc 1 _ rfl;have ce2:wr.cell? ⟨b,o+k*10+2,none⟩=some (.int .i64 S[k].s):=hc 2 _ rfl;have ce3:wr.cell? ⟨b,o+k*10+3,none⟩=some (.int .i64 S[k].h):=hc 3 _ rfl;have ce4:wr.cell? ⟨b,o+k*10+4,none⟩=some (.slice S[k].A S[k].L.length S[k].c):=hc 4 _ rfl;have ce5:wr.cell? ⟨b,o+k*10+5,none⟩=some (.int .i64 S[k].k.e):=hc 5 _ rfl;have ce6:wr.cell? ⟨b,o+k*10+6,none⟩=some (.int .i64 S[k].k.n):=hc 6 _ rfl;have ce7:wr.cell? ⟨b,o+k*10+7,none⟩=some (.slice S[k].k.sA S[k].k.s.length S[k].k.sc):=hc 7 _ rfl;have ce8:wr.cell? ⟨b,o+k*10+8,none⟩=some (.slice S[k].k.qA S[k].k.q.length S[k].k.qc):=hc 8 _ rfl;have ce9:wr.cell? ⟨b,o+k*10+9,none⟩=some (.int .i64 S[k].k.h):=hc 9 _ rfl;have hki:(k:Int)<(S.length:Int):=by omega
 exact k116_.o _):P:=h
theorem m156_{P:Prop}(h:P:=by
 obtain⟨WX,hWX⟩:=q2_ (wr.alloc (.cells #[.int .i64 p,.bool j,.int .i64 s,.int .i64 h,.slice A L.length c,.int .i64 ke,.int .i64 kn,.slice sA2 ks.length sc2,.slice qA2 kq.length qc2,.int .i64 kh] 60));have HF0:=h_ (show WX.heap[wr.heap.size]?=some (.cells #[.int .i64 p,.bool j,.int .i64 s,.int .i64 h,.slice A L.length c,.int .i64 ke,.int .i64 kn,.slice sA2 ks.length sc2,.slice qA2 kq.length qc2,.int .i64 kh] 60 (0,0)) by rw [hWX];exact World.alloc_heap_new _ _);have HBX:=h_ (show Below wr.heap.size wr WX by rw [hWX];exact bA_);have hzX:WX.heap.size=wr.heap.size+1:=by rw [hWX];simp
 have HWX:=h_ hWX.symm;exact k156_.o _):P:=h
theorem m200_{P:Prop}(h:P:=by
 have HB2:=h_ (show Below wr.heap.size wr (Go.Sort.grow (redrawn wr d2) os2)from⟨hb2.os,hb2.tape,hb2.output,hb2.size,hb2.block⟩);clear hb2;go_wp2_with fail
 go_roundw
 case rel=>exact⟨k+1,by omega,by go_num,rfl,bThen hbw HB2.o⟩
 case measure=>simp [intOf];omega):P:=h
theorem m226_{P:Prop}(h:P:=by
 have HSM:=h_ (HM.o.sides _ (List.getElem_mem hlt));have HTK:=h_ (show(S.take (k+1)).map SideV.d=(S.take k).map SideV.d++ [S[k].d] by rw [List.take_succ_eq_append_getElem hlt,List.map_append];rfl);clear hc;generalize S[k]=x at*;obtain⟨p,j,s,h,A,c,L,⟨ke,kn,sA2,sc2,ks,qA2,qc2,kq,kh⟩⟩:=x;dsimp only at ce0 ce1 ce2 ce3 ce4 ce5 ce6 ce7 ce8 ce9;exact k226_.o _):P:=h
theorem m230_{P:Prop}(h:P:=by
 have:=World.alloc_heap_new (w.alloc (.cells nv 28)) (.cells #[.int .i64 0,.int .i64 0,.int .i64 0,.bool false,.string ⟨#[]⟩,.slice none 0 0,.slice none 0 0,.slice none 0 0] 28);rwa [World.size_alloc]at this):P:=h
theorem sl_(w:World)(A A':Option Addr)(c c' n:Nat)(L L':List OpV)(hs:OpsIn w A L)(hs':OpsIn w A' L')(hp:L'.map OpV.ps=L.map OpV.ps)(hn:L.length=n)(hm:n≤1048577)(hl: ∀o∈L,o.ps.length≤1048576):
 Calls Tryz.prog 26 #[.slice A n c,.slice A' n c'] w (R_ w (.bool true)):=by
 have hn':L'.length=n:=by rw [←hn,←List.length_map (f:=OpV.ps),hp,List.length_map]
 have HS:=h_ hs;have HS':=h_ hs';have HL:=h_ hl;have HN:=h_ hn;have HN':=h_ hn';have HE:=h_ (show∀k (h:k<L.length) (h':k<L'.length),L'[k].ps=L[k].ps from fun k h h'=>by
  have:=congrArg (fun l=>l[k]?) hp;simpa [h,h']using this)
 clear hs hs' hl hn hn' hp;go_enter Tryz.func26,Tryz.ntmps26
 go_wp2_with fail
 go_loopw [4,5] (fun r i wr=> ∃(k:Nat),k≤n∧i= .int .i64 k∧r= .bool false∧Below w.heap.size w wr) (fun _ i _=>n - (intOf i).toNat)
 case atStart=>exact⟨0,Nat.zero_le _,rfl,rfl,Below.refl _ _⟩
 case round=>
  obtain⟨k,hk,rfl,rfl,hbw⟩:=hrel;by_cases hlt:k<n
  ·obtain⟨b,o,rfl,hbs,g0,hop⟩:=(HS.o.la hbw).at_ (k:=k) (by rw [HN.o];exact hlt);obtain⟨b',o',rfl,hbs',g0',hop'⟩:=(HS'.o.la hbw).at_ (k:=k) (by rw [HN'.o];exact hlt);have he:=HE.o k (by rw [HN.o];exact hlt) (by rw [HN'.o];exact hlt);have hlen:=HL.o _ (List.getElem_mem (show k<L.length by rw [HN.o];exact hlt));generalize L[k]'(by rw [HN.o];exact hlt)=q at*;generalize L'[k]'(by rw [HN'.o];exact hlt)=q' at*;obtain⟨qA,qc,qp⟩:=q;obtain⟨qA',qc',qp'⟩:=q';dsimp only at*;subst he;have HC:=h_ (fun W h h'=>nl_ W qA qA' qc qc' qp' h h' hlen);have HP:=h_ hop;have HP':=h_ hop';clear hop hop' hlen;go_wp2_with fail
   go_region_law (first
    | (go_simp;go_at_call 67;refine(HC.o _ ?_ ?_).mono ?_;exact HP.o;exact HP'.o;rintro e w2 ⟨rfl,hb2⟩;obtain⟨⟨d2,os2⟩,rfl⟩:=e_ hb2))
   all_goals(
    exact m200_)
  ·obtain rfl:k=n:=(by omega);go_wp2_with fail
   go_ret
   exact⟨rfl,bf_⟩
theorem bas_(w:World)(s h:Int)(A A':Option Addr)(c c' n:Nat)(L L':List OpV)(hs:OpsIn w A L)(hs':OpsIn w A' L')(hp:L'.map OpV.ps=L.map OpV.ps)(hn:L.length=n)(hm:n≤1048577)(hl: ∀o∈L,o.ps.length≤1048576):
 Calls Tryz.prog 27 #[edgeV s h A n c,edgeV s h A' n c'] w (R_ w (.bool true)):=by
 have HC:=h_ (fun W h h'=>sl_ W A A' c c' n L L' h h' hp hn hm hl);have HS:=h_ hs;have HS':=h_ hs';clear hs hs' hp hl hn;go_enter Tryz.func27,Tryz.ntmps27
 go_wp2_with fail
 refine(HC.o _ (HS.o.la bz_) (HS'.o.la bz_)).mono ?_;rintro e w1 ⟨rfl,hb1⟩;obtain⟨⟨d1,os1⟩,rfl⟩:=e_ hb1;go_wp2_with fail
 go_ret
 exact⟨by simp,bz_⟩
theorem kq_(w:World)(A A':Option Addr)(c c' n:Nat)(L L':List FrameV)(hs:FramesIn w A L)(hs':FramesIn w A' L')(hp:L'.map FrameV.d=L.map FrameV.d)(hn:L.length=n)(hm:n≤1048577)(hl: ∀f∈L,f.o.ps.length≤1048576):
 Calls Tryz.prog 69 #[.slice A n c,.slice A' n c'] w (R_ w (.bool true)):=by
 have hn':L'.length=n:=by rw [←hn,←List.length_map (f:=FrameV.d),hp,List.length_map]
 have HS:=h_ hs;have HS':=h_ hs';have HL:=h_ hl;have HN:=h_ hn;have HN':=h_ hn';have HE:=h_ hp;clear hs hs' hl hn hn' hp;go_enter Tryz.func69,Tryz.ntmps69
 go_wp2_with fail
 go_loopw [4,5] (fun r i wr=> ∃(k:Nat),k≤n∧i= .int .i64 k∧r= .bool false∧Below w.heap.size w wr) (fun _ i _=>n - (intOf i).toNat)
 case atStart=>exact⟨0,Nat.zero_le _,rfl,rfl,Below.refl _ _⟩
 case round=>
  obtain⟨k,hk,rfl,rfl,hbw⟩:=hrel;by_cases hlt:k<n
  ·obtain⟨b,o,rfl,hbs,g0,g1,g2,g3,g4,hop⟩:=(HS.o.la hbw).at_ (k:=k) (by rw [HN.o];exact hlt);obtain⟨b',o',rfl,hbs',g0',g1',g2',g3',g4',hop'⟩:=(HS'.o.la hbw).at_ (k:=k) (by rw [HN'.o];exact hlt);have he:=d_at HE.o (i:=k) (by rw [HN.o];exact hlt) (by rw [HN'.o];exact hlt);have hlen:=HL.o _ (List.getElem_mem (show k<L.length by rw [HN.o];exact hlt));generalize L[k]'(by rw [HN.o];exact hlt)=q at*;generalize L'[k]'(by rw [HN'.o];exact hlt)=q' at*;obtain⟨fk,fh,fe,⟨qA,qc,qp⟩,fs⟩:=q;obtain⟨fk',fh',fe',⟨qA',qc',qp'⟩,fs'⟩:=q';dsimp only at*;simp only [FrameV.d,FrameD.mk.injEq]at he;obtain⟨rfl,rfl,rfl,rfl,rfl⟩:=he;have HC:=h_ (fun W h h'=>mc_ W fk' fh' fe' qA qA' qc qc' qp' fs' h h' hlen);have HP:=h_ hop;have HP':=h_ hop';clear hop hop' hlen;go_wp2_with fail
   go_region_law (first
    | (go_simp;go_at_call 68;refine(HC.o _ ?_ ?_).mono ?_;exact HP.o;exact HP'.o;rintro e w2 ⟨rfl,hb2⟩;obtain⟨⟨d2,os2⟩,rfl⟩:=e_ hb2))
   all_goals(
    exact m200_)
  ·obtain rfl:k=n:=(by omega);go_wp2_with fail
   go_ret
   exact⟨rfl,bf_⟩
theorem bat_(w:World)(l l':LinkV)(hi:l.In w)(hi':l'.In w)(hd:l'.d=l.d)(hl:l.s.length≤1048577∧l.q.length≤1048577)(hm:(∀f∈l.s,f.o.ps.length≤1048576)∧ ∀f∈l.q,f.o.ps.length≤1048576):
 Calls Tryz.prog 28 #[l.val,l'.val] w (R_ w (.bool true)):=by
 obtain⟨e,n,sA,sc,s,qA,qc,q,h⟩:=l;obtain⟨e',n',sA',sc',s',qA',qc',q',h'⟩:=l';simp only [LinkV.d,LinkD.mk.injEq]at hd;obtain⟨rfl,rfl,h1,h2,rfl⟩:=hd;have l1:s'.length=s.length:=by rw [←List.length_map (f:=FrameV.d),h1,List.length_map]
 have l2:q'.length=q.length:=by rw [←List.length_map (f:=FrameV.d),h2,List.length_map]
 have H1:=h_ (fun W g g'=>kq_ W sA sA' sc sc' s.length s s' g g' h1 rfl hl.1 hm.1);have H2:=h_ (fun W g g'=>kq_ W qA qA' qc qc' q.length q q' g g' h2 rfl hl.2 hm.2);have HI:=h_ hi;have HI':=h_ hi';have hv:(LinkV.val ⟨e',n',sA',sc',s',qA',qc',q',h'⟩)= .agg #[.int .i64 e',.int .i64 n',.slice sA' s.length sc',.slice qA' q.length qc',.int .i64 h']:=by
  dsimp only [LinkV.val];rw [l1,l2]
 rw [hv];clear hi hi' h1 h2 l1 l2 hl hm hv;go_enter Tryz.func28,Tryz.ntmps28
 go_wp2_with fail
 refine(H1.o _ (HI.o.s.la bz_) (HI'.o.s.la bz_)).mono ?_;rintro r w1 ⟨rfl,hb1⟩;obtain⟨⟨d1,os1⟩,rfl⟩:=e_ hb1;go_wp2_with fail
 refine(H2.o _ (HI.o.q.la bz_) (HI'.o.q.la bz_)).mono ?_;rintro r w2 ⟨rfl,hb2⟩;obtain⟨⟨d2,os2⟩,rfl⟩:=e_ hb2;go_wp2_with fail
 go_ret
 exact⟨by simp,bz_⟩
structure PairAt (w:World) (vs us:Array Value) (W:World):Prop where
 a:W.heap[w.heap.size]?=some (.cells vs 28 (0,0))
 b:W.heap[w.heap.size+1]?=some (.cells us 28 (0,0))
 w:Below w.heap.size w W
theorem PairAt.new(w:World)(vs us:Array Value):PairAt w vs us ((w.alloc (.cells vs 28)).alloc (.cells us 28)):=
 ⟨(q_ _ _ _ (by simp)).trans (World.alloc_heap_new _ _),by have:=World.alloc_heap_new (w.alloc (.cells vs 28)) (.cells us 28);rwa [World.size_alloc]at this,bAlloc bA_ _⟩
theorem PairAt.la{w W W':World}{vs us:Array Value}(k:PairAt w vs us W)(hb:Below W.heap.size W W'):PairAt w vs us W':=
 ⟨(hb.block _ (Array.getElem?_eq_some_iff.1 k.a).1).trans k.a,(hb.block _ (Array.getElem?_eq_some_iff.1 k.b).1).trans k.b,bThen k.w hb⟩
theorem r_{W:World}{B:Nat}{v0 v1 v2 v3 v4 v5 v6 v7:Value}{t:TypeId}(h:W.heap[B]?=some (.cells #[v0,v1,v2,v3,v4,v5,v6,v7] t (0,0))):
 W.cell? ⟨B,0,none⟩=some v0∧W.cell? ⟨B,1,none⟩=some v1∧W.cell? ⟨B,2,none⟩=some v2∧W.cell? ⟨B,3,none⟩=some v3∧W.cell? ⟨B,4,none⟩=some v4∧W.cell? ⟨B,5,none⟩=some v5∧W.cell? ⟨B,6,none⟩=some v6∧W.cell? ⟨B,7,none⟩=some v7∧B<W.heap.size:=by
 have hz:=(Array.getElem?_eq_some_iff.1 h).1;refine⟨?_,?_,?_,?_,?_,?_,?_,?_,hz⟩ <;> (unfold World.cell?;rw [h];rfl)
theorem PairAt.cells{w W:World}{v0 v1 v2 v3 v4 v5 v6 v7 u0 u1 u2 u3 u4 u5 u6 u7:Value}(k:PairAt w #[v0,v1,v2,v3,v4,v5,v6,v7] #[u0,u1,u2,u3,u4,u5,u6,u7] W):
 (W.cell? ⟨w.heap.size,0,none⟩=some v0∧W.cell? ⟨w.heap.size,1,none⟩=some v1∧W.cell? ⟨w.heap.size,2,none⟩=some v2∧W.cell? ⟨w.heap.size,3,none⟩=some v3∧W.cell? ⟨w.heap.size,4,none⟩=some v4∧W.cell? ⟨w.heap.size,5,none⟩=some v5∧W.cell? ⟨w.heap.size,6,none⟩=some v6∧W.cell? ⟨w.heap.size,7,none⟩=some v7∧w.heap.size<W.heap.size)∧
 W.cell? ⟨w.heap.size+1,0,none⟩=some u0∧W.cell? ⟨w.heap.size+1,1,none⟩=some u1∧W.cell? ⟨w.heap.size+1,2,none⟩=some u2∧W.cell? ⟨w.heap.size+1,3,none⟩=some u3∧W.cell? ⟨w.heap.size+1,4,none⟩=some u4∧W.cell? ⟨w.heap.size+1,5,none⟩=some u5∧W.cell? ⟨w.heap.size+1,6,none⟩=some u6∧W.cell? ⟨w.heap.size+1,7,none⟩=some u7∧w.heap.size+1<W.heap.size:=
 ⟨r_ k.a,r_ k.b⟩
theorem pl_(w:World)(n n':NodeV)(hi:n.In w)(hi':n'.In w)(hd:n'.d=n.d)(hm:n.Mid):
 Calls Tryz.prog 11 #[n.val,n'.val] w (R_ w (.bool true)):=by
 obtain⟨me,ep,up,rd,t,sA,sc,S,uA,uc,U,mA,mc,M⟩:=n;obtain⟨me',ep',up',rd',t',sA',sc',S',uA',uc',U',mA',mc',M'⟩:=n';simp only [NodeV.d,NodeD.mk.injEq]at hd;obtain⟨rfl,rfl,rfl,rfl,rfl,h1,h2,rfl⟩:=hd;have l1:S'.length=S.length:=by rw [←List.length_map (f:=SideV.d),h1,List.length_map]
 have l2:U'.length=U.length:=by rw [←List.length_map (f:=OpV.ps),h2,List.length_map]
 have HU:=h_ (fun W g g'=>sl_ W uA uA' uc uc' U.length U U' g g' h2 rfl hm.ul hm.undo);have HI:=h_ hi;have HI':=h_ hi';have HM:=h_ hm;have H1:=h_ h1;have HL1:=h_ l1;have hml:M'.length≤1048577:=hm.ml;have hsl:S.length≤1048577:=hm.sl;have hv:(NodeV.val ⟨me',ep',up',rd',t',sA',sc',S',uA',uc',U',mA',mc',M'⟩)= .agg #[.int .i64 me',.int .i64 ep',.int .i64 up',.bool rd',.string t',.slice sA' S.length sc',.slice uA' U.length uc',.slice mA' M'.length mc']:=by
  dsimp only [NodeV.val];rw [l1,l2]
 rw [hv];obtain⟨WA,hWA⟩:=q2_ ((w.alloc (.cells #[.int .i64 me',.int .i64 ep',.int .i64 up',.bool rd',.string t',.slice sA S.length sc,.slice uA U.length uc,.slice mA M'.length mc] 28)).alloc (.cells #[.int .i64 me',.int .i64 ep',.int .i64 up',.bool rd',.string t',.slice sA' S.length sc',.slice uA' U.length uc',.slice mA' M'.length mc'] 28));have HA2:=h_ (show PairAt w #[.int .i64 me',.int .i64 ep',.int .i64 up',.bool rd',.string t',.slice sA S.length sc,.slice uA U.length uc,.slice mA M'.length mc] #[.int .i64 me',.int .i64 ep',.int .i64 up',.bool rd',.string t',.slice sA' S.length sc',.slice uA' U.length uc',.slice mA' M'.length mc'] WA by
  rw [hWA];exact PairAt.new w _ _)
 have HW:=h_ hWA.symm;clear hi hi' hm h1 h2 l1 l2 hv hWA;go_enter Tryz.func11,Tryz.ntmps11
 go_wp2_with fail
 rw [HW.o];refine(HU.o _ (HI.o.undo.la HA2.o.w) (HI'.o.undo.la HA2.o.w)).mono ?_;rintro e w1 ⟨rfl,hb1⟩;have H1A:=h_ (HA2.o.la hb1);obtain⟨⟨n0,n1,n2,n3,n4,n5,n6,n7,nz⟩,m0,m1,m2,m3,m4,m5,m6,m7,mz⟩:=H1A.o.cells;clear hb1;go_wp2_with fail
 clear n0 n1 n2 n3 n4 n5 n6 n7 nz m0 m1 m2 m3 m4 m5 m6 m7 mz;go_loopw [5] (fun i wr=> ∃k:Nat,k≤M'.length∧i= .int .i64 k∧Hid (PairAt w #[.int .i64 me',.int .i64 ep',.int .i64 up',.bool rd',.string t',.slice sA S.length sc,.slice uA U.length uc,.slice mA M'.length mc] #[.int .i64 me',.int .i64 ep',.int .i64 up',.bool rd',.string t',.slice sA' S.length sc',.slice uA' U.length uc',.slice mA' M'.length mc'] wr)) (fun i _=>M'.length - (intOf i).toNat)
 case atStart=>exact⟨0,Nat.zero_le _,rfl,H1A⟩
 case round=>
 obtain⟨k,hk,rfl,HO⟩:=hrel;obtain⟨⟨n0,n1,n2,n3,n4,n5,n6,n7,nz⟩,m0,m1,m2,m3,m4,m5,m6,m7,mz⟩:=HO.o.cells;by_cases hlt:k<M'.length
 ·obtain⟨b,o,rfl,hbs,hc⟩:=bh_ markCells 2 bp_ (Sl.la HI.o.marks HO.o.w) hlt;obtain⟨b',o',rfl,hbs',hc'⟩:=bh_ markCells 2 bp_ (Sl.la HI'.o.marks HO.o.w) hlt;have c0:wr.cell? ⟨b,o+k*2,none⟩=some (.int .i64 M'[k].1):=hc 0 _ rfl;have c1:wr.cell? ⟨b,o+k*2+1,none⟩=some (.int .i64 M'[k].2):=hc 1 _ rfl;have d0:wr.cell? ⟨b',o'+k*2,none⟩=some (.int .i64 M'[k].1):=hc' 0 _ rfl;have d1:wr.cell? ⟨b',o'+k*2+1,none⟩=some (.int .i64 M'[k].2):=hc' 1 _ rfl;have hki:(k:Int)<(M'.length:Int):=by omega
  clear hc hc';generalize M'[k]=m at*;obtain⟨ma,mh⟩:=m;dsimp only at c0 c1 d0 d1;go_wp2_with fail
  go_quiet (fail)
  go_wp2_with fail
  go_roundw
  case rel=>exact⟨k+1,by omega,by go_num,h_ (HO.o.la bz_)⟩
  case measure=>simp [intOf];omega
 ·obtain rfl:k=M'.length:=by omega
  go_wp2_with fail
  clear n0 n1 n2 n3 n4 n5 n6 n7 nz m0 m1 m2 m3 m4 m5 m6 m7 mz;go_loopw [6] (fun i wr=> ∃k:Nat,k≤S.length∧i= .int .i64 k∧Hid (PairAt w #[.int .i64 me',.int .i64 ep',.int .i64 up',.bool rd',.string t',.slice sA S.length sc,.slice uA U.length uc,.slice mA M'.length mc] #[.int .i64 me',.int .i64 ep',.int .i64 up',.bool rd',.string t',.slice sA' S.length sc',.slice uA' U.length uc',.slice mA' M'.length mc'] wr)) (fun i _=>S.length - (intOf i).toNat)
  case atStart=>exact⟨0,Nat.zero_le _,rfl,HO⟩
  case round=>
  obtain⟨k,hk,rfl,HO⟩:=hrel;obtain⟨⟨n0,n1,n2,n3,n4,n5,n6,n7,nz⟩,m0,m1,m2,m3,m4,m5,m6,m7,mz⟩:=HO.o.cells;by_cases hlt:k<S.length
  ·have hlt':k<S'.length:=(by rw [HL1.o];exact hlt);obtain⟨b,o,rfl,hbs,hc⟩:=bh_ SideV.cells 10 SideV.cells_len (Sl.la HI.o.sides.row HO.o.w) hlt;obtain⟨b',o',rfl,hbs',hc'⟩:=bh_ SideV.cells 10 SideV.cells_len (Sl.la HI'.o.sides.row HO.o.w) hlt';have c0:wr.cell? ⟨b,o+k*10,none⟩=some (.int .i64 (S[k]).p):=hc 0 _ rfl;have c1:wr.cell? ⟨b,o+k*10+1,none⟩=some (.bool (S[k]).j):=hc 1 _ rfl;have c2:wr.cell? ⟨b,o+k*10+2,none⟩=some (.int .i64 (S[k]).s):=hc 2 _ rfl;have c3:wr.cell? ⟨b,o+k*10+3,none⟩=some (.int .i64 (S[k]).h):=hc 3 _ rfl;have c4:wr.cell? ⟨b,o+k*10+4,none⟩=some (.slice (S[k]).A (S[k]).L.length (S[k]).c):=hc 4 _ rfl;have c5:wr.cell? ⟨b,o+k*10+5,none⟩=some (.int .i64 (S[k]).k.e):=hc 5 _ rfl;have c6:wr.cell? ⟨b,o+k*10+6,none⟩=some (.int .i64 (S[k]).k.n):=hc 6 _ rfl;have c7:wr.cell? ⟨b,o+k*10+7,none⟩=some (.slice (S[k]).k.sA (S[k]).k.s.length (S[k]).k.sc):=hc 7 _ rfl;have c8:wr.cell? ⟨b,o+k*10+8,none⟩=some (.slice (S[k]).k.qA (S[k]).k.q.length (S[k]).k.qc):=hc 8 _ rfl;have c9:wr.cell? ⟨b,o+k*10+9,none⟩=some (.int .i64 (S[k]).k.h):=hc 9 _ rfl;have d0:wr.cell? ⟨b',o'+k*10,none⟩=some (.int .i64 (S'[k]'hlt').p):=hc' 0 _ rfl;have d1:wr.cell? ⟨b',o'+k*10+1,none⟩=some (.bool (S'[k]'hlt').j):=hc' 1 _ rfl;have d2:wr.cell? ⟨b',o'+k*10+2,none⟩=some (.int .i64 (S'[k]'hlt').s):=hc' 2 _ rfl;have d3:wr.cell? ⟨b',o'+k*10+3,none⟩=some (.int .i64 (S'[k]'hlt').h):=hc' 3 _ rfl;have d4:wr.cell? ⟨b',o'+k*10+4,none⟩=some (.slice (S'[k]'hlt').A (S'[k]'hlt').L.length (S'[k]'hlt').c):=hc' 4 _ rfl;have d5:wr.cell? ⟨b',o'+k*10+5,none⟩=some (.int .i64 (S'[k]'hlt').k.e):=hc' 5 _ rfl;have d6:wr.cell? ⟨b',o'+k*10+6,none⟩=some (.int .i64 (S'[k]'hlt').k.n):=hc' 6 _ rfl;have d7:wr.cell? ⟨b',o'+k*10+7,none⟩=some (.slice (S'[k]'hlt').k.sA (S'[k]'hlt').k.s.length (S'[k]'hlt').k.sc):=hc' 7 _ rfl;have d8:wr.cell? ⟨b',o'+k*10+8,none⟩=some (.slice (S'[k]'hlt').k.qA (S'[k]'hlt').k.q.length (S'[k]'hlt').k.qc):=hc' 8 _ rfl;have d9:wr.cell? ⟨b',o'+k*10+9,none⟩=some (.int .i64 (S'[k]'hlt').k.h):=hc' 9 _ rfl;have hki:(k:Int)<(S.length:Int):=(by omega);have HXI:=h_ ((HI.o.sides.each _ (List.getElem_mem hlt)).la HO.o.w);have HYI:=h_ ((HI'.o.sides.each _ (List.getElem_mem hlt')).la HO.o.w);have HMX:=h_ (HM.o.sides _ (List.getElem_mem hlt));have HDD:=h_ (sd_at H1.o hlt hlt');clear hc hc';generalize S[k]=x at*;generalize S'[k]=y at*;obtain⟨p,j,s,h,A,c,L,kk⟩:=x;obtain⟨p',j',s',h',A',c',L',kk'⟩:=y;have hdd:=HDD.o;simp only [SideV.d,SideD.mk.injEq]at hdd;obtain⟨rfl,rfl,rfl,rfl,e1,e2⟩:=hdd;dsimp only at c0 c1 c2 c3 c4 c5 c6 c7 c8 c9 d0 d1 d2 d3 d4 d5 d6 d7 d8 d9;have el:L'.length=L.length:=(by rw [←List.length_map (f:=OpV.ps),e1,List.length_map]);have HCE:=h_ (fun W g g'=>bas_ W s' h' A A' c c' L.length L L' g g' e1 rfl HMX.o.len HMX.o.ops);have HCL:=h_ (fun W g g'=>bat_ W kk kk' g g' e2 HMX.o.link HMX.o.frames);rw [el]at d4;clear el e1 e2 HDD;go_wp2_with fail
   all_goals(
    refine(HCE.o _ (HXI.o.ops.la bz_) (HYI.o.ops.la bz_)).mono ?_;rintro r w5 ⟨rfl,hb5⟩;obtain⟨⟨d5,os5⟩,rfl⟩:=e_ hb5;go_wp2_with fail
    refine(HCL.o _ (HXI.o.link.la bz_) (HYI.o.link.la bz_)).mono ?_;rintro r w6 ⟨rfl,hb6⟩;obtain⟨⟨d6,os6⟩,rfl⟩:=e_ hb6;go_wp2_with fail
    go_roundw
    case rel=>exact⟨k+1,by omega,by go_num,h_ (HO.o.la bz_)⟩
    case measure=>simp [intOf];omega)
  ·obtain rfl:k=S.length:=(by omega);go_wp2_with fail
   go_ret
   exact⟨rfl,HO.o.w⟩
structure OpsS (S:Nat→Prop) (w:World) (A:OA_) (L:List OpV):Prop where
 row:Sl S w 1 A L.length (L.map OpV.val)
 each: ∀o∈L,OpIn S w o.A o.ps
theorem OpsS.mv{S S':Nat→Prop}{w w':World}{A:Option Addr}{L:List OpV}(h:OpsS S w A L)(k: ∀b,S b→S' b∧w'.heap[b]?=w.heap[b]?):OpsS S' w' A L:=⟨h.row.mv k,fun o ho=>(h.each o ho).mv k⟩
theorem OpsS.of{w:World}{base:Nat}{A:Option Addr}{c:Nat}{L:List OpV}(h:OpsOwn w base A c L):OpsS (fun b=>base≤b∧b<w.heap.size) w A L:=
 ⟨(Sl.of_own _ h.row).mv fun _ hb=>⟨hb,rfl⟩,fun o ho=>(h.each o ho).mv fun _ hb=>⟨hb.1,rfl⟩⟩
structure NodeV.InS (S:Nat→Prop) (w:World) (n:NodeV):Prop where
 row:Sl S w 10 n.sA n.S.length (n.S.flatMap SideV.cells)
 each: ∀x∈n.S,x.InS S w
 undo:OpsS S w n.uA n.U
 marks:Sl S w 2 n.mA n.M.length (n.M.flatMap markCells)
theorem NodeV.InS.mv{S S':Nat→Prop}{w w':World}{n:NodeV}(h:n.InS S w)(k: ∀b,S b→S' b∧w'.heap[b]?=w.heap[b]?):n.InS S' w':=
 ⟨h.row.mv k,fun x hx=>(h.each x hx).mv k,h.undo.mv k,h.marks.mv k⟩
theorem NodeV.InS.in_{S:Nat→Prop}{w:World}{n:NodeV}(h:n.InS S w)(k: ∀b,S b→b<w.heap.size):n.In w:=by
 have h':=h.mv (S':=(· <w.heap.size)) fun b hb=>⟨k b hb,rfl⟩
 exact⟨⟨h'.row,fun x hx=>(h.each x hx).in_ k⟩,⟨h'.undo.row,h'.undo.each⟩,h'.marks⟩
theorem infoSide:(Tryz.prog.info? 60).map (fun i=>(i.zero,i.size,i.bytes))=some (some (.agg #[.int .i64 0,.bool false,.int .i64 0,.int .i64 0,.slice none 0 0,.int .i64 0,.int .i64 0,.slice none 0 0,.slice none 0 0,.int .i64 0]),10,128):=by kernel_rfl
structure OwnAt (w:World) (R X:Nat) (nv xv:Array Value) (W:World):Prop where
 nd:W.heap[w.heap.size]?=some (.cells nv 28 (0,0))
 r:W.heap[R]?=some (.cells #[.int .i64 0,.int .i64 0,.int .i64 0,.bool false,.string ⟨#[]⟩,.slice none 0 0,.slice none 0 0,.slice none 0 0] 28 (0,0))
 x:W.heap[X]?=some (.cells xv 28 (0,0))
 b:Below w.heap.size w W
 wr:w.heap.size<R
 rx:R<X
 xz:X<W.heap.size
theorem OwnAt.la{w W W':World}{R X:Nat}{nv xv:Array Value}(k:OwnAt w R X nv xv W)(hb:Below W.heap.size W W'):OwnAt w R X nv xv W':=by
 have h1:=k.wr;have h2:=k.rx;have h3:=k.xz;have h4:=hb.size;exact⟨(hb.block _ (by omega)).trans k.nd,(hb.block _ (by omega)).trans k.r,(hb.block _ h3).trans k.x,bThen k.b hb,h1,h2,by omega⟩
theorem OwnAt.set{w W:World}{R X:Nat}{nv xv:Array Value}(k:OwnAt w R X nv xv W)(j:Nat)(v:Value):OwnAt w R X nv (xv.setIfInBounds j v) (W.setCell ⟨X,j,none⟩ v):=by
 have h1:=k.wr;have h2:=k.rx;exact⟨(bH_ (by show w.heap.size≠X;omega)).trans k.nd,(bH_ (by show R≠X;omega)).trans k.r,f_ j v k.x,bSet k.b (p:=⟨X,j,none⟩) (by show w.heap.size≤X;omega) v,h1,h2,by simpa [World.setCell]using k.xz⟩
theorem OwnAt.new(w:World)(nv xv:Array Value):OwnAt w (w.heap.size+1) (w.heap.size+2) nv xv (((w.alloc (.cells nv 28)).alloc (.cells #[.int .i64 0,.int .i64 0,.int .i64 0,.bool false,.string ⟨#[]⟩,.slice none 0 0,.slice none 0 0,.slice none 0 0] 28)).alloc (.cells xv 28)):=by
 refine⟨(q_ _ _ _ (by simp)).trans ((q_ _ _ _ (by simp)).trans (World.alloc_heap_new _ _)),(q_ _ _ _ (by simp)).trans ?_,?_,bAlloc (bAlloc bA_ _) _,by omega,by omega,by simp⟩
 ·exact m230_
 ·have:=World.alloc_heap_new ((w.alloc (.cells nv 28)).alloc (.cells #[.int .i64 0,.int .i64 0,.int .i64 0,.bool false,.string ⟨#[]⟩,.slice none 0 0,.slice none 0 0,.slice none 0 0] 28)) (.cells xv 28);rwa [World.size_alloc,World.size_alloc]at this
section
variable {W:World}{B:Nat}
include W B
theorem gk_{v0 v1 v2 v3 v4 v5 v6 v7:Value}{t:TypeId}(h:W.heap[B]?=some (.cells #[v0,v1,v2,v3,v4,v5,v6,v7] t (0,0))):
 W.frozen? ⟨B,0,none⟩=false∧W.frozen? ⟨B,1,none⟩=false∧W.frozen? ⟨B,2,none⟩=false∧W.frozen? ⟨B,3,none⟩=false∧W.frozen? ⟨B,4,none⟩=false∧W.frozen? ⟨B,5,none⟩=false∧W.frozen? ⟨B,6,none⟩=false∧W.frozen? ⟨B,7,none⟩=false:=by
 refine⟨?_,?_,?_,?_,?_,?_,?_,?_⟩ <;> (unfold World.frozen?;rw [h];simp)
theorem j_{v0 v1 v2 v3 v4 v5 v6 v7 v8 v9:Value}{t:TypeId}(h:W.heap[B]?=some (.cells #[v0,v1,v2,v3,v4,v5,v6,v7,v8,v9] t (0,0))):
 W.cell? ⟨B,0,none⟩=some v0∧W.cell? ⟨B,1,none⟩=some v1∧W.cell? ⟨B,2,none⟩=some v2∧W.cell? ⟨B,3,none⟩=some v3∧W.cell? ⟨B,4,none⟩=some v4∧W.cell? ⟨B,5,none⟩=some v5∧W.cell? ⟨B,6,none⟩=some v6∧W.cell? ⟨B,7,none⟩=some v7∧W.cell? ⟨B,8,none⟩=some v8∧W.cell? ⟨B,9,none⟩=some v9∧B<W.heap.size:=by
 have hz:=(Array.getElem?_eq_some_iff.1 h).1;refine⟨?_,?_,?_,?_,?_,?_,?_,?_,?_,?_,hz⟩ <;> (unfold World.cell?;rw [h];rfl)
theorem tenF{vs:Array Value}{t:TypeId}(h:W.heap[B]?=some (.cells vs t (0,0)))(j:Nat):W.frozen? ⟨B,j,none⟩=false:=by
 unfold World.frozen?;rw [h];simp
end
theorem SideV.InS.of{w:World}{F b1 b2 b3:Nat}{x:SideV}(h1:OpsOwn w b1 x.A x.c x.L)(k1:F≤b1)(h2:FramesOwn w b2 x.k.sA x.k.sc x.k.s)(k2:F≤b2)(h3:FramesOwn w b3 x.k.qA x.k.qc x.k.q)(k3:F≤b3):x.InS (fun b=>F≤b∧b<w.heap.size) w:=
 ⟨(Sl.of_own _ h1.row).mv fun b hb => ⟨⟨by omega, hb.2⟩, rfl⟩, fun o ho => (h1.each o ho).mv fun b hb => ⟨⟨by omega, hb.1.2⟩, rfl⟩,
   (Sl.of_own _ h2.row).mv fun b hb=>⟨⟨by omega,hb.2⟩,rfl⟩,fun f hf=>(h2.each f hf).mv fun b hb=>⟨⟨by omega,hb.1.2⟩,rfl⟩,
   (Sl.of_own _ h3.row).mv fun b hb=>⟨⟨by omega,hb.2⟩,rfl⟩,fun f hf=>(h3.each f hf).mv fun b hb=>⟨⟨by omega,hb.1.2⟩,rfl⟩⟩
theorem ia_{X Y:World}{d base:Nat}{os:Array Obj}{A:Option Addr}{c:Nat}{L:List OpV}(h:OpsOwn (Go.Sort.grow (redrawn X d) os) base A c L)(hz:X.heap.size=Y.heap.size)(hb:X.heap.size≤base):OpsS (fun b=>X.heap.size≤b∧b<(Go.Sort.grow (redrawn Y d) os).heap.size) (Go.Sort.grow (redrawn Y d) os) A L:=
 (OpsS.of h).mv fun b hx=>⟨⟨by omega,by have h1:=hx.2;simp [Go.Sort.grow,redrawn]at h1⊢;omega⟩,ds_ X Y d os hz (by omega)⟩
theorem OwnAt.o{w WA G:World}{R X:Nat}{nv xv:Array Value}(h0:WA.heap[w.heap.size]?=some (.cells nv 28 (0,0))∧WA.heap[R]?=some (.cells #[.int .i64 0,.int .i64 0,.int .i64 0,.bool false,.string ⟨#[]⟩,.slice none 0 0,.slice none 0 0,.slice none 0 0] 28 (0,0)))(hb:Below w.heap.size w WA)(hwR:w.heap.size<R)(hR:R<WA.heap.size)(k:Below WA.heap.size WA G)(hX:WA.heap.size≤X)(x:G.heap[X]?=some (.cells xv 28 (0,0))):OwnAt w R X nv xv G:=
 ⟨(k.block _ (by omega)).trans h0.1,(k.block _ hR).trans h0.2,x,bThen hb k,hwR,by omega,(Array.getElem?_eq_some_iff.1 x).1⟩
theorem pq_(w:World)(nv:Array Value):
 ((w.alloc (.cells nv 28)).alloc (.cells #[.int .i64 0,.int .i64 0,.int .i64 0,.bool false,.string ⟨#[]⟩,.slice none 0 0,.slice none 0 0,.slice none 0 0] 28)).heap[w.heap.size]?=some (.cells nv 28 (0,0))∧((w.alloc (.cells nv 28)).alloc (.cells #[.int .i64 0,.int .i64 0,.int .i64 0,.bool false,.string ⟨#[]⟩,.slice none 0 0,.slice none 0 0,.slice none 0 0] 28)).heap[w.heap.size+1]?=some (.cells #[.int .i64 0,.int .i64 0,.int .i64 0,.bool false,.string ⟨#[]⟩,.slice none 0 0,.slice none 0 0,.slice none 0 0] 28 (0,0)):=by
 refine⟨(q_ _ _ _ (by simp)).trans (World.alloc_heap_new _ _),?_⟩;exact m230_
theorem OwnAt.grown{w W Z w3:World}{R X:Nat}{nv xv:Array Value}{ob:Option Nat}(k:OwnAt w R X nv xv W)(hb:Below W.heap.size W Z)(hg:Z.grownBy w3 ob)(hl: ∀g,ob=some g→X<g):OwnAt w R X nv xv w3:=by
 have h1:=k.wr;have h2:=k.rx;have h3:=k.xz;have h4:=hb.size;have h5:=hg.size;have hk: ∀b,b<W.heap.size→b≤X→w3.heap[b]?=W.heap[b]?:=fun b h hx=>(hg.block b (by omega) (fun e=>by have:=hl b e.symm;omega)).trans (hb.block b h);exact⟨(hk _ (by omega) (by omega)).trans k.nd,(hk _ (by omega) (by omega)).trans k.r,(hk _ h3 (Nat.le_refl _)).trans k.x,Below.grown (bThen k.b hb) hg (by have:=k.b.size;omega) (fun g e=>by have:=hl g e;omega),h1,h2,by omega⟩
theorem hy_{W Z w3:World}{ob:Option Nat}{B:Nat}(hb:Below W.heap.size W Z)(hg:Z.grownBy w3 ob)(hl: ∀g,ob=some g→B≤g):W.heap.size≤w3.heap.size∧ ∀b,b<W.heap.size→b<B→w3.heap[b]?=W.heap[b]?:=by
 have h4:=hb.size;have h5:=hg.size;exact⟨by omega,fun b h hx=>(hg.block b (by omega) (fun e=>by have:=hl b e.symm;omega)).trans (hb.block b h)⟩
theorem ownsB{w w':World}{base size n:Nat}{e:TypeId}{v:Value}{xs:List Value}(h:w.ownsRow base e size v n xs)(hb:Below w.heap.size w w'):w'.ownsRow base e size v n xs:=
 h.kept (row:=none) ⟨hb.os,hb.tape,hb.output,hb.size,fun k hk _=>hb.block k hk⟩ (by cases v.ownBlock <;> simp)
theorem ownsSet{w:World}{base size n P j:Nat}{e:TypeId}{v x:Value}{xs:List Value}(h:w.ownsRow base e size v n xs)(hP:v.ownBlock≠some P):(w.setCell ⟨P,j,none⟩ x).ownsRow base e size v n xs:=
 h.kept (row:=some P) ⟨rfl,rfl,rfl,by simp [World.setCell],fun k _ hk=>bH_ (fun e1=>hk (by simp [e1]))⟩ (.inr hP)
structure LinkV.InS (S:Nat→Prop) (w:World) (l:LinkV):Prop where
 s:Sl S w 5 l.sA l.s.length (l.s.flatMap FrameV.cells)
 so: ∀f∈l.s,OpIn S w f.o.A f.o.ps
 q:Sl S w 5 l.qA l.q.length (l.q.flatMap FrameV.cells)
 qo: ∀f∈l.q,OpIn S w f.o.A f.o.ps
theorem LinkV.InS.mv{S S':Nat→Prop}{w w':World}{l:LinkV}(h:l.InS S w)(k: ∀b,S b→S' b∧w'.heap[b]?=w.heap[b]?):l.InS S' w':=
 ⟨h.s.mv k,fun f hf=>(h.so f hf).mv k,h.q.mv k,fun f hf=>(h.qo f hf).mv k⟩
theorem LinkV.InS.in_{S:Nat→Prop}{w:World}{l:LinkV}(h:l.InS S w)(k: ∀b,S b→b<w.heap.size):l.In w:=by
 have h':=h.mv (S':=(· <w.heap.size)) fun b hb=>⟨k b hb,rfl⟩
 exact⟨⟨h'.s,h'.so⟩,⟨h'.q,h'.qo⟩⟩
structure PksS (S:Nat→Prop) (w:World) (A:OA_) (L:List PacketV):Prop where
 row:Sl S w 9 A L.length (L.flatMap PacketV.cells)
 each: ∀p∈L,OpIn S w p.f.o.A p.f.o.ps
theorem PksS.mv{S S':Nat→Prop}{w w':World}{A:Option Addr}{L:List PacketV}(h:PksS S w A L)(k: ∀b,S b→S' b∧w'.heap[b]?=w.heap[b]?):PksS S' w' A L:=⟨h.row.mv k,fun p hp=>(h.each p hp).mv k⟩
def RetSendF (w:World) (d:LinkD) (D:List PacketD) (er:Int) (e:Ending) (w':World):Prop:=
 ∃(l:LinkV) (A:OA_) (c:Nat) (L:List PacketV),e= .returned (.tuple #[l.val,.slice A L.length c,.int .i64 er])∧l.d=d∧L.map PacketV.d=D∧l.InS (fun b=>w.heap.size≤b∧b<w'.heap.size) w'∧PksS (fun b=>w.heap.size≤b∧b<w'.heap.size) w' A L∧Below w.heap.size w w'
def zeroN:NodeV:=⟨0,0,0,false,⟨#[]⟩,none,0,[],none,0,[],none,0,[]⟩
theorem ba_{w w':World}{base size n:Nat}{e:TypeId}{v:Value}{xs:List Value}(h:w.ownsRow base e size v n xs)(k: ∀b,v.ownBlock=some b→w'.heap[b]?=w.heap[b]?):w'.ownsRow base e size v n xs:=by
 refine⟨h.1,?_⟩;rcases h.2 with hn | ⟨g,cap,cur,e1,hb,hg,rest⟩
 ·exact .inl hn
 ·exact .inr ⟨g,cap,cur,e1,hb,(k g (by rw [e1];rfl)).trans hg,rest⟩
theorem cf_{w:World}{base base' size n:Nat}{e:TypeId}{v:Value}{xs:List Value}(h:w.ownsRow base e size v n xs)(hb:base'≤base):w.ownsRow base' e size v n xs:=
 ⟨h.1,h.2.imp id fun⟨g,cap,cur,e1,hg,rest⟩=>⟨g,cap,cur,e1,Nat.le_trans hb hg,rest⟩⟩
structure NodeOwned (w:World) (b0 b1 b2:Nat) (n:NodeV):Prop where
 mrow:w.ownsRow b0 53 2 (.slice n.mA n.M.length n.mc) n.M.length (n.M.flatMap markCells)
 mlt: ∀y,(Value.slice n.mA n.M.length n.mc).ownBlock=some y→y<b1
 srow:w.ownsRow b1 60 10 (.slice n.sA n.S.length n.sc) n.S.length (n.S.flatMap SideV.cells)
 slt: ∀y,(Value.slice n.sA n.S.length n.sc).ownBlock=some y→y<b2
 side: ∀x∈n.S,x.InS (fun b=>(b1≤b∧b<b2)∧(Value.slice n.sA n.S.length n.sc).ownBlock≠some b) w
 urow:w.ownsRow b2 30 1 (.slice n.uA n.U.length n.uc) n.U.length (n.U.map OpV.val)
 undo: ∀o∈n.U,OpIn (fun b=>(b2≤b∧b<w.heap.size)∧(Value.slice n.uA n.U.length n.uc).ownBlock≠some b) w o.A o.ps
 le0:b0≤b1
 le1:b1≤b2
 le2:b2≤w.heap.size
def RetNodeS (w:World) (d:NodeD) (e:Ending) (w':World):Prop:=
 ∃(n:NodeV) (b1 b2:Nat),e= .returned n.val∧n.d=d∧NodeOwned w' w.heap.size b1 b2 n∧Below w.heap.size w w'
theorem bcr_(w:World)(n:NodeV)(hi:n.In w)(hm:n.Small):Calls Tryz.prog 44 #[n.val] w (RetNodeS w n.d):=by
 obtain⟨i0,hi0,hz0,hz1,hz2⟩:=info_parts infoSide;obtain⟨me,ep,up,rd,t,sA,sc,S,uA,uc,U,mA,mc,M⟩:=n;have hSL:S.length≤1048576:=hm.sl;have HM:=h_ hm;have HI:=h_ hi;have HCM:=h_ (fun W hs=>tm_ W mA mc M hs hm.ml);have HCU:=h_ (fun W hs=>sb_ W uA uc U hs hm.ul (fun o ho=>(hm.undo o ho).len));clear hi hm;have HA:=h_ (OwnAt.new w #[.int .i64 me,.int .i64 ep,.int .i64 up,.bool rd,.string t,.slice sA S.length sc,.slice uA U.length uc,.slice mA M.length mc] #[.int .i64 me,.int .i64 ep,.int .i64 up,.bool rd,.string t,.slice sA S.length sc,.slice uA U.length uc,.slice mA M.length mc]);obtain⟨WA,hWA⟩:=q2_ (((w.alloc (.cells #[.int .i64 me,.int .i64 ep,.int .i64 up,.bool rd,.string t,.slice sA S.length sc,.slice uA U.length uc,.slice mA M.length mc] 28)).alloc (.cells #[.int .i64 0,.int .i64 0,.int .i64 0,.bool false,.string ⟨#[]⟩,.slice none 0 0,.slice none 0 0,.slice none 0 0] 28)).alloc (.cells #[.int .i64 me,.int .i64 ep,.int .i64 up,.bool rd,.string t,.slice sA S.length sc,.slice uA U.length uc,.slice mA M.length mc] 28));rw [←hWA]at HA;have HW:=h_ hWA.symm;obtain⟨R,hR⟩:=q2_ (w.heap.size+1);obtain⟨X,hX⟩:=q2_ (w.heap.size+2);rw [←hR,←hX]at HA;have HRE:=h_ (show w.heap.size+1=R from hR.symm);have HXE:=h_ (show w.heap.size+1+1=X by omega);clear hWA hR hX;go_enter Tryz.func44,Tryz.ntmps44
 go_wp2_with fail
 all_goals(
  rw [HW.o,HXE.o,HRE.o];refine(HCM.o WA (Sl.la HI.o.marks HA.o.b)).mono ?_;rintro e w1 ⟨A7,c7,rfl,ho7,hb1⟩;have H1:=h_ (HA.o.la hb1);obtain⟨n0,n1,n2,n3,n4,n5,n6,n7,nz⟩:=r_ H1.o.nd;obtain⟨x0,x1,x2,x3,x4,x5,x6,x7,xz⟩:=r_ H1.o.x;obtain⟨y0,y1,y2,y3,y4,y5,y6,y7⟩:=gk_ H1.o.x;have hwX:w.heap.size<X:=by have:=H1.o.wr;have:=H1.o.rx;omega
  have hneX: ¬w.heap.size=X:=by omega
  have HO7:=h_ ho7;have HB1:=h_ hb1;clear ho7 hb1;go_wp2_with fail
  have H2:=h_ (((H1.o.set 5 (.slice none 0 0)).set 6 (.slice none 0 0)).set 7 (.slice A7 M.length c7));obtain⟨WB,hWB⟩:=q2_ (((w1.setCell ⟨X,5,none⟩ (.slice none 0 0)).setCell ⟨X,6,none⟩ (.slice none 0 0)).setCell ⟨X,7,none⟩ (.slice A7 M.length c7));rw [←hWB]at H2;have HM7o:=h_ (show WB.ownsRow WA.heap.size 53 2 (.slice A7 M.length c7) M.length (M.flatMap markCells)from ba_ (cf_ HO7.o (Nat.le_refl _)) fun b hb=>by
   have h1:=HA.o.xz;have h3:=HO7.o.lt b hb;have h2:WB.heap.size=w1.heap.size:=(by rw [hWB];simp [World.setCell]);have hne:b≠X:=(by omega);rw [hWB];exact(Below.heap_setCell _ ⟨X,7,none⟩ _ b hne).trans ((Below.heap_setCell _ ⟨X,6,none⟩ _ b hne).trans (Below.heap_setCell _ ⟨X,5,none⟩ _ b hne)))
  have HM7:=h_ (show Sl (fun b=>X<b∧b<WB.heap.size) WB 2 A7 M.length (M.flatMap markCells)from(Sl.of_own _ HO7.o).mv fun b hb=>by
   have h1:=HA.o.xz;have h2:WB.heap.size=w1.heap.size:=(by rw [hWB];simp [World.setCell]);have hne:b≠X:=(by omega);exact⟨⟨by omega,by omega⟩,by rw [hWB];exact(Below.heap_setCell _ ⟨X,7,none⟩ _ b hne).trans ((Below.heap_setCell _ ⟨X,6,none⟩ _ b hne).trans (Below.heap_setCell _ ⟨X,5,none⟩ _ b hne))⟩)
  have HWB:=h_ hWB.symm;have H2:=h_ (show OwnAt w R X #[.int .i64 me,.int .i64 ep,.int .i64 up,.bool rd,.string t,.slice sA S.length sc,.slice uA U.length uc,.slice mA M.length mc] #[.int .i64 me,.int .i64 ep,.int .i64 up,.bool rd,.string t,.slice none 0 0,.slice none 0 0,.slice A7 M.length c7] WB from H2.o);rw [HWB.o];clear n0 n1 n2 n3 n4 n5 n6 n7 nz x0 x1 x2 x3 x4 x5 x6 x7 xz y0 y1 y2 y3 y4 y5 y6 y7 hWB;obtain⟨B0,hB0⟩:=q2_ (WB.heap.size);rw [←hB0]at HM7;have hXB:X<B0:=by have:=H2.o.xz;omega
  have HB0:=h_ hB0;clear hB0;go_loopw [16] (fun i wr=> ∃(k:Nat) (L':List SideV) (Ao:OA_) (co:Nat),k≤S.length∧i= .int .i64 k∧Hid (L'.length=k)∧Hid (L'.map SideV.d=(S.take k).map SideV.d)∧Hid (OwnAt w R X #[.int .i64 me,.int .i64 ep,.int .i64 up,.bool rd,.string t,.slice sA S.length sc,.slice uA U.length uc,.slice mA M.length mc] #[.int .i64 me,.int .i64 ep,.int .i64 up,.bool rd,.string t,.slice Ao L'.length co,.slice none 0 0,.slice A7 M.length c7] wr)∧Hid (SidesOwn wr B0 Ao co L')∧Hid (B0≤wr.heap.size)∧Hid (∀b,X<b→b<B0→wr.heap[b]?=WB.heap[b]?)) (fun i _=>S.length - (intOf i).toNat)
  case atStart=>exact⟨0,[],none,0,Nat.zero_le _,rfl,rfl,rfl,H2,SidesOwn.nil _ _,h_ (by rw [HB0.o];exact Nat.le_refl _),fun _ _ _=>rfl⟩
  case round=>
   obtain⟨k,L',Ao,co,hk,rfl,hL',hps,HX,HS,hbz,hold⟩:=hrel;obtain⟨n0,n1,n2,n3,n4,n5,n6,n7,nz⟩:=r_ HX.o.nd;have hxz:=HX.o.xz;by_cases hlt:k<S.length
   ·obtain⟨b,o,rfl,hbs,hc⟩:=bh_ SideV.cells 10 SideV.cells_len (Sl.la HI.o.sides.row HX.o.b) hlt;have k116_:K_ (∀(P:Prop) (h:P:=by
    have HXI:=h_ ((HI.o.sides.each _ (List.getElem_mem hlt)).la HX.o.b);have k226_:K_ (∀(P:Prop) (h:P:=by
    have HCO:=h_ (fun W hs=>sb_ W A c L hs HSM.o.len (fun o ho=>(HSM.o.ops o ho).len));have HC1:=h_ (fun W hs=>kj_ W sA2 sc2 ks hs HSM.o.link.sl (fun f hf=>(HSM.o.link.s f hf).op.len));have HC2:=h_ (fun W hs=>kj_ W qA2 qc2 kq hs HSM.o.link.ql (fun f hf=>(HSM.o.link.q f hf).op.len));have k156_:K_ (∀(P:Prop) (h:P:=by
    clear hWX;go_wp2_with fail
    rw [HWX.o];refine(HCO.o WX (HXI.o.ops.la HBX.o)).mono ?_;rintro e w2 ⟨A1,c1',L1,rfl,hd1,ho1,hb2⟩;have hzw2:=hb2.size;have hF2w:=(hb2.block wr.heap.size (by omega)).trans HF0.o;obtain⟨F,hF⟩:=q2_ (wr.heap.size);rw [←hF]at hF2w;obtain⟨y0,y1,y2,y3,y4,y5,y6,y7,y8,y9,yz⟩:=j_ hF2w;have q4:=tenF hF2w 4;obtain⟨W3,hW3⟩:=q2_ (w2.setCell ⟨F,4,none⟩ (.slice A1 L1.length c1'));have HF3:=h_ (show W3.heap[F]?=some (.cells #[.int .i64 p,.bool j,.int .i64 s,.int .i64 h,.slice A1 L1.length c1',.int .i64 ke,.int .i64 kn,.slice sA2 ks.length sc2,.slice qA2 kq.length qc2,.int .i64 kh] 60 (0,0)) by rw [hW3];exact f_ 4 _ hF2w);have HB3:=h_ (show Below wr.heap.size wr W3 by rw [hW3];exact bSet (bThen HBX.o hb2) (p:=⟨F,4,none⟩) (by show wr.heap.size≤F;omega) _);have HO3:=h_ (show OpsOwn W3 WX.heap.size A1 c1' L1 by rw [hW3];exact ho1.kept (by simp [World.setCell]) (fun b hb hl=>bH_ (by show b≠F;omega)));have HD1:=h_ hd1;have hz3:W3.heap.size=w2.heap.size:=(by rw [hW3];simp [World.setCell]);have HW3:=h_ hW3.symm;rw [←hF];have HFE:=h_ hF;clear hd1 ho1 hb2 hF2w hW3 hF;go_wp2_with fail
    clear y0 y1 y2 y3 y4 y5 y6 y7 y8 y9 yz q4;rw [HW3.o];obtain⟨y0,y1,y2,y3,y4,y5,y6,y7,y8,y9,yz⟩:=j_ HF3.o;have q7:=tenF HF3.o 7;have q8:=tenF HF3.o 8;have HS3:=h_ (HXI.o.link.s.la HB3.o);have HQ3:=h_ (HXI.o.link.q.la HB3.o);go_region_law (first
     | (go_simp; go_at_call 91; (with_reducible refine (HC1.o _ ?_).mono ?_); exact HS3.o.la bz_; rintro e w4 ⟨A2, c2, L2, rfl, hd2, ho2, hb2⟩; have HB4 : Below W3.heap.size W3 w4 := bThen bz_ hb2
        have HF4:=(HB4.block _ yz).trans HF3.o;obtain⟨z0,z1,z2,z3,z4,z5,z6,z7,z8,z9,zz⟩:=j_ HF4;have v7:=tenF HF4 7;have v8:=tenF HF4 8)
     | (go_simp; go_at_call 91; (with_reducible refine (HC2.o _ ?_).mono ?_); exact HQ3.o.la (bThen HB4 bz_); rintro e w5 ⟨A3, c3, L3, rfl, hd3, ho3, hb3⟩; have HB5 : Below w4.heap.size w4 w5 := bThen bz_ hb3
        have HF5:=(HB5.block _ zz).trans HF4;obtain⟨p0,p1,p2,p3,p4,p5,p6,p7,p8,p9,pz⟩:=j_ HF5;have t7:=tenF HF5 7;have t8:=tenF HF5 8))
    all_goals(
     refine u_ (fun G=>G.heap[F]?=some (.cells #[.int .i64 p,.bool j,.int .i64 s,.int .i64 h,.slice A1 L1.length c1',.int .i64 ke,.int .i64 kn,.slice A2 L2.length c2,.slice A3 L3.length c3,.int .i64 kh] 60 (0,0))∧Below wr.heap.size wr G∧(⟨p,j,s,h,A1,c1',L1,⟨ke,kn,A2,c2,L2,A3,c3,L3,kh⟩⟩:SideV).InS (fun b=>wr.heap.size≤b∧b<G.heap.size) G) ⟨f_ 8 _ (f_ 7 _ HF5),?_,?_⟩ ?_
     ·have:=HFE.o;exact bSet (bSet (bThen HB3.o (bThen HB4 HB5)) (p:=⟨F,7,none⟩) (by show wr.heap.size≤F;omega) _) (p:=⟨F,8,none⟩) (by show wr.heap.size≤F;omega) _
     ·have hfe:=HFE.o;have hG: ∀b,b≠F→((w5.setCell ⟨F,7,none⟩ (.slice A2 L2.length c2)).setCell ⟨F,8,none⟩ (.slice A3 L3.length c3)).heap[b]?=w5.heap[b]?:=fun b hb=>(Below.heap_setCell _ ⟨F,8,none⟩ _ b hb).trans (Below.heap_setCell _ ⟨F,7,none⟩ _ b hb);have e1:=HB4.size;have e2:=HB5.size;have k1:=OpsOwn.kept HO3.o (w':=(w5.setCell ⟨F,7,none⟩ (.slice A2 L2.length c2)).setCell ⟨F,8,none⟩ (.slice A3 L3.length c3)) (by simp [World.setCell];omega) (fun b hb hl=>(hG b (by omega)).trans ((HB5.block b (by omega)).trans (HB4.block b hl)));have k2:=RowOwn.kept ho2 (w':=(w5.setCell ⟨F,7,none⟩ (.slice A2 L2.length c2)).setCell ⟨F,8,none⟩ (.slice A3 L3.length c3)) (by simp [World.setCell];omega) (fun b hb hl=>(hG b (by(try simp at hb);omega)).trans (HB5.block b hl));have k3:=RowOwn.kept ho3 (w':=(w5.setCell ⟨F,7,none⟩ (.slice A2 L2.length c2)).setCell ⟨F,8,none⟩ (.slice A3 L3.length c3)) (by simp [World.setCell]) (fun b hb hl=>hG b (by(try simp at hb);omega));exact SideV.InS.of k1 (by omega) k2 (by(try simp);omega) k3 (by(try simp);omega)
     rintro G ⟨hG1,hG2,hG3⟩;have HD2:=h_ hd2;have HD3:=h_ hd3;clear hd2 ho2 hb2 HB4 HF4 z0 z1 z2 z3 z4 z5 z6 z7 z8 z9 zz v7 v8 hd3 ho3 hb3 HB5 HF5 p0 p1 p2 p3 p4 p5 p6 p7 p8 p9 pz t7 t8 y0 y1 y2 y3 y4 y5 y6 y7 y8 y9 yz q7 q8 n0 n1 n2 n3 n4 n5 n6 n7 nz ce0 ce1 ce2 ce3 ce4 ce5 ce6 ce7 ce8 ce9;have HG1:=h_ hG1;have HG2:=h_ hG2;have HG3:=h_ hG3;have HXG:=h_ (HX.o.la hG2);obtain⟨y0,y1,y2,y3,y4,y5,y6,y7,y8,y9,yz⟩:=j_ hG1;obtain⟨x0,x1,x2,x3,x4,x5,x6,x7,xz⟩:=r_ HXG.o.x;have hzG:=hG2.size;clear hG1 hG2 hG3;go_wp2_with(refine bb_ rfl ?_)
     refine⟨?_⟩;have HRX:=h_ ((SidesOwn.kept HS.o HG2.o.size (fun b _ hl=>HG2.o.block b hl)).row.alloc (.cells #[.int .i64 p,.bool j,.int .i64 s,.int .i64 h,.slice A1 L1.length c1',.int .i64 ke,.int .i64 kn,.slice A2 L2.length c2,.slice A3 L3.length c3,.int .i64 kh] 60));refine l_ _ rfl _ _ 24 rfl B0 60 i0 (.agg #[.int .i64 0,.bool false,.int .i64 0,.int .i64 0,.slice none 0 0,.int .i64 0,.int .i64 0,.slice none 0 0,.slice none 0 0,.int .i64 0]) 10 128 Tryz.underlying24 hi0 hz0 hz1 hz2 rfl (by decide) _ _ _ rfl HRX.o (fun _=>True) _ _ _ _ rfl (bl_ (by rfl) (by simp)) ?c1 ?c2 ?c3 ?c4 ?_
     case c1=>intro u hu;simp at hu;rcases hu with rfl | rfl | rfl | rfl | rfl | rfl | rfl | rfl | rfl | rfl <;> rfl
     case c2=>have:=hL'.o;unfold maxLen;omega
     case c3=>have:=hL'.o;omega
     case c4=>have:=hbz.o;simp;omega
     intro A' c' w3 hown' hgrow hat;have HLN:=h_ (show(L'++ [(⟨p,j,s,h,A1,c1',L1,⟨ke,kn,A2,c2,L2,A3,c3,L3,kh⟩⟩:SideV)]).length=L'.length+1 by simp);have hP:=SidesOwn.push (x:=(⟨p,j,s,h,A1,c1',L1,⟨ke,kn,A2,c2,L2,A3,c3,L3,kh⟩⟩:SideV)) HS.o hbz.o (fun b _ hl=>HG2.o.block b hl) HG2.o.size HG3.o hgrow hown' hat;have hlow: ∀g,(Value.slice Ao L'.length co).ownBlock=some g→B0≤g:=fun g hg=>(HS.o.row.lt g hg).1;have hsz3:=hgrow.size;have hkp: ∀b,b<wr.heap.size→b<B0→w3.heap[b]?=wr.heap[b]?:=fun b hl hb=>(hgrow.block b (by simp;omega) (fun e=>by have:=hlow b e.symm;omega)).trans ((q_ _ _ b (by omega)).trans (HG2.o.block b hl));have HX3:=h_ (show OwnAt w R X #[.int .i64 me,.int .i64 ep,.int .i64 up,.bool rd,.string t,.slice (some ⟨b,o,none⟩) S.length sc,.slice uA U.length uc,.slice mA M.length mc] #[.int .i64 me,.int .i64 ep,.int .i64 up,.bool rd,.string t,.slice Ao L'.length co,.slice none 0 0,.slice A7 M.length c7] w3 from by
      have h1:=HX.o.wr;have h2:=HX.o.rx;have h3:=HX.o.xz;refine⟨(hkp _ (by omega) (by omega)).trans HX.o.nd,(hkp _ (by omega) (by omega)).trans HX.o.r,(hkp _ (by omega) (by omega)).trans HX.o.x,bm_ HX.o.b HG2.o hgrow (fun g hg=>by have:=hlow g hg;omega),h1,h2,by simp at hsz3;omega⟩)
     have HOL3:=h_ (show∀b,X<b→b<B0→w3.heap[b]?=WB.heap[b]? from fun b h1 h2=>(hkp b (by have:=hbz.o;omega) h2).trans (hold.o b h1 h2));have HZ3:=h_ (show B0≤w3.heap.size by have:=hbz.o;simp at hsz3;omega);have HP:=h_ hP;clear hown' hgrow hat hP hlow hsz3 hkp y0 y1 y2 y3 y4 y5 y6 y7 y8 y9 yz x0 x1 x2 x3 x4 x5 x6 x7 xz;obtain⟨x0,x1,x2,x3,x4,x5,x6,x7,xz⟩:=r_ HX3.o.x;have r5:=tenF HX3.o.x 5;go_wp2_with fail
     have HG4:=h_ (HX3.o.set 5 (.slice A' (L'.length+1) c'));have HG5:=h_ (HP.o.kept (w':=w3.setCell ⟨X,5,none⟩ (.slice A' (L'.length+1) c')) (by simp [World.setCell]) (fun b hb hl=>bH_ (by show b≠X;omega)));have HG6:=h_ (show B0≤(w3.setCell ⟨X,5,none⟩ (.slice A' (L'.length+1) c')).heap.size by simpa [World.setCell]using HZ3.o);have HG7:=h_ (show∀b,X<b→b<B0→(w3.setCell ⟨X,5,none⟩ (.slice A' (L'.length+1) c')).heap[b]?=WB.heap[b]? from fun b h1 h2=>(bH_ (by show b≠X;omega)).trans (HOL3.o b h1 h2));clear x0 x1 x2 x3 x4 x5 x6 x7 xz r5;go_roundw
     case rel=>exact⟨k+1,L'++ [(⟨p,j,s,h,A1,c1',L1,⟨ke,kn,A2,c2,L2,A3,c3,L3,kh⟩⟩:SideV)],A',c',by omega,by go_num,h_ (by rw [HLN.o,hL'.o]),h_ (by rw [List.map_append,hps.o,HTK.o];show _++ [(⟨p,j,s,h,L1.map OpV.ps,⟨ke,kn,L2.map FrameV.d,L3.map FrameV.d,kh⟩⟩:SideD)]=_;rw [HD1.o,HD2.o,HD3.o]),h_ (by rw [HLN.o];exact HG4.o),HG5,HG6,HG7⟩
     case measure=>simp [intOf];omega)
    ),P):=⟨@q6_⟩
    exact m156_
    ),P):=⟨@q6_⟩
    exact m226_
    ),P):=⟨@q6_⟩
    exact m116_
   ·obtain rfl:k=S.length:=(by omega);have HPP:=h_ (show L'.map SideV.d=S.map SideV.d by rw [hps.o,List.take_length]);go_wp2_with fail
    refine(HCU.o _ (OpsIn.la HI.o.undo HX.o.b)).mono ?_;rintro e w5 ⟨A8,c8,L8,rfl,hd8,ho8,hb8⟩;have H8:=h_ (HX.o.la hb8);clear n0 n1 n2 n3 n4 n5 n6 n7 nz;obtain⟨x0,x1,x2,x3,x4,x5,x6,x7,xz⟩:=r_ H8.o.x;have r6:=tenF H8.o.x 6;have HD8:=h_ hd8;have HO8:=h_ ho8;have HB8:=h_ hb8;clear hd8 ho8 hb8;obtain⟨r0,r1,r2,r3,r4,r5,r6',r7,rz⟩:=r_ H8.o.r;obtain⟨s0,s1,s2,s3,s4,s5,s6,s7⟩:=gk_ H8.o.r;have hwR:w.heap.size<R:=H8.o.wr;have hRX:R<X:=H8.o.rx;have hn1: ¬R=X:=(by omega);have hn2: ¬X=R:=(by omega);go_wp2_with fail
    obtain⟨W8,hW8⟩:=q2_ (w5.setCell ⟨X,6,none⟩ (.slice A8 L8.length c8));rw [←hW8];have hO1:Only X w5 W8:=(by rw [hW8];exact Only.set _ _ _);have hR8:W8.heap[R]?=some (.cells #[.int .i64 0,.int .i64 0,.int .i64 0,.bool false,.string ⟨#[]⟩,.slice none 0 0,.slice none 0 0,.slice none 0 0] 28 (0,0)):=(hO1.block R (by omega) (by omega)).trans H8.o.r;obtain⟨W9,hW9⟩:=q2_ ((((((((W8.setCell ⟨R,0,none⟩ (.int .i64 me)).setCell ⟨R,1,none⟩ (.int .i64 ep)).setCell ⟨R,2,none⟩ (.int .i64 up)).setCell ⟨R,3,none⟩ (.bool rd)).setCell ⟨R,4,none⟩ (.string t)).setCell ⟨R,5,none⟩ (.slice Ao L'.length co)).setCell ⟨R,6,none⟩ (.slice A8 L8.length c8)).setCell ⟨R,7,none⟩ (.slice A7 M.length c7));rw [←hW9];have hO2:Only R W8 W9:=(by rw [hW9];exact((((((q5_.trans q5_).trans q5_).trans q5_).trans q5_).trans q5_).trans q5_).trans q5_);have hR9:W9.heap[R]?=some (.cells #[.int .i64 me,.int .i64 ep,.int .i64 up,.bool rd,.string t,.slice Ao L'.length co,.slice A8 L8.length c8,.slice A7 M.length c7] 28 (0,0)):=by
     rw [hW9];exact f_ 7 _ (f_ 6 _ (f_ 5 _ (f_ 4 _ (f_ 3 _ (f_ 2 _ (f_ 1 _ (f_ 0 _ hR8)))))))
    clear hW8 hW9 hR8;have z1:=hO1.size;have z2:=hO2.size;have z3:=HB8.o.size;have z4:=hbz.o;have hkp: ∀b,X<b→b<w5.heap.size→W9.heap[b]?=w5.heap[b]?:=fun b h1 h2=>(hO2.block b (by omega) (by omega)).trans (hO1.block b h2 (by omega));have hwa:=HA.o.xz;have hwb:w.heap.size≤WA.heap.size:=HA.o.b.size;have kb: ∀b,X<b→b<wr.heap.size→W9.heap[b]?=wr.heap[b]?:=fun b h1 h2=>(hkp b h1 (by omega)).trans (HB8.o.block b h2);have kS:NodeOwned W9 w.heap.size B0 wr.heap.size ⟨me,ep,up,rd,t,Ao,co,L',A8,c8,L8,A7,c7,M⟩:=by
     refine⟨ba_ (cf_ HM7o.o hwb) fun b hb=>?_,fun y hy=>by have:=HM7o.o.lt y hy;have:=HB0.o;omega,ba_ HS.o.row fun b hb=>?_,fun y hy=>(HS.o.row.lt y hy).2,fun x hx=>(HS.o.each x hx).mv fun b hb=>⟨hb,kb b (by have:=hb.1.1;omega) hb.1.2⟩,ba_ HO8.o.row fun b hb=>?_,fun o ho=>(HO8.o.each o ho).mv fun b hb=>⟨⟨⟨hb.1.1,by have:=hb.1.2;omega⟩,hb.2⟩,hkp b (by have:=hb.1.1;omega) hb.1.2⟩,by have:=HB0.o;have:=HM7o.o;omega,by omega,by omega⟩
     ·have h1:=HM7o.o.lt b hb;have h2:=HB0.o;exact(kb b (by omega) (by omega)).trans (hold.o b (by omega) (by omega))
     ·have h1:=HS.o.row.lt b hb;exact kb b (by omega) h1.2
     ·have h1:=HO8.o.row.lt b hb;exact hkp b (by omega) h1.2
    have k4:Below w.heap.size w W9:=H8.o.b.trans ((hO1.below (by omega) (by omega)).trans (hO2.below (by omega) (by omega)));refine u_ (fun G=>G.heap[R]?=some (.cells #[.int .i64 me,.int .i64 ep,.int .i64 up,.bool rd,.string t,.slice Ao L'.length co,.slice A8 L8.length c8,.slice A7 M.length c7] 28 (0,0))∧NodeOwned G w.heap.size B0 wr.heap.size ⟨me,ep,up,rd,t,Ao,co,L',A8,c8,L8,A7,c7,M⟩∧Below w.heap.size w G) ⟨hR9,kS,k4⟩ ?_;rintro G ⟨j1,j2,j5⟩;clear r0 r1 r2 r3 r4 r5 r6' r7 rz s0 s1 s2 s3 s4 s5 s6 s7 x0 x1 x2 x3 x4 x5 x6 x7 xz;obtain⟨r0,r1,r2,r3,r4,r5,r6',r7,rz⟩:=r_ j1;refine bodyPost_ret (v:=(⟨me,ep,up,rd,t,Ao,co,L',A8,c8,L8,A7,c7,M⟩:NodeV).val) (by simp [results,Tryz.results44,go_sem,r0,r1,r2,r3,r4,r5,r6',r7]) rfl ?_;exact⟨⟨me,ep,up,rd,t,Ao,co,L',A8,c8,L8,A7,c7,M⟩,B0,wr.heap.size,rfl,by simp only [NodeV.d,HPP.o,HD8.o],j2,j5⟩)
abbrev RecV.key (r:RecV):Int × List PartD:=(r.ep,r.o.ps)
section
variable(w:World)
include w
theorem tk_(A A':Option Addr)(c c' n:Nat)(L L':List RecV)(hs:RecsIn w A L)(hs':RecsIn w A' L')(hp:L'.map RecV.key=L.map RecV.key)(hn:L.length=n)(hm:n≤8388608)(hl: ∀r∈L,r.o.ps.length≤1048576):
 Calls Tryz.prog 24 #[.slice A n c,.slice A' n c'] w (R_ w (.bool true)):=by
 have hn':L'.length=n:=by rw [←hn,←List.length_map (f:=RecV.key),hp,List.length_map]
 have HS:=h_ hs;have HS':=h_ hs';have HL:=h_ hl;have HN:=h_ hn;have HN':=h_ hn';have HE:=h_ (show∀k (h:k<L.length) (h':k<L'.length),L'[k].key=L[k].key from fun k h h'=>by
  have:=congrArg (fun l=>l[k]?) hp;simpa [h,h']using this)
 clear hs hs' hl hn hn' hp;go_enter Tryz.func24,Tryz.ntmps24
 go_wp2_with fail
 go_loopw [4,5] (fun r i wr=> ∃(k:Nat),k≤n∧i= .int .i64 k∧r= .bool false∧Below w.heap.size w wr) (fun _ i _=>n - (intOf i).toNat)
 case atStart=>exact⟨0,Nat.zero_le _,rfl,rfl,Below.refl _ _⟩
 case round=>
  obtain⟨k,hk,rfl,rfl,hbw⟩:=hrel;by_cases hlt:k<n
  ·obtain⟨b,o,rfl,hbs,g0,g1,hop⟩:=(HS.o.la hbw).at_ (k:=k) (by rw [HN.o];exact hlt);obtain⟨b',o',rfl,hbs',g0',g1',hop'⟩:=(HS'.o.la hbw).at_ (k:=k) (by rw [HN'.o];exact hlt);have he:=HE.o k (by rw [HN.o];exact hlt) (by rw [HN'.o];exact hlt);have hlen:=HL.o _ (List.getElem_mem (show k<L.length by rw [HN.o];exact hlt));generalize L[k]'(by rw [HN.o];exact hlt)=q at*;generalize L'[k]'(by rw [HN'.o];exact hlt)=q' at*;obtain⟨qe,qA,qc,qp⟩:=q;obtain⟨qe',qA',qc',qp'⟩:=q';unfold RecV.key at he;dsimp only at*;injection he with he1 he2
   subst he1;subst he2;have HC:=h_ (fun W h h'=>nl_ W qA qA' qc qc' qp' h h' hlen);have HP:=h_ hop;have HP':=h_ hop';clear hop hop' hlen;go_wp2_with(refine z_ ?_)
   refine⟨?_⟩;go_region_held3 (fun w'=>w'.cell? ⟨b,o+k*2,none⟩=some (.int .i64 qe')∧w'.cell? ⟨b',o'+k*2,none⟩=some (.int .i64 qe')∧w'.cell? ⟨b,o+k*2+1,none⟩=some (.slice qA qp'.length qc)∧w'.cell? ⟨b',o'+k*2+1,none⟩=some (.slice qA' qp'.length qc'))
    (go_keep)
    ((first
      | (go_at_call 67;refine(HC.o _ ?_ ?_).mono ?_;exact HP.o;exact HP'.o;rintro e w2 ⟨rfl,hb2⟩;obtain⟨⟨d2,os2⟩,rfl⟩:=e_ hb2)))
   all_goals
    go_wp2_with fail
    go_roundw
    case rel=>exact⟨k+1,by omega,by go_num,rfl,bf_⟩
    case measure=>simp [intOf];omega
  ·obtain rfl:k=n:=(by omega);go_wp2_with fail
   go_ret
   exact⟨rfl,bf_⟩
section
variable(s h:Int) (A:OA_) (c:Nat) (L:List OpV) (HT:Hid (Tabs w)) (HS:Hid (OpsIn w A L)) (HM:Hid (∀o∈L,o.Small)) (B:OA_) (cc:Nat) (ps:LP_)
include s h A c L HT HS HM B cc ps
theorem to_(_HP:Hid (OpIn (· <w.heap.size) w B ps))(hd:Int)(up:Bool)(HC:Hid (∀W,Tabs W→OpsIn W A L→(∀o∈L,o.Small)→Calls Tryz.prog 104 #[edgeV s h A L.length c] W (R_ W (.bool false)))):
 Calls Tryz.prog 118 #[edgeV s h A L.length c,.slice B ps.length cc,.int .i64 hd,.bool up] w (fun e w'=>e= .returned (.tuple #[edgeV 0 0 none 0 0,.slice none 0 0,.int .i64 9])∧Below w.heap.size w w'):=by
 exact m36_
section
variable(HP:Hid (OpIn (· <w.heap.size) w B ps)) (hd:Int) (up:Bool)
include HP hd up
theorem tn_(er:Int)(_hne:(er !=0)=true)(_hno:(er==0)=false)(HC:Hid (∀W,Tabs W→OpsIn W A L→(∀o∈L,o.Small)→Calls Tryz.prog 104 #[edgeV s h A L.length c] W (R_ W (.bool true))))(HF:Hid (∀W,Tabs W→OpIn (· <W.heap.size) W B ps→Calls Tryz.prog 60 #[.slice B ps.length cc] W (R_ W (.int .i64 er)))):
 Calls Tryz.prog 118 #[edgeV s h A L.length c,.slice B ps.length cc,.int .i64 hd,.bool up] w (fun e w'=>e= .returned (.tuple #[edgeV 0 0 none 0 0,.slice none 0 0,.int .i64 er])∧Below w.heap.size w w'):=by
 have vAR:=h_ trivial;exact m29_
section
variable(hw:wrap64 (s - (L.length:Int))=s - L.length)
include hw
theorem ze_(f1:hd<s - (L.length:Int))(HC:Hid (∀W,Tabs W→OpsIn W A L→(∀o∈L,o.Small)→Calls Tryz.prog 104 #[edgeV s h A L.length c] W (R_ W (.bool true))))(HF:Hid (∀W,Tabs W→OpIn (· <W.heap.size) W B ps→Calls Tryz.prog 60 #[.slice B ps.length cc] W (R_ W (.int .i64 0)))):
 Calls Tryz.prog 118 #[edgeV s h A L.length c,.slice B ps.length cc,.int .i64 hd,.bool up] w (fun e w'=>e= .returned (.tuple #[edgeV 0 0 none 0 0,.slice none 0 0,.int .i64 2])∧Below w.heap.size w w'):=by
 exact m29_
theorem wx_(f1:s<hd)(HC:Hid (∀W,Tabs W→OpsIn W A L→(∀o∈L,o.Small)→Calls Tryz.prog 104 #[edgeV s h A L.length c] W (R_ W (.bool true))))(HF:Hid (∀W,Tabs W→OpIn (· <W.heap.size) W B ps→Calls Tryz.prog 60 #[.slice B ps.length cc] W (R_ W (.int .i64 0)))):
 Calls Tryz.prog 118 #[edgeV s h A L.length c,.slice B ps.length cc,.int .i64 hd,.bool up] w (fun e w'=>e= .returned (.tuple #[edgeV 0 0 none 0 0,.slice none 0 0,.int .i64 2])∧Below w.heap.size w w'):=by
 have vAP:=h_ trivial;exact m29_
theorem ww_(f1:s - (L.length:Int)≤hd)(f2:hd≤s)(_f3:decide (1048576≤h)=true)(HC:Hid (∀W,Tabs W→OpsIn W A L→(∀o∈L,o.Small)→Calls Tryz.prog 104 #[edgeV s h A L.length c] W (R_ W (.bool true))))(HF:Hid (∀W,Tabs W→OpIn (· <W.heap.size) W B ps→Calls Tryz.prog 60 #[.slice B ps.length cc] W (R_ W (.int .i64 0)))):
 Calls Tryz.prog 118 #[edgeV s h A L.length c,.slice B ps.length cc,.int .i64 hd,.bool up] w (fun e w'=>e= .returned (.tuple #[edgeV 0 0 none 0 0,.slice none 0 0,.int .i64 8])∧Below w.heap.size w w'):=by
 have vAQ:=h_ trivial;exact m29_
end
end
end
end
end Go.Proofs.YtacacoklddogmaaGreatDoor
