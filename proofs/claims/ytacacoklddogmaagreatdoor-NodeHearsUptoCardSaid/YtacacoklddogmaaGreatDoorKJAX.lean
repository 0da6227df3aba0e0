/- Lemmas. -/
import Derived.Test.YtacacoklddogmaaGreatDoorKJAM
import Derived.BigRegion
import Derived.BigQuiet
namespace Go.Proofs.YtacacoklddogmaaGreatDoor
set_option maxHeartbeats 4000000
open Go.ChangeShapes Go.WideShapes Go.ChangeAt Go.RowKit
set_option maxRecDepth 100000
theorem m76_{P:Prop}(h:P:=by
 go_wp2_with(at_builtin;refine l_ _ rfl _ _ 30 rfl w.heap.size 73 i0 (.agg #[.int .i64 0,.int .i64 0,.string ⟨#[]⟩]) 3 32 Tryz.underlying30 hi hz0 hz1 hz2 rfl (by decide) _ _ _ rfl HX1.o.o _ _ _ _ _ rfl HS1.o ?c1 ?c2 ?c3 ?c4 ?_)
 case c1=>simp [Value.oneCell']
 case c2=>unfold maxLen;omega
 case c3=>omega
 case c4=>simp;omega
 intro A1 c1 w1 hown1 hgrow1 hat1;exact k76_.o _):P:=h
theorem m110_{P:Prop}(h:P:=by
 have HP1:=h_ (HX1.o.push (p:=⟨2,0,piece⟩) rfl hown1 hgrow1 (by simpa using hat1));have hzw1:=HP1.o.b.size;clear hcv hown1 hgrow1 hat1 HX1 HS1;have HX2:=h_ (HP1.o.la (bAlloc (Below.refl _ _) (.cells #[.int .i64 3,.int .i64 gone,.string ⟨#[]⟩] 73)));have HS2:=h_ (Sl.new (S:=fun _=>True) w1 [.int .i64 3,.int .i64 gone,.string ⟨#[]⟩] 73 3 1 rfl trivial);have HO2:=h_ (show(w1.alloc (.cells #[.int .i64 3,.int .i64 gone,.string ⟨#[]⟩] 73)).ownsRow w.heap.size 73 3 (.slice A1 (out.length+1) c1) (out.length+1) (opCells (⟨2,0,piece⟩ :: out).reverse)from HX2.o.o);go_wp2_with(at_builtin;refine l_ _ rfl _ _ 30 rfl w.heap.size 73 i0 (.agg #[.int .i64 0,.int .i64 0,.string ⟨#[]⟩]) 3 32 Tryz.underlying30 hi hz0 hz1 hz2 rfl (by decide) _ _ _ rfl HO2.o _ _ _ _ _ rfl HS2.o ?c1 ?c2 ?c3 ?c4 ?_)
 case c1=>simp [Value.oneCell']
 case c2=>unfold maxLen;omega
 case c3=>omega
 case c4=>simp;omega
 intro A2 c2 w2 hown2 hgrow2 hat2;have HP2:=h_ (HX2.o.push (p:=⟨3,(gone:Int),⟨#[]⟩⟩) rfl (by rw [List.reverse_cons];exact hown2) hgrow2 (by simpa using hat2));have hzw2:=HP2.o.b.size;clear hown2 hgrow2 hat2 HX2 HS2;go_wp2_with fail
 exact k110_.o _):P:=h
theorem m115_{P:Prop}(h:P:=by
 have HX:=h_ hX;have hXl:X<w.heap.size:=(Array.getElem?_eq_some_iff.1 hX).1;clear hX;go_enter Tryz.func144,Tryz.ntmps144
 go_wp2_with fail
 refine HP.o.mono ?_;rintro e w1 ⟨rfl,hb1⟩;have HX1:=HX.o.la hb1;obtain⟨c0,c1,c2,z0,z1,z2,hl⟩:=b_ HX1;go_wp2_with fail
 obtain⟨W2,hW2⟩:=q2_ ((w1.setCell ⟨X,2,none⟩ (.int .i64 ((m:Int)+(j:Int)))).alloc (.cells #[.int .i64 pk,.int .i64 pn,.string pt] 73));rw [←hW2];have HX2:WalkAt W2 X A n c k (m+j):=by
  rw [hW2];refine(bA_.block X (by simpa [World.setCell]using hl)).trans ?_;rw [x_ HX1,show((m+j:Nat):Int)=(m:Int)+(j:Int) by omega]
 have HO2:Only X w W2:=by
  rw [hW2];exact((Only.of_below hb1).trans q5_).trans (Only.of_below bA_)
 clear hW2 c0 c1 c2 z0 z1 z2 hl HX1 hb1;refine(HS.o W2).mono ?_;rintro e w3 ⟨rfl,hb3⟩;have HX3:=HX2.la hb3;have HO3:=HO2.trans (Only.of_below hb3);obtain⟨c0,c1,c2,z0,z1,z2,hl⟩:=b_ HX3;clear HX2 HO2 hb3;go_wp2_with fail
 exact k115_.o _):P:=h
theorem m159_{P:Prop}(h:P:=by
 go_enter Tryz.func142,Tryz.ntmps142
 go_wp2_with fail
 go_quiet (fail)
 go_wp2_with fail
 go_region
 go_wp2_with fail
 obtain⟨W1,hW1⟩:=q2_ ((w.alloc (.cells #[.int .i64 0,.int .i64 0,.string ⟨#[]⟩] 73)).drewN (nq+1));have hz1:W1.heap.size=w.heap.size+1:=by
  rw [hW1];exact Array.size_push ..
 have hx1:W1.heap[w.heap.size]?=some (.cells #[.int .i64 0,.int .i64 0,.string ⟨#[]⟩] 73 (0,0)):=by
  rw [hW1];exact heap_alloc_new _ _
 have hb1:Below w.heap.size w W1:=by
  rw [hW1];exact bDrewN bA_ _
 rw [←hW1];exact k159_.o _):P:=h
theorem m168_{P:Prop}(h:P:=by
 have hz:W3.heap.size=w.heap.size+2:=by
  rw [hW3,World.size_alloc,hz1]
 obtain⟨B,hB⟩:=q2_ (w.heap.size+1);rw [←hW3,←hB];rw [←hB]at hy;have c2':=(hb.cell (p:=⟨X,2,none⟩) hl).trans c2;have z2':=(hb.frozen (p:=⟨X,2,none⟩) hl).trans z2;obtain⟨y0,y1,y2,y3,y4,y5,hBl⟩:=b_ hy;obtain⟨r0,r1,r2,r3,r4,r5,hRl⟩:=b_ hx;have hBr:w.heap.size<B:=by omega
 have hXB:X<B:=by omega
 have n1: ¬w.heap.size=B:=by omega
 have n2: ¬B=w.heap.size:=by omega
 clear hW3 c0 c1 c2 z0 z1 z2 g0 g1 g2 hW1 hx1 hb1 hb3 hz1 hB hz;exact k168_.o _):P:=h
theorem m177_{P:Prop}(h:P:=by
 have HX1:=h_ (hat0.o.la (bAlloc (Below.refl _ _) (.cells #[.int .i64 2,.int .i64 0,.string piece] 73)));have HS1:=h_ (Sl.new (S:=fun _=>True) wr [.int .i64 2,.int .i64 0,.string piece] 73 3 1 rfl trivial);exact k177_.o _):P:=h
theorem m211_{P:Prop}(h:P:=by
 rw [fw_ hkp]at HN;have HX1:=h_ (hat0.o.la (bAlloc (Below.refl _ _) (.cells #[.int .i64 1,.int .i64 kept,.string ⟨#[]⟩] 73)));have HS1:=h_ (Sl.new (S:=fun _=>True) wr [.int .i64 1,.int .i64 kept,.string ⟨#[]⟩] 73 3 1 rfl trivial);exact k211_.o _):P:=h
def Apart2 (a b:Option Nat):Prop:=a=none∨b=none∨a≠b
theorem Apart2.left{a b:Option Nat}(h:Apart2 a b):a=none∨a≠b:=by
 rcases h with h | h | h
 ·exact .inl h
 ·cases a with
  | none=>exact .inl rfl
  | some x=>exact .inr (by rw [h];simp)
 ·exact .inr h
theorem Apart2.symm{a b:Option Nat}(h:Apart2 a b):Apart2 b a:=by
 rcases h with h | h | h
 ·exact .inr (.inl h)
 ·exact .inl h
 ·exact .inr (.inr (fun e=>h e.symm))
theorem Apart2.fresh{a a' b:Option Nat}{x:Nat}(h:Apart2 a b)(ha:a'=a∨a'=some x)(hb: ∀y,b=some y→y<x):Apart2 a' b:=by
 rcases ha with rfl | rfl
 ·exact h
 ·cases b with
  | none=>exact .inr (.inl rfl)
  | some y=>exact .inr (.inr (fun e=>by injection e with e;have:=hb y rfl;omega))
structure GrAt (w0 w:World) (Ao:OA_) (co:Nat) (At:OA_) (ct:Nat) (out:LP_) (text:List Int):Prop where
 o:w.ownsRow w0.heap.size 73 3 (.slice Ao out.length co) out.length (opCells out.reverse)
 t:w.ownsRow w0.heap.size 21 1 (.slice At text.length ct) text.length (text.map (Value.int .i32))
 a:Apart2 (Value.slice Ao out.length co).ownBlock (Value.slice At text.length ct).ownBlock
 b:Below w0.heap.size w0 w
theorem GrAt.la{w0 w w':World}{Ao At:Option Addr}{co ct:Nat}{out:List PartD}{text:List Int}(h:GrAt w0 w Ao co At ct out text)(hb:Below w.heap.size w w'):GrAt w0 w' Ao co At ct out text:=
 ⟨h.o.kept (row:=none) ⟨hb.os,hb.tape,hb.output,hb.size,fun k hk _=>hb.block k hk⟩ (by cases(Value.slice Ao out.length co).ownBlock <;> simp),h.t.kept (row:=none) ⟨hb.os,hb.tape,hb.output,hb.size,fun k hk _=>hb.block k hk⟩ (by cases(Value.slice At text.length ct).ownBlock <;> simp),h.a,bThen h.b hb⟩
section
variable {w0 W2 w1:World}{Ao At A':Option Addr}{co ct c' n':Nat}{out:List PartD}{text:List Int}
include w0 W2 w1 Ao At A' co ct c' n' out text
theorem GrAt.push{p:PartD}(h:GrAt w0 W2 Ao co At ct out text)(hn:n'=out.length+1)(hown:w1.ownsRow w0.heap.size 73 3 (.slice A' n' c') n' (opCells out.reverse++p.cells))(hgrow:W2.grownBy w1 (Value.slice Ao out.length co).ownBlock)(hat:(Value.slice A' n' c').ownBlock=(Value.slice Ao out.length co).ownBlock∨(Value.slice A' n' c').ownBlock=some W2.heap.size):GrAt w0 w1 A' c' At ct (p :: out) text:=by
 subst hn;refine⟨?_,h.t.kept hgrow h.a.symm.left,h.a.fresh hat (fun y hy=>(h.t.lt y hy).2),h.b.grown hgrow h.b.size (fun g hg=>(h.o.lt g hg).1)⟩;rw [List.reverse_cons,dz_];exact hown
theorem GrAt.rune{x:Int}(h:GrAt w0 W2 Ao co At ct out text)(hn:n'=text.length+1)(hown:w1.ownsRow w0.heap.size 21 1 (.slice A' n' c') n' (text.map (Value.int .i32)++ [.int .i32 x]))(hgrow:W2.grownBy w1 (Value.slice At text.length ct).ownBlock)(hat:(Value.slice A' n' c').ownBlock=(Value.slice At text.length ct).ownBlock∨(Value.slice A' n' c').ownBlock=some W2.heap.size):GrAt w0 w1 Ao co A' c' out (text++ [x]):=by
 subst hn;have e:(text++ [x]).length=text.length+1:=by simp
 refine⟨h.o.kept hgrow h.a.left,?_,?_,h.b.grown hgrow h.b.size (fun g hg=>(h.t.lt g hg).1)⟩
 ·rw [e,List.map_append];exact hown
 ·rw [e];exact(h.a.symm.fresh hat (fun y hy=>(h.o.lt y hy).2)).symm
end
theorem GrAt.cut{w0 w:World}{Ao At:Option Addr}{co ct:Nat}{out:List PartD}{text:List Int}(h:GrAt w0 w Ao co At ct out text):GrAt w0 w Ao co none 0 out []:=
 ⟨h.o,World.ownsRow_nil _ _ _ _,.inr (.inl rfl),h.b⟩
def grRound (l:List (Int × Int)) (k:Nat):Gr:=if k≤l.length then Gr.run (l.take k)else⟨pD (Gr.run l).gone (pI (Gr.run l).text (Gr.run l).o),[],0,(Gr.run l).kept⟩
theorem fq_{l:List (Int × Int)}{k:Nat}(h:k≤l.length):grRound l k=Gr.run (l.take k):=if_pos h
theorem vf_{l:List (Int × Int)}{k:Nat}(h:k<l.length):grRound l (k+1)=(grRound l k).step l[k]:=by
 rw [fq_ (Nat.le_of_lt h),fq_ h,List.take_succ_eq_append_getElem h,bfq_]
section
variable(l:List (Int × Int))
include l
theorem kd_:grRound l (l.length+1)=⟨pD (Gr.run l).gone (pI (Gr.run l).text (Gr.run l).o),[],0,(Gr.run l).kept⟩:=if_neg (by omega)
theorem xj_:grRound l l.length=Gr.run l:=by rw [fq_ (Nat.le_refl _),List.take_length]
theorem ho_(k:Nat)(h:k≤l.length):(grRound l k).o.length+(grRound l k).text.length+(grRound l k).gone+(grRound l k).kept≤l.length:=by
 rw [fq_ h];have:=gg_ (l.take k);unfold Gr.most at this;rw [List.length_take]at this;omega
theorem xk_:pK (grRound l (l.length+1)).kept (grRound l (l.length+1)).o=(Gr.run l).fin:=by rw [kd_];rfl
end
theorem bcc_{w0 w:World}{Ao At:Option Addr}{co ct:Nat}{out:List PartD}{text:List Int}{l:List (Int × Int)}(h:GrAt w0 w Ao co At ct out text)(he:out=(Gr.run l).fin):RetOpO w0 (grouped l) (.returned (.slice Ao out.length co)) w:=by
 have e:out.reverse=grouped l:=by rw [he];rfl
 have hl:out.length=(grouped l).length:=by rw [←e,List.length_reverse]
 have h1:=h.o;rw [e,hl]at h1;exact⟨Ao,co,by rw [hl],h1,h.b⟩
theorem rl_(w:World)(A:OA_)(c:Nat)(l:List (Int × Int))(hs:StepsIn (· <w.heap.size) w A l)(hl:l.length≤1048576):
 Calls Tryz.prog 107 #[.slice A l.length c] w (RetOpO w (grouped l)):=by
 obtain⟨i0,hi,hz0,hz1,hz2⟩:=info_parts infoPart;obtain⟨j0,hj,hy0,hy1,hy2⟩:=info_parts infoRune;have HS:=h_ hs;clear hs;go_enter Tryz.func107,Tryz.ntmps107
 go_wp2_with fail
 go_loopw [3,4,5,6,7] (fun o_ t_ g_ k_ i wr=> ∃(k:Nat) (out:LP_) (text:List Int) (gone kept:Nat) (Ao:OA_) (co:Nat) (At:OA_) (ct:Nat),k≤l.length+1∧i= .int .i64 k∧g_= .int .i64 gone∧k_= .int .i64 kept∧o_= .slice Ao out.length co∧t_= .slice At text.length ct∧Hid (grRound l k=⟨out,text,gone,kept⟩)∧Hid (GrAt w wr Ao co At ct out text))
  (fun _ _ _ _ i _=>l.length+1 - (intOf i).toNat)
 case atStart=>exact⟨0,[],[],0,0,none,0,none,0,Nat.zero_le _,rfl,rfl,rfl,rfl,rfl,fq_ (Nat.zero_le _),⟨World.ownsRow_nil _ _ _ _,World.ownsRow_nil _ _ _ _,.inl rfl,Below.refl _ _⟩⟩
 case round=>
  obtain⟨k,out,text,gone,kept,Ao,co,At,ct,hk,rfl,rfl,rfl,rfl,rfl,hgr,hat0⟩:=hrel;have hsz:=hat0.o.b.size;by_cases hlt:k<l.length
  ·obtain⟨b,o,rfl,hbs,g0,g1⟩:=StepsIn.at_ HS.o hlt;have hN:=vf_ hlt;have hM:=ho_ l k (Nat.le_of_lt hlt);rw [hgr.o]at hN hM;dsimp only at hM;have HC0:=h_ (fun(W:World) (h:Below w.heap.size w W)=>(h.cell (p:=⟨b,o+k*2,none⟩) hbs).trans g0);have HC1:=h_ (fun(W:World) (h:Below w.heap.size w W)=>(h.cell (p:=⟨b,o+k*2+1,none⟩) hbs).trans g1);generalize l[k]=x at*;obtain⟨kd,rr⟩:=x;dsimp only at*;have y0:=HC0.o wr hat0.o.b;have y1:=HC1.o wr hat0.o.b;clear g0 g1;by_cases hk2:kd=2
   ·subst hk2;have HN:=h_ (show grRound l (k+1)=⟨pK kept out,text++ [rr],gone,0⟩from hN);clear hN hgr;by_cases hkp:0<kept
    ·have k211_:K_ (∀(P:Prop) (h:P:=by
     have k76_:K_ (∀(P:Prop) (h:P:=by
     have HP1:=h_ (HX1.o.push (p:=⟨1,(kept:Int),⟨#[]⟩⟩) rfl hown1 hgrow1 (by simpa using hat1));have hzw1:=HP1.o.b.size;clear hown1 hgrow1 hat1 HX1 HS1;have x0:=HC0.o w1 HP1.o.b;have x1:=HC1.o w1 HP1.o.b;clear y0 y1;have HX2:=h_ (HP1.o.la (bAlloc (Below.refl _ _) (.cells #[.int .i32 rr] 21)));have HS2:=h_ (Sl.new (S:=fun _=>True) w1 [.int .i32 rr] 21 1 1 rfl trivial);go_wp2_with(at_builtin;refine l_ _ rfl _ _ 135 rfl w.heap.size 21 j0 (.int .i32 0) 1 4 Tryz.underlying135 hj hy0 hy1 hy2 rfl (by decide) _ _ _ rfl HX2.o.t _ _ _ _ _ rfl HS2.o ?c1 ?c2 ?c3 ?c4 ?_)
     case c1=>simp [Value.oneCell']
     case c2=>unfold maxLen;omega
     case c3=>omega
     case c4=>simp;omega
     intro A2 c2 w2 hown2 hgrow2 hat2;have HP2:=h_ (HX2.o.rune (x:=rr) rfl hown2 hgrow2 (by simpa using hat2));clear hown2 hgrow2 hat2 HX2 HS2;go_wp2_with fail
     go_roundw
     case rel=>exact⟨k+1,(⟨1,(kept:Int),⟨#[]⟩⟩ :: out),(text++ [rr]),gone,0,A1,c1,A2,c2,by omega,by go_num,(by first | rfl | go_num | simp),(by first | rfl | go_num | simp),(by first | rfl | simp),(by first | rfl | simp),HN,HP2⟩
     case measure=>simp [intOf] <;> omega
     ),P):=⟨@q6_⟩
     exact m76_
     ),P):=⟨@q6_⟩
     exact m211_
    ·obtain rfl:kept=0:=(by omega);rw [dn_]at HN;have HX1:=h_ (hat0.o.la (bAlloc (Below.refl _ _) (.cells #[.int .i32 rr] 21)));have HS1:=h_ (Sl.new (S:=fun _=>True) wr [.int .i32 rr] 21 1 1 rfl trivial);go_wp2_with(at_builtin;refine l_ _ rfl _ _ 135 rfl w.heap.size 21 j0 (.int .i32 0) 1 4 Tryz.underlying135 hj hy0 hy1 hy2 rfl (by decide) _ _ _ rfl HX1.o.t _ _ _ _ _ rfl HS1.o ?c1 ?c2 ?c3 ?c4 ?_)
     case c1=>simp [Value.oneCell']
     case c2=>unfold maxLen;omega
     case c3=>omega
     case c4=>simp;omega
     intro A1 c1 w1 hown1 hgrow1 hat1;have HP1:=h_ (HX1.o.rune (x:=rr) rfl hown1 hgrow1 (by simpa using hat1));clear hown1 hgrow1 hat1 HX1 HS1;go_wp2_with fail
     go_roundw
     case rel=>exact⟨k+1,out,(text++ [rr]),gone,0,Ao,co,A1,c1,by omega,by go_num,(by first | rfl | go_num | simp),(by first | rfl | go_num | simp),(by first | rfl | simp),(by first | rfl | simp),HN,HP1⟩
     case measure=>simp [intOf] <;> omega
   have e2:(kd==2)=false:=(by simpa using hk2);by_cases hk3:kd=3
   ·subst hk3;have HN:=h_ (show grRound l (k+1)=⟨pK kept out,text,gone+1,0⟩from hN);clear hN hgr;by_cases hkp:0<kept
    ·have k211_:K_ (∀(P:Prop) (h:P:=by
     have k76_:K_ (∀(P:Prop) (h:P:=by
     have HP1:=h_ (HX1.o.push (p:=⟨1,(kept:Int),⟨#[]⟩⟩) rfl hown1 hgrow1 (by simpa using hat1));have hzw1:=HP1.o.b.size;clear hown1 hgrow1 hat1 HX1 HS1;go_wp2_with fail
     go_roundw
     case rel=>exact⟨k+1,(⟨1,(kept:Int),⟨#[]⟩⟩ :: out),text,(gone+1),0,A1,c1,At,ct,by omega,by go_num,(by first | rfl | go_num | simp),(by first | rfl | go_num | simp),(by first | rfl | simp),(by first | rfl | simp),HN,HP1⟩
     case measure=>simp [intOf] <;> omega
     ),P):=⟨@q6_⟩
     exact m76_
     ),P):=⟨@q6_⟩
     exact m211_
    ·obtain rfl:kept=0:=(by omega);rw [dn_]at HN;go_wp2_with fail
     go_roundw
     case rel=>exact⟨k+1,out,text,(gone+1),0,Ao,co,At,ct,by omega,by go_num,(by first | rfl | go_num | simp),(by first | rfl | go_num | simp),(by first | rfl | simp),(by first | rfl | simp),HN,hat0⟩
     case measure=>simp [intOf] <;> omega
   have e3:(kd==3)=false:=(by simpa using hk3);have HN:=h_ (show grRound l (k+1)=⟨pD gone (pI text out),[],0,kept+1⟩ by
    rw [hN];unfold Gr.step;rw [if_neg hk2,if_neg hk3])
   clear hN hgr hk2 hk3;by_cases htx:0<text.length
   ·rw [hu_ htx]at HN;have hcv:=convSl (W:=wr) (c:=ct) (cv_ hat0.o.t);generalize hpi:runesBytes text=piece at hcv;have HPI:=h_ hpi;clear hpi;rw [HPI.o]at HN;by_cases hgo:0<gone
    ·rw [fc_ hgo]at HN;have k177_:K_ (∀(P:Prop) (h:P:=by
     have k76_:K_ (∀(P:Prop) (h:P:=by
     have k110_:K_ (∀(P:Prop) (h:P:=by
     go_roundw
     case rel=>exact⟨k+1,(⟨3,(gone:Int),⟨#[]⟩⟩ :: ⟨2,0,piece⟩ :: out),[],0,(kept+1),A2,c2,none,0,by omega,by go_num,(by first | rfl | go_num | simp),(by first | rfl | go_num | simp),(by first | rfl | simp),(by first | rfl | simp),HN,HP2.o.cut⟩
     case measure=>simp [intOf] <;> omega
     ),P):=⟨@q6_⟩
     exact m110_
     ),P):=⟨@q6_⟩
     exact m76_
     ),P):=⟨@q6_⟩
     exact m177_
    ·obtain rfl:gone=0:=(by omega);rw [dm_]at HN;have k177_:K_ (∀(P:Prop) (h:P:=by
     have k76_:K_ (∀(P:Prop) (h:P:=by
     have HP1:=h_ (HX1.o.push (p:=⟨2,0,piece⟩) rfl hown1 hgrow1 (by simpa using hat1));have hzw1:=HP1.o.b.size;clear hcv hown1 hgrow1 hat1 HX1 HS1;go_wp2_with fail
     go_roundw
     case rel=>exact⟨k+1,(⟨2,0,piece⟩ :: out),[],0,(kept+1),A1,c1,none,0,by omega,by go_num,(by first | rfl | go_num | simp),(by first | rfl | go_num | simp),(by first | rfl | simp),(by first | rfl | simp),HN,HP1.o.cut⟩
     case measure=>simp [intOf] <;> omega
     ),P):=⟨@q6_⟩
     exact m76_
     ),P):=⟨@q6_⟩
     exact m177_
   ·obtain rfl:text= []:=List.eq_nil_of_length_eq_zero (by omega);rw [fd_]at HN;clear htx;by_cases hgo:0<gone
    ·rw [fc_ hgo]at HN;have HX1:=h_ (hat0.o.la (bAlloc (Below.refl _ _) (.cells #[.int .i64 3,.int .i64 gone,.string ⟨#[]⟩] 73)));have HS1:=h_ (Sl.new (S:=fun _=>True) wr [.int .i64 3,.int .i64 gone,.string ⟨#[]⟩] 73 3 1 rfl trivial);have k76_:K_ (∀(P:Prop) (h:P:=by
     have HP1:=h_ (HX1.o.push (p:=⟨3,(gone:Int),⟨#[]⟩⟩) rfl hown1 hgrow1 (by simpa using hat1));have hzw1:=HP1.o.b.size;clear hown1 hgrow1 hat1 HX1 HS1;go_wp2_with fail
     go_roundw
     case rel=>exact⟨k+1,(⟨3,(gone:Int),⟨#[]⟩⟩ :: out),[],0,(kept+1),A1,c1,At,ct,by omega,by go_num,(by first | rfl | go_num | simp),(by first | rfl | go_num | simp),(by first | rfl | simp),(by first | rfl | simp),HN,HP1⟩
     case measure=>simp [intOf] <;> omega
     ),P):=⟨@q6_⟩
     exact m76_
    ·obtain rfl:gone=0:=(by omega);rw [dm_]at HN;go_wp2_with fail
     go_roundw
     case rel=>exact⟨k+1,out,[],0,(kept+1),Ao,co,At,ct,by omega,by go_num,(by first | rfl | go_num | simp),(by first | rfl | go_num | simp),(by first | rfl | simp),(by first | rfl | simp),HN,hat0⟩
     case measure=>simp [intOf] <;> omega
  by_cases hle:k=l.length
  ·subst hle;have HN:=h_ (kd_ l);have hM:=ho_ l l.length (Nat.le_refl _);rw [←xj_]at HN;rw [hgr.o]at hM HN;dsimp only at hM HN;clear hgr hlt;by_cases htx:0<text.length
   ·rw [hu_ htx]at HN;have hcv:=convSl (W:=wr) (c:=ct) (cv_ hat0.o.t);generalize hpi:runesBytes text=piece at hcv;have HPI:=h_ hpi;clear hpi;rw [HPI.o]at HN;by_cases hgo:0<gone
    ·rw [fc_ hgo]at HN;have k177_:K_ (∀(P:Prop) (h:P:=by
     have k76_:K_ (∀(P:Prop) (h:P:=by
     have k110_:K_ (∀(P:Prop) (h:P:=by
     go_roundw
     case rel=>exact⟨l.length+1,(⟨3,(gone:Int),⟨#[]⟩⟩ :: ⟨2,0,piece⟩ :: out),[],0,kept,A2,c2,none,0,by omega,by go_num,(by first | rfl | go_num | simp),(by first | rfl | go_num | simp),(by first | rfl | simp),(by first | rfl | simp),HN,HP2.o.cut⟩
     case measure=>simp [intOf] <;> omega
     ),P):=⟨@q6_⟩
     exact m110_
     ),P):=⟨@q6_⟩
     exact m76_
     ),P):=⟨@q6_⟩
     exact m177_
    ·obtain rfl:gone=0:=(by omega);rw [dm_]at HN;have k177_:K_ (∀(P:Prop) (h:P:=by
     have k76_:K_ (∀(P:Prop) (h:P:=by
     have HP1:=h_ (HX1.o.push (p:=⟨2,0,piece⟩) rfl hown1 hgrow1 (by simpa using hat1));have hzw1:=HP1.o.b.size;clear hcv hown1 hgrow1 hat1 HX1 HS1;go_wp2_with fail
     go_roundw
     case rel=>exact⟨l.length+1,(⟨2,0,piece⟩ :: out),[],0,kept,A1,c1,none,0,by omega,by go_num,(by first | rfl | go_num | simp),(by first | rfl | go_num | simp),(by first | rfl | simp),(by first | rfl | simp),HN,HP1.o.cut⟩
     case measure=>simp [intOf] <;> omega
     ),P):=⟨@q6_⟩
     exact m76_
     ),P):=⟨@q6_⟩
     exact m177_
   ·obtain rfl:text= []:=List.eq_nil_of_length_eq_zero (by omega);rw [fd_]at HN;clear htx;by_cases hgo:0<gone
    ·rw [fc_ hgo]at HN;have HX1:=h_ (hat0.o.la (bAlloc (Below.refl _ _) (.cells #[.int .i64 3,.int .i64 gone,.string ⟨#[]⟩] 73)));have HS1:=h_ (Sl.new (S:=fun _=>True) wr [.int .i64 3,.int .i64 gone,.string ⟨#[]⟩] 73 3 1 rfl trivial);have k76_:K_ (∀(P:Prop) (h:P:=by
     have HP1:=h_ (HX1.o.push (p:=⟨3,(gone:Int),⟨#[]⟩⟩) rfl hown1 hgrow1 (by simpa using hat1));have hzw1:=HP1.o.b.size;clear hown1 hgrow1 hat1 HX1 HS1;go_wp2_with fail
     go_roundw
     case rel=>exact⟨l.length+1,(⟨3,(gone:Int),⟨#[]⟩⟩ :: out),[],0,kept,A1,c1,At,ct,by omega,by go_num,(by first | rfl | go_num | simp),(by first | rfl | go_num | simp),(by first | rfl | simp),(by first | rfl | simp),HN,HP1⟩
     case measure=>simp [intOf] <;> omega
     ),P):=⟨@q6_⟩
     exact m76_
    ·obtain rfl:gone=0:=(by omega);rw [dm_]at HN;go_wp2_with fail
     go_roundw
     case rel=>exact⟨l.length+1,out,[],0,kept,Ao,co,At,ct,by omega,by go_num,(by first | rfl | go_num | simp),(by first | rfl | go_num | simp),(by first | rfl | simp),(by first | rfl | simp),HN,hat0⟩
     case measure=>simp [intOf] <;> omega
  ·obtain rfl:k=l.length+1:=(by omega);have HN:=h_ (xk_ l);have hM:=ho_ l l.length (Nat.le_refl _);have hF:=je_ (Gr.run l);rw [hgr.o]at HN;dsimp only at HN;have hol:out.length≤2097152:=by
    have h1:=congrArg List.length HN.o;have h2:=gg_ l;have h3:out.length≤(pK kept out).length:=by unfold pK;split <;> simp
    omega
   clear hgr hlt hle hM hF;by_cases hkp:0<kept
   ·have k211_:K_ (∀(P:Prop) (h:P:=by
    have k76_:K_ (∀(P:Prop) (h:P:=by
    have HP1:=h_ (HX1.o.push (p:=⟨1,(kept:Int),⟨#[]⟩⟩) rfl hown1 hgrow1 (by simpa using hat1));have hzw1:=HP1.o.b.size;clear hown1 hgrow1 hat1 HX1 HS1;go_wp2_with fail
    go_ret
    exact bcc_ HP1.o HN.o
    ),P):=⟨@q6_⟩
    exact m76_
    ),P):=⟨@q6_⟩
    exact m211_
   ·obtain rfl:kept=0:=(by omega);rw [dn_]at HN;go_wp2_with fail
    go_ret
    exact bcc_ hat0.o HN.o
abbrev WalkAt (w:World) (X:Nat) (A:OA_) (n c k m:Nat):Prop:=w.heap[X]?=some (.cells #[.slice A n c,.int .i64 k,.int .i64 m] 201 (0,0))
theorem jy_{w:World}{B:Nat}{u0 u1 u2 x0 x1 x2:Value}{t:TypeId}(h:w.heap[B]?=some (.cells #[u0,u1,u2] t (0,0))){w':World}
 (hw:w'=((w.setCell ⟨B,0,none⟩ x0).setCell ⟨B,1,none⟩ x1).setCell ⟨B,2,none⟩ x2):w'.heap[B]?=some (.cells #[x0,x1,x2] t (0,0))∧Only B w w':=by
 have h1:(w.setCell ⟨B,0,none⟩ x0).heap[B]?=some (.cells #[x0,u1,u2] t (0,0)):=by
  rw [heap_setCell_same w B 0 _ _ _ h];rfl
 have h2:=bc_ (x:=x1) h1;have h3:=x_ (x:=x2) h2;rw [hw];exact⟨h3,(q5_.trans q5_).trans q5_⟩
theorem bOnly{w w1 w2:World}(h:Below w.heap.size w w1)(o:Only w.heap.size w1 w2):Below w.heap.size w w2:=bOver h (o.below (Nat.le_refl _) h.size)
section
variable(w:World) (X:Nat) (A:OA_) (c k m:Nat) (ps:LP_)
theorem bfi_(n:Nat)(hX:WalkAt w X A n c n m):
 Calls Tryz.prog 142 #[.pointer (some ⟨X,0,none⟩)] w (R_ w (.tuple #[partV 0 0 ⟨#[]⟩,.bool false])):=by
 obtain⟨c0,c1,c2,z0,z1,z2,hl⟩:=b_ hX;clear hX;go_enter Tryz.func142,Tryz.ntmps142
 go_wp2_with fail
 go_quiet (fail)
 go_wp2_with fail
 obtain⟨W0,hW0⟩:=q2_ ((w.alloc (.cells #[.int .i64 0,.int .i64 0,.string ⟨#[]⟩] 73)).drewN nq);have hx:W0.heap[w.heap.size]?=some (.cells #[.int .i64 0,.int .i64 0,.string ⟨#[]⟩] 73 (0,0)):=by
  rw [hW0];exact heap_alloc_new _ _
 have hb:Below w.heap.size w W0:=by
  rw [hW0];exact bDrewN bA_ _
 rw [←hW0];clear hW0;obtain⟨W9,hW9⟩:=q2_ (((W0.setCell ⟨w.heap.size,0,none⟩ (.int .i64 0)).setCell ⟨w.heap.size,1,none⟩ (.int .i64 0)).setCell ⟨w.heap.size,2,none⟩ (.string ⟨#[]⟩));rw [←hW9];obtain⟨a1,a2⟩:=jy_ hx hW9;obtain⟨r0,r1,r2,_,_,_,_⟩:=b_ a1;refine bodyPost_ret (v:= .tuple #[partV 0 0 ⟨#[]⟩,.bool false]) (by simp [results,Tryz.results142,go_sem,r0,r1,r2]) rfl ⟨rfl,bOnly hb a2⟩
section
variable(hX:WalkAt w X A ps.length c k m) (hs:OpIn (· <w.heap.size) w A ps) (hk:k<ps.length)
include hX hs hk
theorem bfl_(h2:ps[k].kind≠2)(hm:m≤1048576)(h0:0≤ps[k].n)(h1:ps[k].n≤1048576):
 Calls Tryz.prog 142 #[.pointer (some ⟨X,0,none⟩)] w (R_ w (.tuple #[partV ps[k].kind (ps[k].n - m) ps[k].text,.bool true])):=by
 obtain⟨c0,c1,c2,z0,z1,z2,hl⟩:=b_ hX;obtain⟨b,o,rfl,hbs,g0,g1,g2⟩:=OpIn.at_ hs hk;generalize ps[k]=p at*;obtain⟨q,n,s⟩:=p;dsimp only at*;have e2:(q==2)=false:=by simpa using h2
 have hw:wrap64 (n - (m:Int))=n - m:=du_ (by omega) (by omega);clear hX hs h2;have k159_:K_ (∀(P:Prop) (h:P:=by
 obtain⟨W3,hW3⟩:=q2_ (W1.alloc (.cells #[.int .i64 q,.int .i64 n,.string s] 73));have hb3:Below W1.heap.size W1 W3:=by
  rw [hW3];exact bA_
 have hb:=bThen hb1 hb3;have hx:=(hb3.block w.heap.size (by omega)).trans hx1;have hy:W3.heap[w.heap.size+1]?=some (.cells #[.int .i64 q,.int .i64 n,.string s] 73 (0,0)):=by
  rw [hW3,←hz1];exact heap_alloc_new _ _
 have k168_:K_ (∀(P:Prop) (h:P:=by
 refine wp_region_still_tail 8 (by kernel_rfl) (by kernel_rfl) ?_;simp only [List.take_succ_cons,List.take_zero,List.drop_succ_cons,List.drop_zero,yn_];repeat still_step
 refine wpStill_nil ?_;go_wp2_with fail
 obtain⟨W5,hW5⟩:=q2_ (W3.setCell ⟨B,1,none⟩ (.int .i64 (n - (m:Int))));rw [←hW5];have o5:Only B W3 W5:=by
  rw [hW5];exact Only.set _ _ _
 have hb5:=bOver hb (o5.below (Nat.le_of_lt hBr) hb.size);have hx5:=(o5.block w.heap.size hRl n1).trans hx;obtain⟨W9,hW9⟩:=q2_ (((W5.setCell ⟨w.heap.size,0,none⟩ (.int .i64 q)).setCell ⟨w.heap.size,1,none⟩ (.int .i64 (n - (m:Int)))).setCell ⟨w.heap.size,2,none⟩ (.string s));rw [←hW9];obtain⟨a1,a2⟩:=jy_ hx5 hW9;obtain⟨x0,x1,x2,_,_,_,_⟩:=b_ a1;clear r0 r1 r2;refine bodyPost_ret (v:= .tuple #[partV q (n - (m:Int)) s,.bool true]) (by simp [results,Tryz.results142,go_sem,x0,x1,x2]) rfl ⟨rfl,(bOnly hb5 a2).drew⟩
 ),P):=⟨@q6_⟩
 exact m168_
 ),P):=⟨@q6_⟩
 exact m159_
theorem bfj_(h2:ps[k].kind=2)(ht:ps[k].text.size≤1048576)(hm:m<(runesOf ps[k].text).length):
 Calls Tryz.prog 142 #[.pointer (some ⟨X,0,none⟩)] w (R_ w (.tuple #[partV ps[k].kind ps[k].n (runesBytes ((runesOf ps[k].text).drop m)),.bool true])):=by
 obtain⟨c0,c1,c2,z0,z1,z2,hl⟩:=b_ hX;obtain⟨b,o,rfl,hbs,g0,g1,g2⟩:=OpIn.at_ hs hk;generalize ps[k]=p at*;obtain⟨q,n,s⟩:=p;dsimp only at*;subst h2;have hrl:=bo_ s;have hcv:=fun wx=>convRunes (w:=wx) ht;rw [←hrl]at hcv;have hrc:(runesOf s).length≤1048576:=by
  have:=Lib.runeCount_le s;omega
 have HRN:=h_ (fun(w:World) n=>RunesAt.new w s n 21);clear hrl;generalize runesOf s=R at*;clear hX hs;have k159_:K_ (∀(P:Prop) (h:P:=by
 obtain⟨W3,hW3⟩:=q2_ (W1.alloc (.cells #[.int .i64 2,.int .i64 n,.string s] 73));have hb3:Below W1.heap.size W1 W3:=by
  rw [hW3];exact bA_
 have hb:=bThen hb1 hb3;have hx:=(hb3.block w.heap.size (by omega)).trans hx1;have hy:W3.heap[w.heap.size+1]?=some (.cells #[.int .i64 2,.int .i64 n,.string s] 73 (0,0)):=by
  rw [hW3,←hz1];exact heap_alloc_new _ _
 have k168_:K_ (∀(P:Prop) (h:P:=by
 have hpc:=convPiece (HRN.o W3 (grownCap W3.drew R.length 0 21 - R.length)).drew.drew m (R.length - m) (grownCap W3.drew R.length 0 21 - m) (by omega);rw [List.take_of_length_le (show(R.drop m).length≤R.length - m by rw [List.length_drop];exact Nat.le_refl _)]at hpc;have hgc:=grownCap_ge W3.drew R.length 0 21;have hB3:Below W3.heap.size W3 (W3.alloc (.cells (Conv.runesFrom s s.size 0 #[]++Array.replicate (grownCap W3.drew R.length 0 21 - R.length) (.int .i32 0)) 21)).drew.drew:=bA_.drew.drew;have c2'':=(hB3.cell (p:=⟨X,2,none⟩) (Nat.lt_trans hXB hBl)).trans c2';generalize hpi:runesBytes (R.drop m)=piece at hpc;have HPI:=h_ hpi;clear hpi;have hne: ¬grownCap W3.drew R.length 0 21=m:=by omega
 go_region
 go_wp2_with fail
 rw [HPI.o];clear hcv hpc hgc hB3 c2'';obtain⟨W5,hW5⟩:=q2_ (W3.setCell ⟨B,2,none⟩ (.string piece));rw [←hW5];have o5:Only B W3 W5:=by
  rw [hW5];exact Only.set _ _ _
 have hb5:=bOver hb (o5.below (Nat.le_of_lt hBr) hb.size);have hx5:=(o5.block w.heap.size hRl n1).trans hx;obtain⟨W9,hW9⟩:=q2_ (((W5.setCell ⟨w.heap.size,0,none⟩ (.int .i64 2)).setCell ⟨w.heap.size,1,none⟩ (.int .i64 n)).setCell ⟨w.heap.size,2,none⟩ (.string piece));rw [←hW9];obtain⟨a1,a2⟩:=jy_ hx5 hW9;have hb9:=bOnly hb5 a2;have hR9:w.heap.size<W9.heap.size:=(b_ a1).2.2.2.2.2.2;obtain⟨WZ,hWZ⟩:=q2_ ((W9.alloc (.cells (Conv.runesFrom s s.size 0 #[]++Array.replicate (grownCap W3.drew R.length 0 21 - R.length) (.int .i32 0)) 21)).drew.drew);rw [←hWZ];have hbz:Below W9.heap.size W9 WZ:=by
  rw [hWZ];exact bA_.drew.drew
 obtain⟨x0,x1,x2,_,_,_,_⟩:=b_ ((hbz.block _ hR9).trans a1);clear r0 r1 r2 hWZ;refine bodyPost_ret (v:= .tuple #[partV 2 n piece,.bool true]) (by simp [results,Tryz.results142,go_sem,x0,x1,x2]) rfl ⟨rfl,bThen hb9 hbz⟩
 ),P):=⟨@q6_⟩
 exact m168_
 ),P):=⟨@q6_⟩
 exact m159_
end
end
def WalkTo (w:World) (X:Nat) (A:OA_) (n c k m:Nat) (w':World):Prop:=WalkAt w' X A n c k m∧Only X w w'
theorem WalkAt.la{w w':World}{X:Nat}{A:Option Addr}{n c k m:Nat}(h:WalkAt w X A n c k m)(hb:Below w.heap.size w w'):WalkAt w' X A n c k m:=(hb.block X (Array.getElem?_eq_some_iff.1 h).1).trans h
section
variable(w:World) (X:Nat) (A:OA_) (c k m:Nat)
theorem bhf_(n j sz:Nat)(_hk:k≤1048576)(hm:m≤1048576)(hj:j≤1048576)(hX:WalkAt w X A n c k m)(pk pn:Int)(pt:ByteArray)(b:Bool)(hlt:((j:Int)==(sz:Int))=false)
 (HP:Hid (Calls Tryz.prog 142 #[.pointer (some ⟨X,0,none⟩)] w (R_ w (.tuple #[partV pk pn pt,.bool b]))))
 (HS:Hid (∀W,Calls Tryz.prog 126 #[partV pk pn pt] W (R_ W (.int .i64 sz)))):
 Calls Tryz.prog 144 #[.pointer (some ⟨X,0,none⟩),.int .i64 j] w fun e w'=>e= .returned (.tuple #[])∧WalkTo w X A n c k (m+j) w':=by
 have k115_:K_ (∀(P:Prop) (h:P:=by
 exact bodyPost_end (results_none rfl _ _ _) rfl ⟨rfl,HX3,HO3⟩
 ),P):=⟨@q6_⟩
 exact m115_
theorem bfm_(n j sz:Nat)(hk:k≤1048576)(hm:m≤1048576)(hj:j≤1048576)(hX:WalkAt w X A n c k m)(pk pn:Int)(pt:ByteArray)(b:Bool)(hlt:((j:Int)==(sz:Int))=true)
 (HP:Hid (Calls Tryz.prog 142 #[.pointer (some ⟨X,0,none⟩)] w (R_ w (.tuple #[partV pk pn pt,.bool b]))))
 (HS:Hid (∀W,Calls Tryz.prog 126 #[partV pk pn pt] W (R_ W (.int .i64 sz)))):
 Calls Tryz.prog 144 #[.pointer (some ⟨X,0,none⟩),.int .i64 j] w fun e w'=>e= .returned (.tuple #[])∧WalkTo w X A n c (k+1) 0 w':=by
 have k115_:K_ (∀(P:Prop) (h:P:=by
 have h1:=bc_ (x:= .int .i64 ((k:Int)+1)) HX3;have h2:=x_ (x:= .int .i64 0) h1;exact bodyPost_end (results_none rfl _ _ _) rfl ⟨rfl,by rw [show((k:Int)+1)=((k+1:Nat):Int) by omega]at h2;exact h2,(HO3.trans q5_).trans q5_⟩
 ),P):=⟨@q6_⟩
 exact m115_
end
end Go.Proofs.YtacacoklddogmaaGreatDoor
