/- Lemmas. -/
import Derived.Test.YtacacoklddogmaaGreatDoorKBA
import Derived.Laws.OwnMore
import Derived.Laws.Cover4
import Derived.Lib.MapLaws
import Derived.Lib.ValidLaws
import Derived.Lib.TrimUEq
import Derived.StillTailTactics
import Derived.IntWalk
import Derived.Test.YtacacoklddogmaaGreatDoorShelf
import Derived.Lib.Builder
import Derived.Laws.Externs
namespace Go.Proofs.YtacacoklddogmaaGreatDoor
set_option maxHeartbeats 4000000
open Go.ChangeShapes Go.WideShapes Go.ChangeAt Go.RowKit
set_option maxRecDepth 100000
theorem m23_{P:Prop}(h:P:=by
 obtain⟨k0,hk0,hx0,hx1,hx2⟩:=info_parts infoIntP;have HH:=h_ (show peerHead zs (m:Int)= [zs.getD m 0] by unfold peerHead;rw [if_pos (by omega)];simp);have HPE:=h_ (show peers zs (m:Int)=upK zs (m:Int) N by rw [←hl];rfl);first
 |guard_hyp vAJ
  have HK1:=h_ (show kidsTo zs (m:Int) 1= []from(fi_ _hr).trans (ei_ _ _))
 |skip
 obtain⟨b,o,rfl,hbs,hc⟩:=HZ.o.open_ (by omega);have HC:=h_ (show∀k,k<N→w.cell? ⟨b,o+k,none⟩=some (.int .i64 (zs.getD k 0))from fun k hk=>hc k _ (cy_ zs k (by omega)));first
 |guard_hyp vAJ
  clear hc hl _hr
 |clear hc hl
 have hcm:=HC.o m hmN;first
 |guard_hyp vAJ
  go_enter Tryz.func57,Tryz.ntmps57
 |go_enter Tryz.func85,Tryz.ntmps85
 go_wp2_with(refine bb_ rfl ?_)
 refine⟨?_⟩;refine l_ _ rfl _ _ 22 rfl w.heap.size 3 k0 (.int .i64 0) 1 8 Tryz.underlying22 hk0 hx0 hx1 hx2 rfl (by decide) _ _ _ rfl ((World.ownsRow_nil _ _ _ _).alloc _) (fun _=>True) _ _ _ _ rfl (hk_ (by rfl) (by simp)) ?c1 ?c2 ?c3 ?c4 ?_
 case c1=>intro u hu;simp at hu;subst hu;rfl
 case c2=>skip;unfold maxLen;omega
 case c3=>skip;omega
 case c4=>simp
 intro A0 c0 wb hown0 hgrow0 _;change(w.alloc (Obj.cells #[Value.int IntKind.i64 _] 3)).grownBy wb (Value.slice none 0 0).ownBlock at hgrow0;have HF0:=h_ (bA_.grown hgrow0 (by simp) (fun g hg=>by simp [Value.ownBlock]at hg):Below w.heap.size w wb);first
 |guard_hyp vAJ
  have HO0:=h_ (show wb.ownsRow w.heap.size 3 1 (.slice A0 (upK zs (m:Int) 1).length c0) (upK zs (m:Int) 1).length ((upK zs (m:Int) 1).map (Value.int .i64)) by
   have e:upK zs (m:Int) 1= [zs.getD m 0]:=(by unfold upK;rw [HH.o,HK1.o];rfl);rw [e];simpa using hown0)
  have HE0:=h_ (show(.slice A0 (0+1) c0:Value)= .slice A0 (upK zs (m:Int) 1).length c0 by
   have e:upK zs (m:Int) 1= [zs.getD m 0]:=(by unfold upK;rw [HH.o,HK1.o];rfl);rw [e];rfl)
 |have HO0:=h_ (show wb.ownsRow w.heap.size 3 1 (.slice A0 (upK zs (m:Int) 0).length c0) (upK zs (m:Int) 0).length ((upK zs (m:Int) 0).map (Value.int .i64)) by
   have e:upK zs (m:Int) 0= [zs.getD m 0]:=(by unfold upK;rw [HH.o,ei_];rfl);rw [e];simpa using hown0)
  have HE0:=h_ (show(.slice A0 (0+1) c0:Value)= .slice A0 (upK zs (m:Int) 0).length c0 by
   have e:upK zs (m:Int) 0= [zs.getD m 0]:=(by unfold upK;rw [HH.o,ei_];rfl);rw [e];rfl)
 clear hown0 hgrow0;go_wp2_with fail
 first
 |guard_hyp vAJ
  go_loopw [5,6] (fun out i wr=> ∃(k:Nat) (Ao:OA_) (co:Nat),1≤k∧k≤N∧i= .int .i64 k∧out= .slice Ao (upK zs (m:Int) k).length co∧Hid (wr.ownsRow w.heap.size 3 1 (.slice Ao (upK zs (m:Int) k).length co) (upK zs (m:Int) k).length ((upK zs (m:Int) k).map (Value.int .i64)))∧Hid (Below w.heap.size w wr)) (fun _ i _=>N - (intOf i).toNat)
  case atStart=>exact⟨1,A0,c0,by omega,by omega,rfl,HE0.o,HO0,HF0⟩
 |go_loopw [5,19] (fun out i wr=> ∃(k:Nat) (Ao:OA_) (co:Nat),0≤k∧k≤N∧i= .int .i64 k∧out= .slice Ao (upK zs (m:Int) k).length co∧Hid (wr.ownsRow w.heap.size 3 1 (.slice Ao (upK zs (m:Int) k).length co) (upK zs (m:Int) k).length ((upK zs (m:Int) k).map (Value.int .i64)))∧Hid (Below w.heap.size w wr)) (fun _ i _=>N - (intOf i).toNat)
  case atStart=>exact⟨0,A0,c0,by omega,by omega,rfl,HE0.o,HO0,HF0⟩
 case round=>
  obtain⟨k,Ao,co,hk1,hk,rfl,rfl,HO,HB⟩:=hrel;by_cases hlt:k<N
  ·have hcx:=(HB.o.cell (p:=⟨b,o+k,none⟩) hbs).trans (HC.o k hlt);by_cases hp:(zs.getD k 0==(m:Int))=true
   ·have HU:=h_ (show upK zs (m:Int) (k+1)=upK zs (m:Int) k++ [(k:Int)] by unfold upK;rw [hh_ hp,List.append_assoc]);have HUL:=h_ (iz_ zs (m:Int) k);generalize zs.getD k 0=p at*;generalize upK zs (m:Int) k=U at*;exact m111_
   ·have hp':(zs.getD k 0==(m:Int))=false:=(by simpa using hp);have HU:=h_ (show upK zs (m:Int) (k+1)=upK zs (m:Int) k by unfold upK;rw [fi_ hp']);clear hp;generalize zs.getD k 0=p at*;generalize upK zs (m:Int) k=U at*;exact m267_
  ·obtain rfl:k=N:=(by omega);generalize upK zs (m:Int) k=U at*;go_wp2_with fail
   go_ret
   exact⟨Ao,co,by rw [HPE.o];rfl,by rw [HPE.o];exact HO.o,HB.o⟩):P:=h
theorem m28_{P:Prop}(h:P:=by
 obtain⟨k0,hk0,hx0,hx1,hx2⟩:=info_parts infoIntP;have HH:=h_ (show peerHead zs 0= []from rfl);have HPE:=h_ (show peers zs 0=upK zs 0 N by rw [←hl];rfl);first
 |guard_hyp vAO
  have HK1:=h_ (show kidsTo zs 0 1= []from(fi_ _hr).trans (ei_ _ _))
 |skip
 obtain⟨b,o,rfl,hbs,hc⟩:=HZ.o.open_ (by omega);have HC:=h_ (show∀k,k<N→w.cell? ⟨b,o+k,none⟩=some (.int .i64 (zs.getD k 0))from fun k hk=>hc k _ (cy_ zs k (by omega)));first
 |guard_hyp vAO
  clear hc hl _hr;go_enter Tryz.func57,Tryz.ntmps57
 |clear hc hl;go_enter Tryz.func85,Tryz.ntmps85
 go_wp2_with fail
 first
 |guard_hyp vAO
  go_loopw [5,6] (fun out i wr=> ∃(k:Nat) (Ao:OA_) (co:Nat),1≤k∧k≤N∧i= .int .i64 k∧out= .slice Ao (upK zs 0 k).length co∧Hid (wr.ownsRow w.heap.size 3 1 (.slice Ao (upK zs 0 k).length co) (upK zs 0 k).length ((upK zs 0 k).map (Value.int .i64)))∧Hid (Below w.heap.size w wr)) (fun _ i _=>N - (intOf i).toNat)
  case atStart=>exact⟨1,none,0,by omega,by omega,rfl,by rw [show upK zs 0 1= [] by unfold upK;rw [HH.o,HK1.o];rfl];rfl,by rw [show upK zs 0 1= [] by unfold upK;rw [HH.o,HK1.o];rfl];exact World.ownsRow_nil _ _ _ _,Below.refl _ _⟩
 |go_loopw [5,19] (fun out i wr=> ∃(k:Nat) (Ao:OA_) (co:Nat),0≤k∧k≤N∧i= .int .i64 k∧out= .slice Ao (upK zs 0 k).length co∧Hid (wr.ownsRow w.heap.size 3 1 (.slice Ao (upK zs 0 k).length co) (upK zs 0 k).length ((upK zs 0 k).map (Value.int .i64)))∧Hid (Below w.heap.size w wr)) (fun _ i _=>N - (intOf i).toNat)
  case atStart=>exact⟨0,none,0,by omega,by omega,rfl,by rw [show upK zs 0 0= [] by unfold upK;rw [HH.o,ei_];rfl];rfl,by rw [show upK zs 0 0= [] by unfold upK;rw [HH.o,ei_];rfl];exact World.ownsRow_nil _ _ _ _,Below.refl _ _⟩
 case round=>
  obtain⟨k,Ao,co,hk1,hk,rfl,rfl,HO,HB⟩:=hrel;by_cases hlt:k<N
  ·have hcx:=(HB.o.cell (p:=⟨b,o+k,none⟩) hbs).trans (HC.o k hlt);by_cases hp:(zs.getD k 0==0)=true
   ·have HU:=h_ (show upK zs 0 (k+1)=upK zs 0 k++ [(k:Int)] by unfold upK;rw [hh_ hp,List.append_assoc]);have HUL:=h_ (iz_ zs 0 k);generalize zs.getD k 0=p at*;generalize upK zs 0 k=U at*;exact m111_
   ·have hp':(zs.getD k 0==0)=false:=(by simpa using hp);have HU:=h_ (show upK zs 0 (k+1)=upK zs 0 k by unfold upK;rw [fi_ hp']);clear hp;generalize zs.getD k 0=p at*;generalize upK zs 0 k=U at*;exact m267_
  ·obtain rfl:k=N:=(by omega);generalize upK zs 0 k=U at*;go_wp2_with fail
   go_ret
   exact⟨Ao,co,by rw [HPE.o];rfl,by rw [HPE.o];exact HO.o,HB.o⟩):P:=h
theorem m111_{P:Prop}(h:P:=by
 go_wp2_with(refine bb_ rfl ?_)
 refine⟨?_⟩;refine l_ _ rfl _ _ 22 rfl w.heap.size 3 k0 (.int .i64 0) 1 8 Tryz.underlying22 hk0 hx0 hx1 hx2 rfl (by decide) _ _ _ rfl (HO.o.alloc _) (fun _=>True) _ _ _ _ rfl (hk_ (by rfl) (by simp)) ?c1 ?c2 ?c3 ?c4 ?_
 case c1=>intro u hu;simp at hu;subst hu;rfl
 case c2=>have:=HUL.o;unfold maxLen;omega
 case c3=>have:=HUL.o;omega
 case c4=>have:=HB.o.size;simp;omega
 intro A1 c1 wb hown1 hgrow1 _;have HF1:=h_ ((bAlloc HB.o _).grown hgrow1 (by have:=HB.o.size;simp;omega) (fun g hg=>(HO.o.lt g hg).1):Below w.heap.size w wb);have HO1:=h_ (show wb.ownsRow w.heap.size 3 1 (.slice A1 (U++ [(k:Int)]).length c1) (U++ [(k:Int)]).length ((U++ [(k:Int)]).map (Value.int .i64)) by simpa using hown1);have HE1:=h_ (show(.slice A1 (U.length+1) c1:Value)= .slice A1 (U++ [(k:Int)]).length c1 by simp);clear hown1 hgrow1;go_wp2_with fail
 go_roundw
 case rel=>exact⟨k+1,A1,c1,by omega,by omega,by go_num,by rw [HU.o];exact HE1.o,by rw [HU.o];exact HO1,HF1⟩
 case measure=>simp [intOf];omega):P:=h
theorem m117_{P:Prop}(h:P:=by
 go_wp2_with(at_builtin;refine l_ _ rfl _ _ 30 rfl base 73 i0 (.agg #[.int .i64 0,.int .i64 0,.string ⟨#[]⟩]) 3 32 Tryz.underlying30 hi hz0 hz1 hz2 rfl (by decide) _ _ _ rfl HB2.o.row _ _ _ _ _ rfl hS ?c1 ?c2 ?c3 ?c4 ?_)
 case c1=>simp [Value.oneCell']
 case c2=>unfold maxLen;omega
 case c3=>omega
 case c4=>have:=HB2.o.lo;simp;omega
 intro A' c' w1 hown hgrow hat;obtain⟨x1,x2,x3⟩:=nh_ (HB2.o.grown hgrow);go_wp2_with fail
 refine bodyPost_end (results_none rfl _ _ _) rfl ⟨rfl,?_⟩;exact k117_.o _):P:=h
theorem m133_{P:Prop}(h:P:=by
 go_wp2_with fail
 refine(HC1.o _ hT hst).mono ?_;rintro e w1 ⟨rfl,hb1⟩;have HT1:=h_ (hT.la hb1);have HS1:=h_ (Sl.la hs hb1);go_wp2_with fail
 refine(HC2.o _ HT1.o HS1.o).mono ?_;rintro e w2 ⟨rfl,hb2⟩;have HB2:=h_ (bThen hb1 hb2);have HS2:=h_ (Sl.la HS1.o hb2);exact k133_.o _):P:=h
theorem m182_{P:Prop}(h:P:=by
 go_enter Tryz.func99,Tryz.ntmps99
 go_wp2_with fail
 refine HC.o.mono ?_;rintro e w1 ⟨rfl,hb1⟩;have HS1:=h_ (Sl.la hs hb1);obtain⟨⟨d1,os1⟩,rfl⟩:=e_ hb1;go_wp2_with fail
 refine(HLn.o _ HS1.o).mono ?_;rintro e w2 ⟨rfl,hb2⟩;obtain⟨⟨d2,os2⟩,rfl⟩:=e_ hb2;go_wp2_with fail
 go_ret2
 exact⟨rfl,bz_⟩):P:=h
theorem m223_{P:Prop}(h:P:=by
 have hc:=h.cell;have hl:=h.lt;obtain⟨g,rfl,_,hg,_,hcap,hmax,h0,_,_,_⟩:=h.last;simp only [List.length_cons]at hc;unfold maxLen at hmax;go_enter Tryz.func123,Tryz.ntmps123
 exact m102_):P:=h
theorem m233_{P:Prop}(h:P:=by
 have HL:=h_ (hq_ w base B A c p rs hb);have HB:=h_ hb;obtain⟨g,rfl,_,hg,hne,hcap,hmax,h0,h1,h2,hfz⟩:=hb.last;have hl:=hb.lt;rw [hk]at HL;obtain⟨kd,pn,tx⟩:=p;dsimp only at*;subst hk;exact k233_.o _):P:=h
theorem m267_{P:Prop}(h:P:=by
 go_wp2_with fail
 go_roundw
 case rel=>exact⟨k+1,Ao,co,by omega,by omega,by go_num,by rw [HU.o],by rw [HU.o];exact HO,HB⟩
 case measure=>simp [intOf];omega):P:=h
theorem m278_{P:Prop}(h:P:=by
 exact bodyPost_end (results_none rfl _ _ _) rfl ⟨rfl,_,_,hA.la (bGrow (Below.refl _ _) _ _),hB.trans (Turned.of_below (bGrow (Below.refl _ _) _ _)) (.inl rfl),.inl rfl⟩):P:=h
theorem infoPart:(Tryz.prog.info? 73).map (fun i=>(i.zero,i.size,i.bytes))=some (some (.agg #[.int .i64 0,.int .i64 0,.string ⟨#[]⟩]),3,32):=by kernel_rfl
theorem bfk_: ∀(ps:LP_),∀u∈opCells ps,u.oneCell'=true:=by
 intro ps u hu;obtain⟨p,_,h⟩:=List.mem_flatMap.1 hu;simp only [PartD.cells,List.mem_cons,List.not_mem_nil,or_false]at h;rcases h with rfl | rfl | rfl <;> rfl
def RetOp (w:World) (ps:LP_) (e:Ending) (w':World):Prop:=
 ∃A c,e= .returned (.slice A ps.length c)∧w'.ownsRow w.heap.size 73 3 (.slice A ps.length c) ps.length (opCells ps)∧Below w.heap.size w w'
theorem nl_(w:World)(A A':Option Addr)(c c':Nat)(ps:LP_)(hs:OpIn (· <w.heap.size) w A ps)(hs':OpIn (· <w.heap.size) w A' ps)(hm:ps.length≤1048576):
 Calls Tryz.prog 67 #[.slice A ps.length c,.slice A' ps.length c'] w (R_ w (.bool true)):=by
 have HS:=h_ hs;have HS':=h_ hs';clear hs hs';go_enter Tryz.func67,Tryz.ntmps67
 go_wp2_with fail
 go_loopw [4,5] (fun r i wr=> ∃(k:Nat),k≤ps.length∧i= .int .i64 k∧r= .bool false∧Below w.heap.size w wr) (fun _ i _=>ps.length - (intOf i).toNat)
 case atStart=>exact⟨0,Nat.zero_le _,rfl,rfl,Below.refl _ _⟩
 case round=>
  obtain⟨k,hk,rfl,rfl,hbw⟩:=hrel;by_cases hlt:k<ps.length
  ·obtain⟨b,o,rfl,hbs,h0,h1,h2⟩:=OpIn.at_ (ps:=ps) (Sl.la HS.o hbw) hlt;obtain⟨b',o',rfl,hbs',g0,g1,g2⟩:=OpIn.at_ (ps:=ps) (Sl.la HS'.o hbw) hlt;generalize ps[k]=p at*;obtain⟨kd,pn,tx⟩:=p;dsimp only at*;go_wp2_with fail
   go_quiet (fail)
   go_wp2_with fail
   go_roundw
   case rel=>exact⟨k+1,by omega,by go_num,rfl,bf_⟩
   case measure=>simp [intOf];omega
  ·obtain rfl:k=ps.length:=(by omega);go_wp2_with fail
   go_ret
   exact⟨rfl,bf_⟩
theorem tg_(rs:LP_)(p:PartD):opCells (rs++ [p])=opCells rs++p.cells:=by simp [opCells]
theorem eb_(w:World)(A:OA_)(c:Nat)(ps:LP_)(hs:OpIn (· <w.heap.size) w A ps)(hm:ps.length≤1048576):
 Calls Tryz.prog 8 #[.slice A ps.length c] w (RetOp w ps):=by
 obtain⟨i0,hi,hz0,hz1,hz2⟩:=info_parts infoPart;go_enter Tryz.func8,Tryz.ntmps8
 go_wp2_with fail
 go_loopw [3,4] (fun out i wr=> ∃(k:Nat) (Ao:OA_) (co:Nat),k≤ps.length∧i= .int .i64 k∧out= .slice Ao k co∧wr.ownsRow w.heap.size 73 3 (.slice Ao k co) k (opCells (ps.take k))∧Below w.heap.size w wr)
  (fun _ i _=>ps.length - (intOf i).toNat)
 case atStart=>exact⟨0,none,0,Nat.zero_le _,rfl,rfl,World.ownsRow_nil _ _ _ _,Below.refl _ _⟩
 case round=>
  obtain⟨k,Ao,co,hk,rfl,rfl,hown,hbw⟩:=hrel;by_cases hlt:k<ps.length
  ·obtain⟨b,o,rfl,hbs,h0,h1,h2⟩:=OpIn.at_ (ps:=ps) (Sl.la hs hbw) hlt;have HL:=h_ (show opCells (ps.take (k+1))=opCells (ps.take k)++(ps[k]).cells by rw [List.take_succ_eq_append_getElem hlt,tg_]);generalize ps[k]=p at*;obtain⟨kd,pn,tx⟩:=p;dsimp only at*;have HX:=h_ (hown.alloc (.cells #[.int .i64 kd,.int .i64 pn,.string tx] 73));have HS:=h_ (Sl.new (S:=fun _=>True) wr [.int .i64 kd,.int .i64 pn,.string tx] 73 3 1 rfl trivial);go_wp2_with(at_builtin;refine l_ _ rfl _ _ 30 rfl w.heap.size 73 i0 (.agg #[.int .i64 0,.int .i64 0,.string ⟨#[]⟩]) 3 32 Tryz.underlying30 hi hz0 hz1 hz2 rfl (by decide) _ _ _ rfl HX.o _ _ _ _ _ rfl HS.o ?c1 ?c2 ?c3 ?c4 ?_)
   case c1=>simp [Value.oneCell']
   case c2=>unfold maxLen;omega
   case c3=>omega
   case c4=>have:=hbw.size;simp;omega
   intro A' c' w1 hown' hgrow hat;go_wp2_with fail
   go_roundw
   case rel=>exact⟨k+1,A',c',by omega,by go_num,rfl,by rw [HL.o];exact hown',(bAlloc hbw _).grown hgrow (by have:=hbw.size;simp;omega) (fun g hg=>(hown.lt g hg).1)⟩
   case measure=>simp [intOf];omega
  ·obtain rfl:k=ps.length:=(by omega);rw [List.take_length]at hown;go_wp2_with fail
   go_ret
   exact⟨Ao,co,rfl,hown,hbw⟩
theorem infoIntP:(Tryz.prog.info? 3).map (fun i=>(i.zero,i.size,i.bytes))=some (some (.int .i64 0),1,8):=by kernel_rfl
theorem hk_{W:World}{cs:List Value}{t:TypeId}{n m:Nat}{A:Option Addr}(hl:cs.length=n*m)(hA:A=some ⟨W.heap.size,0,none⟩):Sl (fun _=>True) (W.alloc (.cells cs.toArray t)) m A n cs:=by
 subst hA;exact Sl.new W cs t m n hl trivial
def RetInts (w:World) (zs:List Int) (e:Ending) (w':World):Prop:=
 ∃A c,e= .returned (.slice A zs.length c)∧w'.ownsRow w.heap.size 3 1 (.slice A zs.length c) zs.length (zs.map (Value.int .i64))∧Below w.heap.size w w'
abbrev upK (zs:List Int) (me:Int) (k:Nat):List Int:=peerHead zs me++kidsTo zs me k
theorem iz_(zs:List Int)(me:Int)(k:Nat):(upK zs me k).length≤k+1:=by
 have:=ban_ zs me k;unfold upK peerHead;split <;> simp <;> omega
section
variable(w:World) (T:OA_) (N c:Nat) (zs:List Int) (HZ:Hid (Sl (· <w.heap.size) w 1 T N (zs.map (Value.int .i64)))) (hN:N≤7) (hl:zs.length=N)
include w T N c zs HZ hN hl
theorem bha_(m:Nat)(hm:0<m)(hmN:m<N):
 Calls Tryz.prog 85 #[.slice T N c,.int .i64 (m:Int)] w (RetInts w (peers zs (m:Int))):=by
 exact m23_
theorem bhb_(h0:0<N):
 Calls Tryz.prog 85 #[.slice T N c,.int .i64 0] w (RetInts w (peers zs 0)):=by
 exact m28_
theorem bdc_(m:Nat)(hm:0<m)(hmN:m<N)(_hr:(zs.getD 0 0==(m:Int))=false):
 Calls Tryz.prog 57 #[.slice T N c,.int .i64 (m:Int)] w (RetInts w (peers zs (m:Int))):=by
 have vAJ:=h_ trivial;exact m23_
theorem bdd_(h0:0<N)(_hr:(zs.getD 0 0==0)=false):
 Calls Tryz.prog 57 #[.slice T N c,.int .i64 0] w (RetInts w (peers zs 0)):=by
 have vAO:=h_ trivial;exact m28_
end
section
variable(w:World) (T:OA_) (N c:Nat) (zs:List Int) (hs:Sl (· <w.heap.size) w 1 T N (zs.map (Value.int .i64))) (ht:treeFault zs=0) (me:Int) (h0:0≤me) (h1:me<zs.length)
include w T N c zs hs ht me h0 h1
theorem vn_:
 Calls Tryz.prog 85 #[.slice T N c,.int .i64 me] w (RetInts w (peers zs me)):=by
 have hl:zs.length=N:=by have:=hs.1;simpa using this
 obtain⟨t1,t2,_⟩:=fl_ ht;obtain⟨m,rfl⟩: ∃m:Nat,me=m:=⟨me.toNat,by omega⟩
 by_cases hm:0<m
 ·exact bha_ w T N c zs hs (by omega) hl m hm (by omega)
 ·obtain rfl:m=0:=by omega
  exact bhb_ w T N c zs hs (by omega) hl (by omega)
theorem bdb_:
 Calls Tryz.prog 57 #[.slice T N c,.int .i64 me] w (RetInts w (peers zs me)):=by
 have hl:zs.length=N:=by have:=hs.1;simpa using this
 obtain⟨t1,t2,t3⟩:=fl_ ht;obtain⟨m,rfl⟩: ∃m:Nat,me=m:=⟨me.toNat,by omega⟩
 have hr:(zs.getD 0 0==(m:Int))=false:=by rw [t3];simp
 by_cases hm:0<m
 ·exact bdc_ w T N c zs hs (by omega) hl m hm (by omega) hr
 ·obtain rfl:m=0:=by omega
  exact bdd_ w T N c zs hs (by omega) hl (by omega) hr
end
structure Turned (w w':World) (B:Nat) (R:Option Nat):Prop where
 os:w'.os=w.os
 tape:w'.tape=w.tape
 output:w'.output=w.output
 size:w.heap.size≤w'.heap.size
 block: ∀k,k<w.heap.size→k≠B→some k≠R→w'.heap[k]?=w.heap[k]?
theorem Turned.refl(w:World)(B:Nat)(R:Option Nat):Turned w w B R:=⟨rfl,rfl,rfl,Nat.le_refl _,fun _ _ _ _=>rfl⟩
theorem Turned.trans{w w1 w2:World}{B:Nat}{R R1:Option Nat}(h:Turned w w1 B R)(k:Turned w1 w2 B R1)(hR:R1=R∨ ∀x,R1=some x→w.heap.size≤x):Turned w w2 B R:=
 ⟨k.os.trans h.os,k.tape.trans h.tape,k.output.trans h.output,Nat.le_trans h.size k.size,fun x hx hb hr=>(k.block x (Nat.lt_of_lt_of_le hx h.size) hb (by
  rcases hR with rfl | hR
  · exact hr
  · intro e
    have:=hR x e.symm;omega)).trans (h.block x hx hb hr)⟩
theorem Turned.of_below{w w':World}{B:Nat}{R:Option Nat}(h:Below w.heap.size w w'):Turned w w' B R:=⟨h.os,h.tape,h.output,h.size,fun x hx _ _=>h.block x hx⟩
theorem Turned.of_grown{w w':World}{B:Nat}{R:Option Nat}(h:w.grownBy w' R):Turned w w' B R:=⟨h.os,h.tape,h.output,h.size,fun x hx _ hr=>h.block x hx hr⟩
theorem Turned.of_set(w:World)(B o:Nat)(u:Value)(R:Option Nat):Turned w (w.setCell ⟨B,o,none⟩ u) B R:=
 ⟨rfl,rfl,rfl,by simp [World.setCell],fun _ _ hb _=>bH_ hb⟩
theorem Turned.below{w w':World}{B base:Nat}{R:Option Nat}(h:Turned w w' B R)(hB:base≤B)(hR: ∀x,R=some x→base≤x)(hb:base≤w.heap.size):Below base w w':=
 ⟨h.os,h.tape,h.output,h.size,fun x hx=>h.block x (by omega) (by omega) (fun e=>by have:=hR x e.symm;omega)⟩
structure Bld (w:World) (base B:Nat) (A:OA_) (c:Nat) (rs:LP_):Prop where
 lo:base≤B
 obj:w.heap[B]?=some (.cells #[.slice A rs.length c] 138 (0,0))
 row:w.ownsRow base 73 3 (.slice A rs.length c) rs.length (opCells rs.reverse)
 apart:(Value.slice A rs.length c).ownBlock≠some B
theorem dz_(rs:LP_)(p:PartD):opCells (rs++ [p])=opCells rs++p.cells:=by simp [opCells]
section
variable {w:World}{base B:Nat}{A:Option Addr}{c:Nat}{rs:List PartD}(h:Bld w base B A c rs)
include w base B A c rs h
theorem Bld.lt:B<w.heap.size:=(Array.getElem?_eq_some_iff.1 h.obj).1
theorem Bld.cell:w.cell? ⟨B,0,none⟩=some (.slice A rs.length c):=by
 simp [World.cell?,h.obj]
theorem Bld.frozen:w.frozen? ⟨B,0,none⟩=false:=by
 simp [World.frozen?,h.obj]
end
theorem Bld.last{w:World}{base B:Nat}{A:Option Addr}{c:Nat}{p:PartD}{rs:List PartD}(h:Bld w base B A c (p :: rs)):
 ∃g,A=some ⟨g,0,none⟩∧base≤g∧g<w.heap.size∧g≠B∧rs.length+1≤c∧c≤maxLen∧w.cell? ⟨g,rs.length*3,none⟩=some (.int .i64 p.kind)∧w.cell? ⟨g,rs.length*3+1,none⟩=some (.int .i64 p.n)∧w.cell? ⟨g,rs.length*3+2,none⟩=some (.string p.text)∧
  ∀j,w.frozen? ⟨g,j,none⟩=false:=by
 rcases h.row.2 with⟨_,h0⟩ | ⟨g,cap,cur,hv,hb,hg,h1,h2,h3,h4⟩
 ·simp at h0
 ·simp only [Value.slice.injEq,true_and]at hv;obtain⟨rfl,rfl⟩:=hv;have hc: ∀j,j<3→w.cell? ⟨g,rs.length*3+j,none⟩=p.cells[j]?:=by
   intro j hj;have hl:rs.length*3+j<(p :: rs).length*3:=(by simp;omega);rw [h.row.cellAt _ hl,List.reverse_cons,dz_,List.getElem?_append_right (by rw [cu_];simp)];congr 1;rw [cu_];simp
  refine⟨g,rfl,hb,(Array.getElem?_eq_some_iff.1 hg).1,fun e=>h.apart (by simp [Value.ownBlock,e]),by simpa using h1,h2,hc 0 (by omega),hc 1 (by omega),hc 2 (by omega),fun j=>h.row.frozenAt j⟩
theorem Bld.stored{w:World}{base B g:Nat}{c:Nat}{p q:PartD}{rs:List PartD}(h:Bld w base B (some ⟨g,0,none⟩) c (p :: rs))(j:Nat)(u:Value)(hq:p.cells.set j u=q.cells):
 Bld (w.setCell ⟨g,rs.length*3+j,none⟩ u) base B (some ⟨g,0,none⟩) c (q :: rs)∧Turned w (w.setCell ⟨g,rs.length*3+j,none⟩ u) B (some g):=by
 obtain⟨h1,h2⟩:=h.row.stored (rs.length*3+j) u;refine⟨⟨h.lo,?_,?_,h.apart⟩,Turned.of_grown h2⟩
 ·have hne:B≠g:=fun e=>h.apart (by simp [Value.ownBlock,e]);exact(Below.heap_setCell w ⟨g,rs.length*3+j,none⟩ u B hne).trans h.obj
 ·have e:(opCells (p :: rs).reverse).set (rs.length*3+j) u=opCells (q :: rs).reverse:=by
   rw [List.reverse_cons,List.reverse_cons,dz_,dz_,List.set_append_right _ _ (by rw [cu_];simp),cu_,List.length_reverse,Nat.add_sub_cancel_left,hq]
  rw [e]at h1;exact h1
theorem Bld.put{w:World}{base B:Nat}{A A':Option Addr}{c c':Nat}{rs qs:List PartD}(hlo:base≤B)(hobj:w.heap[B]?=some (.cells #[.slice A rs.length c] 138 (0,0)))
 (hrow:w.ownsRow base 73 3 (.slice A' qs.length c') qs.length (opCells qs.reverse)) (hap:(Value.slice A' qs.length c').ownBlock≠some B):
 Bld (w.setCell ⟨B,0,none⟩ (.slice A' qs.length c')) base B A' c' qs:=by
 refine⟨hlo,?_,?_,hap⟩
 ·rw [heap_setCell_same w B 0 _ _ _ hobj];rfl
 ·refine hrow.kept (row:=some B) ⟨rfl,rfl,rfl,by simp [World.setCell],fun x _ hx=>bH_ (fun e=>hx (by simp [e]))⟩ (.inr ?_);exact hap
theorem Bld.shorter{w:World}{base B:Nat}{A:Option Addr}{c:Nat}{p:PartD}{rs:List PartD}(h:Bld w base B A c (p :: rs)):w.ownsRow base 73 3 (.slice A rs.length c) rs.length (opCells rs.reverse):=by
 refine⟨by rw [cu_];simp,?_⟩;rcases h.row.2 with⟨_,h0⟩ | ⟨g,cap,cur,hv,hb,hg,h1,h2,h3,h4⟩
 ·simp at h0
 ·simp only [Value.slice.injEq,true_and]at hv;obtain⟨rfl,rfl⟩:=hv;refine .inr ⟨g,c,cur,rfl,hb,hg,by simp at h1;omega,h2,h3,?_⟩;have:=congrArg (List.take (rs.length*3)) h4;rw [List.take_take,List.reverse_cons,dz_,List.take_left' (by rw [cu_];simp)]at this;rw [←this];congr 1;simp
def remR (rs:LP_) (n:Int):List PartD:=
 match rs with
 | []=>if 0<n then [⟨3,n,⟨#[]⟩⟩]else []
 | p :: r=>if p.kind=3 then⟨p.kind,wrap64 (p.n+n),p.text⟩ :: r else if 0<n then⟨3,n,⟨#[]⟩⟩ :: p :: r else p :: r
theorem ie_(p:PartD)(r:LP_)(n:Int):remR (p :: r) n=if p.kind=3 then⟨p.kind,wrap64 (p.n+n),p.text⟩ :: r else if 0<n then⟨3,n,⟨#[]⟩⟩ :: p :: r else p :: r:=rfl
theorem nj_(n:Int):remR [] n=if 0<n then [⟨3,n,⟨#[]⟩⟩]else []:=rfl
def insR (rs:LP_) (s:ByteArray):List PartD:=
 match rs with
 | []=> [⟨2,0,s⟩]
 | p :: r=>if p.kind=2 then⟨p.kind,p.n,p.text++s⟩ :: r else if p.kind=3 then remR (insR r s) p.n else⟨2,0,s⟩ :: p :: r
theorem nf_(s:ByteArray):insR [] s= [⟨2,0,s⟩]:=rfl
theorem gs_(p:PartD)(r:LP_)(s:ByteArray):insR (p :: r) s=if p.kind=2 then⟨p.kind,p.n,p.text++s⟩ :: r else if p.kind=3 then remR (insR r s) p.n else⟨2,0,s⟩ :: p :: r:=rfl
section
variable(w:World) (base B:Nat) (A:OA_) (c:Nat)
theorem hp_(k:Int)(h:Bld w base B A c []):
 Calls Tryz.prog 123 #[.pointer (some ⟨B,0,none⟩),.int .i64 k] w (R_ w (.pointer none)):=by
 have hc:=h.cell;have hl:=h.lt;simp only [List.length_nil]at hc;go_enter Tryz.func123,Tryz.ntmps123
 exact m102_
theorem hq_(p:PartD)(rs:LP_)(h:Bld w base B A c (p :: rs)):
 Calls Tryz.prog 123 #[.pointer (some ⟨B,0,none⟩),.int .i64 p.kind] w (R_ w (.pointer (A.map fun a=>⟨a.block,rs.length*3,none⟩))):=by
 exact m223_
theorem kx_(k:Int)(p:PartD)(rs:LP_)(h:Bld w base B A c (p :: rs))(hk:(p.kind==k)=false):
 Calls Tryz.prog 123 #[.pointer (some ⟨B,0,none⟩),.int .i64 k] w (R_ w (.pointer none)):=by
 exact m223_
end
theorem infoByte:(Tryz.prog.info? 5).map (fun i=>(i.zero,i.size,i.bytes))=some (some (.int .u8 0),1,1):=by kernel_rfl
theorem ky_{w:World}{base:Nat}{e:TypeId}{size n c:Nat}{A:Option Addr}{xs:List Value}(h:w.ownsRow base e size (.slice A n c) n xs):n≤c∧c≤9223372036854775807:=by
 obtain⟨A',c',h1,h2,h3⟩:=gd_ w h;injection h1 with _ _ h4
 subst h4;exact⟨h2,h3⟩
theorem Sl.take{S:Nat→Prop}{w:World}{A:Option Addr}{bs:List UInt8}{k:Nat}(h:Sl S w 1 A bs.length (bs.map byteV))(hk:k≤bs.length):Sl S w 1 A k ((bs.take k).map byteV):=by
 refine⟨by simp [hk],fun hn=>?_⟩;obtain⟨b,o,e,hb,hc⟩:=h.2 (by omega);refine⟨b,o,e,hb,fun j u hu=>hc j u ?_⟩;rw [List.map_take,List.getElem?_take]at hu;split at hu
 ·exact hu
 ·cases hu

end Go.Proofs.YtacacoklddogmaaGreatDoor
namespace Go.Proofs.YtacacoklddogmaaGreatDoor
set_option maxHeartbeats 4000000
open Go.RowKit Go.Lib
def runesAt (s:ByteArray):Nat→Nat→List Int
 | 0,_=> []
 | f+1,i=>if i<s.size then((Utf8.decode s i).1:Int) :: runesAt s f (i+(Utf8.decode s i).2)else []
def runesOf (s:ByteArray):List Int:=runesAt s s.size 0
theorem kb_(s:ByteArray): ∀(f i:Nat) (acc:Array Value),Conv.runesFrom s f i acc=acc++((runesAt s f i).map (Value.int .i32)).toArray
 | 0,_,acc=>by simp [Conv.runesFrom,runesAt]
 | f+1,i,acc=>by
  unfold Conv.runesFrom runesAt;by_cases h:i<s.size
  · simp only [h,if_true]
    rw [kb_ s f];simp
  · simp [h]
theorem om_(s:ByteArray):Conv.runesFrom s s.size 0 #[]=((runesOf s).map (Value.int .i32)).toArray:=by
 rw [kb_];simp [runesOf]
theorem bo_(s:ByteArray):(runesOf s).length=Lib.runeCount s:=by
 have h:=ip_ s;rw [om_]at h;simpa using h
theorem baf_(r:Int)(h:Utf8.valid r=false):(Utf8.encode r).data.toList= [239,191,189]:=by
 simp [Utf8.encode,h,Utf8.runeError]
theorem xi_(n:Nat)(v:Utf8.valid (n:Int)=true)(hv:((n:Int)<55296)∨(57344≤(n:Int)∧(n:Int)≤1114111)):(Utf8.encode (n:Int)).data.toList=encodeRune n:=by
 unfold encodeRune;by_cases c1:n<128
 ·rw [encodeRuneZ_one (by omega) (by omega)];simp [Utf8.encode,v,c1]
 by_cases c2:n<2048
 ·rw [encodeRuneZ_two (by omega) (by omega)];simp only [Utf8.encode,v,c1,c2,if_true,if_false,Int.toNat_natCast,List.map_cons,List.map_nil];rw [show(192+(n:Int) / 64).toNat=192+n / 64 by omega,show(128+(n:Int) % 64).toNat=128+n % 64 by omega]
 by_cases c3:n<65536
 ·rw [encodeRuneZ_three (by omega)];simp only [Utf8.encode,v,c1,c2,c3,if_true,if_false,Int.toNat_natCast,List.map_cons,List.map_nil];rw [show(224+(n:Int) / 4096).toNat=224+n / 4096 by omega,show(128+(n:Int) / 64 % 64).toNat=128+n / 64 % 64 by omega,show(128+(n:Int) % 64).toNat=128+n % 64 by omega]
 ·rw [encodeRuneZ_four (by omega) (by omega)];simp only [Utf8.encode,v,c1,c2,c3,if_true,if_false,Int.toNat_natCast,List.map_cons,List.map_nil];rw [show(240+(n:Int) / 262144).toNat=240+n / 262144 by omega,show(128+(n:Int) / 4096 % 64).toNat=128+n / 4096 % 64 by omega,show(128+(n:Int) / 64 % 64).toNat=128+n / 64 % 64 by omega,show(128+(n:Int) % 64).toNat=128+n % 64 by omega]
theorem bbz_(r:Int):(Utf8.encode r).data.toList=encodeRune r:=by
 by_cases h:Utf8.valid r=true
 ·have h0:0≤r:=by
   simp [Utf8.valid]at h;omega
  obtain⟨n,rfl⟩: ∃n:Nat,r=n:=⟨r.toNat,by omega⟩
  exact xi_ n h (by simp [Utf8.valid]at h;omega)
 ·rw [baf_ r (by simpa using h)];have h': ¬((0≤r∧r<55296)∨(57344≤r∧r≤1114111)):=by
   intro q;apply h;simp [Utf8.valid];omega
  unfold encodeRune encodeRuneZ;rw [if_neg (by omega),if_neg (by omega),if_neg (by omega),if_neg (by omega)];rfl
theorem op_: ∀(rs:List Int) (s:ByteArray),(rs.foldl (fun r n=>r++Utf8.encode n) s).data.toList=s.data.toList++rs.flatMap encodeRune
 | [],s=>by simp
 | r :: rs,s=>by
  rw [List.foldl_cons,op_ rs,ByteArray.data_append,Array.toList_append,bbz_];simp
theorem de_(rs:List Int):(runesBytes rs).data.toList=rs.flatMap encodeRune:=by
 unfold runesBytes;rw [op_];rfl
theorem uw_{a b:ByteArray}(h:a.data.toList=b.data.toList):a=b:=by
 obtain⟨⟨a⟩⟩:=a;obtain⟨⟨b⟩⟩:=b;simp at h;subst h;rfl
theorem ev_(a b:List Int):runesBytes (a++b)=runesBytes a++runesBytes b:=by
 apply uw_;rw [ByteArray.data_append,Array.toList_append,de_,de_,de_];simp
theorem ko_(s:ByteArray): ∀(f i:Nat),s.size≤i+f→validD (s.data.toList.drop i)=true→(runesAt s f i).flatMap encodeRune=s.data.toList.drop i
 | 0,i,h,_=>by
  have:s.data.toList.drop i= []:=List.drop_eq_nil_of_le (by rw [←size_eq];omega);simp [runesAt,this]
 | f+1,i,h,hv=>by
  unfold runesAt;by_cases hi:i<s.size
  · have hne : s.data.toList.drop i ≠ [] := by
     intro h0;have:=congrArg List.length h0;rw [List.length_drop,←size_eq]at this;simp at this;omega
    rw [validD_step _ hne]at hv;by_cases hb:(decodeL (s.data.toList.drop i)).1=65533∧(decodeL (s.data.toList.drop i)).2=1
    · rw [if_pos hb]at hv
      cases hv
    · rw [if_neg hb,List.drop_drop]at hv
      have he:=encode_decode _ hne hb;have hw:=decodeL_width (s.data.toList.drop i);rw [decodeL_drop]at he hv hw;rw [if_pos hi,List.flatMap_cons,he,ko_ s f _ (by omega) hv,←List.drop_drop,List.take_append_drop]
  · rw [if_neg hi]
    have:s.data.toList.drop i= []:=List.drop_eq_nil_of_le (by rw [←size_eq];omega);simp [this]
theorem sq_(s:ByteArray)(h:validD s.data.toList=true):runesBytes (runesOf s)=s:=by
 apply uw_;rw [de_];exact ko_ s s.size 0 (by omega) (by simpa using h)
def partSteps (p:PartD):List (Int × Int):=if p.kind=2 then(runesOf p.text).map (fun r=>(2,r))else List.replicate p.n.toNat (p.kind,0)
def stepsOf (ps:LP_):List (Int × Int):=ps.flatMap partSteps
theorem fx_(p:PartD)(ps:LP_):stepsOf (p :: ps)=partSteps p++stepsOf ps:=rfl
def moveGo (push:Bool):List PartD→Int→Int→Int→Int
 | [],_,_,new=>new
 | p :: ps,at_,old,new=>
  if p.kind=2 then(if at_<old∨(old=at_∧push=false)then new+at_ - old else moveGo push ps at_ old (new+Lib.runeCount p.text))
  else if p.kind=1 then(if at_<old+p.n then new+at_ - old else moveGo push ps at_ (old+p.n) (new+p.n))
  else moveGo push ps (if at_<old+p.n then old+p.n else at_) (old+p.n) new
def okParts:List PartD→Prop
 | []=>True
 | p :: ps=>partFault p=0∧(∀q,ps.head?=some q→clash p q=false)∧okParts ps
theorem gf_{p:PartD}(h:partFault p=0):(p.kind=2∧p.n=0∧textFault p.text=0∧p.text.toList≠ [])∨((p.kind=1∨p.kind=3)∧1≤p.n∧p.n≤4000∧p.text.toList= []):=by
 unfold partFault at h;by_cases h2:p.kind=2
 ·rw [if_pos h2]at h;by_cases h3:textFault p.text≠0
  ·rw [if_pos h3]at h;exact absurd h h3
  ·rw [if_neg h3]at h;by_cases h4:p.text.toList= []∨p.n≠0
   ·rw [if_pos h4]at h;cases h
   ·refine .inl ⟨h2,?_,?_,?_⟩
    ·exact Classical.not_not.1 fun q=>h4 (.inr q)
    ·exact Classical.not_not.1 h3
    ·exact fun q=>h4 (.inl q)
 ·rw [if_neg h2]at h;by_cases h3:p.kind=1∨p.kind=3
  ·rw [if_pos h3]at h;by_cases h4:p.n<1∨4000<p.n
   ·rw [if_pos h4]at h;cases h
   ·rw [if_neg h4]at h;by_cases h5:p.text.toList≠ []
    ·rw [if_pos h5]at h;cases h
    ·exact .inr ⟨h3,by omega,by omega,Classical.not_not.1 h5⟩
  ·rw [if_neg h3]at h;cases h
theorem bap_(ps:LP_)(h: ∀i,i<ps.length→badAt ps i=0):okParts ps:=by
 have key: ∀(qs:LP_) (n:Nat),qs=ps.drop n→okParts qs:=by
  intro qs;induction qs with
  | nil=>intro _ _;trivial
  | cons p qs ih=>
   intro n hn;have hl:n<ps.length:=by
    have:=congrArg List.length hn;rw [List.length_drop,List.length_cons]at this;omega
   have e0:p=ps[n]∧qs=ps.drop (n+1):=by
    rw [List.drop_eq_getElem_cons hl]at hn;injection hn with a b
    exact⟨a,b⟩
   obtain⟨rfl,rfl⟩:=e0;have hp:partFault ps[n]=0:=by
    rcases Classical.em (partFault ps[n]=0)with q | q
    · exact q
    · have:=h n hl
      rw [eq_ hl q]at this;exact this
   refine⟨hp,?_,ih (n+1) rfl⟩;intro q hq;rw [List.head?_drop]at hq;obtain⟨hl2,rfl⟩:=List.getElem?_eq_some_iff.1 hq;have h1:=h (n+1) hl2;have hq0:partFault ps[n+1]=0:=by
    rcases Classical.em (partFault ps[n+1]=0)with q | q
    · exact q
    · rw [eq_ hl2 q]at h1
      exact h1
   rw [jc_ hl2 hq0]at h1;cases hc:clash ps[n] ps[n+1]
   · rfl
   · rw [hc]at h1
     cases h1
 exact key ps 0 (by simp)
theorem cr_{ps:List PartD}(h:opFault ps=0):ps.length≤8001∧okParts ps∧(lens ps).1≤4000∧(lens ps).2≤4000:=by
 by_cases h8:8001<ps.length
 ·rw [hs_ h8]at h;cases h
 by_cases hg: ∀i,i<ps.length→badAt ps i=0
 ·rw [hr_ h8 hg]at h;by_cases hl:4000<(lens ps).1∨4000<(lens ps).2
  ·rw [if_pos hl]at h;cases h
  ·exact⟨by omega,bap_ ps hg,by omega,by omega⟩
 ·exfalso;have hex: ∃n,n<ps.length∧badAt ps n≠0:=by
   apply Classical.byContradiction;intro hn;apply hg;intro i hi;apply Classical.byContradiction;intro hb;exact hn ⟨i,hi,hb⟩
  have hmin: ∀n,n<ps.length→badAt ps n≠0→ ∃k,k<ps.length∧badAt ps k≠0∧ ∀i,i<k→badAt ps i=0:=by
   intro n;induction n using Nat.strongRecOn with
   | ind n ih=>
    intro hn hb;by_cases hall: ∀i,i<n→badAt ps i=0
    · exact⟨n,hn,hb,hall⟩
    · have : ∃ i, i < n ∧ badAt ps i ≠ 0 := by
       apply Classical.byContradiction;intro hc;apply hall;intro i hi;apply Classical.byContradiction;intro hq;exact hc ⟨i,hi,hq⟩
      obtain⟨i,hi,hq⟩:=this;exact ih i hi (by omega) hq
  obtain⟨n,hn,hb⟩:=hex;obtain⟨k,hk,hbk,hall⟩:=hmin n hn hb;rw [ez_ h8 hk hall hbk]at h;exact hbk h
theorem ga_{p:PartD}(h:partFault p=0)(h2:p.kind=2):p.n=0∧textFault p.text=0∧p.text.toList≠ []:=by
 rcases gf_ h with q | q
 ·exact q.2
 ·omega
theorem di_{p:PartD}(h:partFault p=0)(h2:p.kind≠2):(p.kind=1∨p.kind=3)∧1≤p.n∧p.n≤4000∧p.text.toList= []:=by
 rcases gf_ h with q | q
 ·exact absurd q.1 h2
 ·exact q
end Go.Proofs.YtacacoklddogmaaGreatDoor
namespace Go.Proofs.YtacacoklddogmaaGreatDoor
set_option maxHeartbeats 4000000
open Go.ChangeShapes Go.WideShapes Go.ChangeAt Go.RowKit
set_option maxRecDepth 100000
theorem infoStep:(Tryz.prog.info? 161).map (fun i=>(i.zero,i.size,i.bytes))=some (some (.agg #[.int .i64 0,.int .i32 0]),2,16):=by kernel_rfl
def stepCells (l:List (Int × Int)):List Value:=l.flatMap fun x=> [.int .i64 x.1,.int .i32 x.2]
theorem hv_(a b:List (Int × Int)):stepCells (a++b)=stepCells a++stepCells b:=by simp [stepCells]
theorem jv_(l:List (Int × Int)): ∀(k j:Nat) (hk:k<l.length) (_:j<2),(stepCells l)[k*2+j]?= [Value.int .i64 l[k].1,Value.int .i32 l[k].2][j]?:=by
 induction l with
 | nil=>intro k j hk;exact absurd hk (by simp)
 | cons p l ih=>
  intro k j hk hj;show([Value.int .i64 p.1,Value.int .i32 p.2]++stepCells l)[k*2+j]?=_;cases k with
  | zero=>
   rw [List.getElem?_append_left (by simp;omega)];simp
  | succ k=>
   rw [List.getElem?_append_right (by simp;omega)];rw [show(k+1)*2+j - [Value.int .i64 p.1,Value.int .i32 p.2].length=k*2+j by simp;omega,ih k j (by simpa using hk) hj];rfl
abbrev StepsIn (S:Nat→Prop) (w:World) (A:OA_) (l:List (Int × Int)):Prop:=Sl S w 2 A l.length (stepCells l)
theorem StepsIn.at_{S:Nat→Prop}{w:World}{A:Option Addr}{l:List (Int × Int)}(h:StepsIn S w A l){k:Nat}(hk:k<l.length):
 ∃b o,A=some ⟨b,o,none⟩∧S b∧w.cell? ⟨b,o+k*2,none⟩=some (.int .i64 l[k].1)∧w.cell? ⟨b,o+k*2+1,none⟩=some (.int .i32 l[k].2):=by
 obtain⟨b,o,e,hb,hc⟩:=h.2 (by omega);refine⟨b,o,e,hb,?_,?_⟩
 ·exact hc (k*2) _ (by rw [show k*2=k*2+0 from rfl,jv_ l k 0 hk (by omega)];rfl)
 ·exact hc (k*2+1) _ (by rw [jv_ l k 1 hk (by omega)];rfl)
theorem wo_(ps:LP_)(k:Nat)(hk:k<ps.length):stepsOf (ps.take (k+1))=stepsOf (ps.take k)++partSteps ps[k]:=by
 unfold stepsOf;rw [List.take_succ_eq_append_getElem hk,List.flatMap_append];simp
theorem baw_(ps:LP_)(k:Nat):(stepsOf (ps.take k)).length≤(stepsOf ps).length:=by
 have h:stepsOf ps=stepsOf (ps.take k)++stepsOf (ps.drop k):=by
  unfold stepsOf;rw [←List.flatMap_append,List.take_append_drop]
 rw [h];simp
def RetSteps (w:World) (l:List (Int × Int)) (e:Ending) (w':World):Prop:=
 ∃A c,e= .returned (.slice A l.length c)∧w'.ownsRow w.heap.size 161 2 (.slice A l.length c) l.length (stepCells l)∧Below w.heap.size w w'
theorem dq_(x:Int × Int): ∀u∈ [Value.int .i64 x.1,Value.int .i32 x.2],u.oneCell'=true:=by
 intro u hu;simp only [List.mem_cons,List.not_mem_nil,or_false]at hu;rcases hu with rfl | rfl <;> rfl
structure RunesAt (w:World) (g:Nat) (rs:List Int):Prop where
 lt:g<w.heap.size
 cells: ∀j u,(rs.map (Value.int .i32))[j]?=some u→w.cell? ⟨g,0+j,none⟩=some u
theorem RunesAt.grown{w w':World}{g:Nat}{rs:List Int}{row:Option Nat}(h:RunesAt w g rs)(hg:w.grownBy w' row)(hr:row≠some g):RunesAt w' g rs:=
 ⟨Nat.lt_of_lt_of_le h.lt hg.size,fun j u hu=>(World.cell?_of_block (w:=w) (a:=⟨g,0+j,none⟩) (hg.block g h.lt (fun e=>hr e.symm))).trans (h.cells j u hu)⟩
theorem RunesAt.alloc{w:World}{g:Nat}{rs:List Int}(h:RunesAt w g rs)(o:Obj):RunesAt (w.alloc o) g rs:=
 ⟨by simp;have:=h.lt;omega,fun j u hu=>(World.cell?_of_block (w:=w) (a:=⟨g,0+j,none⟩) (((Below.refl w.heap.size w).alloc (Nat.le_refl _) o).block g h.lt)).trans (h.cells j u hu)⟩
theorem RunesAt.new(w:World)(s:ByteArray)(n:Nat)(t:TypeId):RunesAt (w.alloc (.cells (Conv.runesFrom s s.size 0 #[]++Array.replicate n (.int .i32 0)) t)) w.heap.size (runesOf s):=by
 refine⟨by simp,fun j u hu=>?_⟩;rw [World.cell?_alloc_new,om_];have hj:=(List.getElem?_eq_some_iff.1 hu).1;rw [Nat.zero_add,Array.getElem?_append_left (by simpa using hj)];simpa using hu
theorem RunesAt.drew{w:World}{g:Nat}{rs:List Int}(h:RunesAt w g rs):RunesAt w.drew g rs:=⟨h.lt,h.cells⟩
theorem hj_(rs:List Int)(k:Nat)(hk:k<rs.length):(rs.map (Value.int .i32))[k]?=some (.int .i32 (rs.getD k 0)):=by
 simp [List.getElem?_eq_getElem hk,List.getD_eq_getElem?_getD]
theorem bax_(l:List Int)(k:Nat)(h:k<l.length):l.take (k+1)=l.take k++ [l.getD k 0]:=by
 rw [List.take_succ_eq_append_getElem h];simp [List.getD_eq_getElem?_getD,List.getElem?_eq_getElem h]
theorem insSteps(s:ByteArray)(n:Int):partSteps ⟨2,n,s⟩=(runesOf s).map (fun r=>(2,r)):=rfl
theorem othSteps(k n:Int)(s:ByteArray)(h:(k==2)=false):partSteps ⟨k,n,s⟩=List.replicate n.toNat (k,0):=if_neg (by simpa using h)
theorem beu_{A A':Option Addr}{n n' c c' x g:Nat}(h:(Value.slice A' n' c').ownBlock=(Value.slice A n c).ownBlock∨(Value.slice A' n' c').ownBlock=some x)(h1:(Value.slice A n c).ownBlock≠some g)(h2:g<x):(Value.slice A' n' c').ownBlock≠some g:=by
 rcases h with e | e
 ·rw [e];exact h1
 ·rw [e];intro q;injection q with q;omega
theorem ra_(w:World)(A:OA_)(c:Nat)(ps:LP_)(hs:OpIn (· <w.heap.size) w A ps)(hm:ps.length≤1048576)(ht: ∀p∈ps,p.text.size≤1048576)(hl:(stepsOf ps).length≤1048576):
 Calls Tryz.prog 106 #[.slice A ps.length c] w (RetSteps w (stepsOf ps)):=by
 obtain⟨i0,hi,hz0,hz1,hz2⟩:=info_parts infoStep;have HT:=h_ ht;clear ht;go_enter Tryz.func106,Tryz.ntmps106
 go_wp2
 go_loopw [3,4,5,6,7] (fun out i _ _ _ wr=> ∃(k:Nat) (Ao:OA_) (co:Nat),k≤ps.length∧i= .int .i64 k∧out= .slice Ao (stepsOf (ps.take k)).length co∧wr.ownsRow w.heap.size 161 2 (.slice Ao (stepsOf (ps.take k)).length co) (stepsOf (ps.take k)).length (stepCells (stepsOf (ps.take k)))∧Below w.heap.size w wr)
  (fun _ i _ _ _ _=>ps.length - (intOf i).toNat)
 case atStart=>exact⟨0,none,0,Nat.zero_le _,rfl,by simp [stepsOf],by simpa [stepsOf,stepCells]using World.ownsRow_nil _ _ _ _,Below.refl _ _⟩
 case round=>
  obtain⟨wo,rfl⟩:=q2_ (wr:World);obtain⟨k,Ao,co,hk,rfl,rfl,hown,hbw⟩:=hrel;by_cases hlt:k<ps.length
  ·obtain⟨b,o,rfl,hbs,h0,h1,h2⟩:=OpIn.at_ (ps:=ps) (Sl.la hs hbw) hlt;have HC:=h_ (OpIn.at_ (ps:=ps) hs hlt);have HL:=h_ (wo_ ps k hlt);have hle:=baw_ ps (k+1);have htx:ps[k].text.size≤1048576:=HT.o _ (List.getElem_mem hlt);rw [HL.o,List.length_append]at hle;generalize ps[k]=p at*;generalize stepsOf (ps.take k)=pre at*;obtain⟨kd,pn,tx⟩:=p;dsimp only at*;by_cases hk2:kd=2
   ·subst hk2;rw [insSteps,List.length_map]at hle;have HP:=h_ (insSteps tx pn);have hcv:=fun wx=>convRunes (w:=wx) htx;have hrl:=bo_ tx;generalize hG:runesOf tx=rs at*;rw [←hrl]at hcv;clear hrl;go_wp2
    have hra:RunesAt (wo.alloc (.cells (Conv.runesFrom tx tx.size 0 #[]++Array.replicate (grownCap wo rs.length 0 21 - rs.length) (.int .i32 0)) 21)).drew wo.heap.size rs:=by
     have:=RunesAt.new wo tx (grownCap wo rs.length 0 21 - rs.length) 21;rw [hG]at this;exact this.drew
    have hbn:(Value.slice Ao pre.length co).ownBlock≠some wo.heap.size:=by
     intro e;have:=(hown.lt _ e).2;omega
    clear hG;go_loopw [3,6] (fun out j wr=> ∃(q:Nat) (Ao:OA_) (co:Nat),q≤rs.length∧j= .int .i64 q∧out= .slice Ao (pre.length+q) co∧wr.ownsRow w.heap.size 161 2 (.slice Ao (pre.length+q) co) (pre.length+q) (stepCells (pre++(rs.take q).map (fun r=>(2,r))))∧(Value.slice Ao (pre.length+q) co).ownBlock≠some wo.heap.size∧RunesAt wr wo.heap.size rs∧Below w.heap.size w wr)
     (fun _ j _=>rs.length - (intOf j).toNat)
    case atStart=>exact⟨0,Ao,co,Nat.zero_le _,rfl,rfl,by simpa using(hown.alloc _).drew,hbn,hra,(bAlloc hbw _).drew⟩
    case round=>
     obtain⟨q,Aq,cq,hq,rfl,rfl,hownq,hbnq,hraq,hbq⟩:=hrel;by_cases hqlt:q<rs.length
     ·have hcq:=hraq.cells q _ (hj_ rs q hqlt);rw [Nat.zero_add]at hcq;have hQ:=bax_ rs q hqlt;obtain⟨x,hx⟩:=q2_ (rs.getD q 0);rw [←hx]at hcq hQ;have HQ:=h_ hQ;have HR:=h_ hraq;clear hx hQ hcv hraq;go_wp2_with(at_builtin;refine l_ _ rfl _ _ 158 rfl w.heap.size 161 i0 (.agg #[.int .i64 0,.int .i32 0]) 2 16 Tryz.underlying158 hi hz0 hz1 hz2 rfl (by decide) _ _ _ rfl (hownq.alloc _) (fun _=>True) _ _ _ _ rfl (Sl.new wr [.int .i64 2,.int .i32 x] 161 2 1 rfl trivial) ?c1 ?c2 ?c3 ?c4 ?_)
      case c1=>exact dq_ (2,x)
      case c2=>unfold maxLen;omega
      case c3=>omega
      case c4=>have:=hbq.size;simp;omega
      ·intro A' c' w1 hown' hgrow hat;go_wp2
       go_roundw
       case rel=>exact⟨q+1,A',c',by omega,by go_num,rfl,by rw [HQ.o];simpa [stepCells,Nat.add_assoc]using hown',beu_ hat hbnq (by have:=HR.o.lt;simp;omega),(HR.o.alloc _).grown hgrow hbnq,(bAlloc hbq _).grown hgrow (by have:=hbq.size;simp;omega) (fun g hg=>(hownq.lt g hg).1)⟩
       case measure=>simp [intOf];omega
     ·obtain rfl:q=rs.length:=(by omega);rw [List.take_length]at hownq;go_wp2
      go_roundw
      case rel=>exact⟨k+1,Aq,cq,by omega,by go_num,by rw [HL.o,HP.o,List.length_append,List.length_map],by rw [HL.o,HP.o];simpa using hownq,hbq⟩
      case measure=>simp [intOf];omega
   ·have e2:(kd==2)=false:=(by simpa using hk2);have HP:=h_ (othSteps kd pn tx e2);rw [HP.o,List.length_replicate]at hle;go_wp2
    go_loopw [3,7] (fun out j wr=> ∃(q:Nat) (Ao:OA_) (co:Nat),q≤pn.toNat∧j= .int .i64 q∧out= .slice Ao (pre.length+q) co∧wr.ownsRow w.heap.size 161 2 (.slice Ao (pre.length+q) co) (pre.length+q) (stepCells (pre++List.replicate q (kd,0)))∧Below w.heap.size w wr)
     (fun _ j _=>pn.toNat - (intOf j).toNat)
    case atStart=>exact⟨0,Ao,co,Nat.zero_le _,rfl,rfl,by simpa using hown,hbw⟩
    case round=>
     obtain⟨q,Aq,cq,hq,rfl,rfl,hownq,hbq⟩:=hrel;obtain⟨b',o',heq,hbs',g0,g1,g2⟩:=HC.o;injection heq with heq
     injection heq with e3 e4
     subst e3 e4;have g0':=(hbq.cell (p:=⟨b,o+k*3,none⟩) hbs').trans g0;have g1':=(hbq.cell (p:=⟨b,o+k*3+1,none⟩) hbs').trans g1;clear g0 g1 g2 h0 h1 h2;by_cases hqlt:(q:Int)<pn
     ·go_wp2_with(at_builtin;refine l_ _ rfl _ _ 158 rfl w.heap.size 161 i0 (.agg #[.int .i64 0,.int .i32 0]) 2 16 Tryz.underlying158 hi hz0 hz1 hz2 rfl (by decide) _ _ _ rfl (hownq.alloc _) (fun _=>True) _ _ _ _ rfl (Sl.new wr [.int .i64 kd,.int .i32 0] 161 2 1 rfl trivial) ?c1 ?c2 ?c3 ?c4 ?_)
      case c1=>simp [Value.oneCell']
      case c2=>unfold maxLen;omega
      case c3=>omega
      case c4=>have:=hbq.size;simp;omega
      ·intro A' c' w1 hown' hgrow hat;go_wp2
       go_roundw
       case rel=>exact⟨q+1,A',c',by omega,by go_num,rfl,by rw [List.replicate_succ'];simpa [stepCells,Nat.add_assoc]using hown',(bAlloc hbq _).grown hgrow (by have:=hbq.size;simp;omega) (fun g hg=>(hownq.lt g hg).1)⟩
       case measure=>simp [intOf];omega
     ·obtain rfl:q=pn.toNat:=(by omega);have hd:decide (((pn.toNat:Nat):Int)<pn)=false:=(by simp;omega);go_wp2
      go_roundw
      case rel=>exact⟨k+1,Aq,cq,by omega,by go_num,by rw [HL.o,HP.o,List.length_append,List.length_replicate],by rw [HL.o,HP.o];simpa using hownq,hbq⟩
      case measure=>simp [intOf];omega
  ·obtain rfl:k=ps.length:=(by omega);rw [List.take_length]at hown;go_wp2
   go_ret
   exact⟨Ao,co,by simp,hown,hbw⟩
end Go.Proofs.YtacacoklddogmaaGreatDoor
namespace Go.Proofs.YtacacoklddogmaaGreatDoor
set_option maxHeartbeats 4000000
open Go.RowKit Go.Lib
def appRunes (r:List Int):List PartD→Nat→List Int
 | [],_=> []
 | p :: ps,at_=>if p.kind=2 then runesOf p.text++appRunes r ps at_ else if p.kind=1 then(r.drop at_).take p.n.toNat++appRunes r ps (at_+p.n.toNat)else appRunes r ps (at_+p.n.toNat)
def appSteps (r:List Int):List (Int × Int)→Nat→List Int
 | [],_=> []
 | x :: l,at_=>if x.1=2 then x.2 :: appSteps r l at_ else if x.1=1 then r.getD at_ 0 :: appSteps r l (at_+1)else appSteps r l (at_+1)
theorem fe_(r:List Int)(x:Int × Int)(l:List (Int × Int))(at_:Nat):appSteps r (x :: l) at_=if x.1=2 then x.2 :: appSteps r l at_ else if x.1=1 then r.getD at_ 0 :: appSteps r l (at_+1)else appSteps r l (at_+1):=rfl
theorem ya_(r:List Int)(l:List (Int × Int))(at_:Nat): ∀rs:List Int,appSteps r (rs.map (fun x=>((2:Int),x))++l) at_=rs++appSteps r l at_
 | []=>rfl
 | x :: rs=>by
  rw [List.map_cons,List.cons_append];rw [fe_,if_pos rfl,ya_ r l at_ rs];rfl
theorem uv_(r:List Int)(l:List (Int × Int)): ∀(n at_:Nat),at_+n≤r.length→appSteps r (List.replicate n ((1:Int),(0:Int))++l) at_=(r.drop at_).take n++appSteps r l (at_+n)
 | 0,at_,_=>by simp
 | n+1,at_,h=>by
  rw [List.replicate_succ,List.cons_append];rw [fe_,if_neg (by decide),if_pos rfl,uv_ r l n _ (by omega),List.drop_eq_getElem_cons (show at_<r.length by omega),List.take_succ_cons];rw [List.getD_eq_getElem?_getD,List.getElem?_eq_getElem (show at_<r.length by omega)];rw [show at_+1+n=at_+(n+1) by omega];rfl
theorem xz_(r:List Int)(k:Int)(h1:k≠1)(h2:k≠2)(l:List (Int × Int)): ∀(n at_:Nat),appSteps r (List.replicate n (k,(0:Int))++l) at_=appSteps r l (at_+n)
 | 0,at_=>by simp
 | n+1,at_=>by
  rw [List.replicate_succ,List.cons_append];rw [fe_,if_neg h2,if_neg h1,xz_ r k h1 h2 l n,show at_+1+n=at_+(n+1) by omega]
def fromN:List PartD→Nat
 | []=>0
 | p :: ps=>(if p.kind=2 then 0 else p.n.toNat)+fromN ps
theorem kw_(r:List Int): ∀(ps:LP_) (at_:Nat),okParts ps→at_+fromN ps≤r.length→appSteps r (stepsOf ps) at_=appRunes r ps at_
 | [],_,_,_=>rfl
 | p :: ps,at_,⟨hp,_,hps⟩,hle=>by
  rw [fx_];unfold appRunes partSteps;unfold fromN at hle;by_cases h2:p.kind=2
  · rw [if_pos h2,if_pos h2,ya_,kw_ r ps at_ hps (by rw [if_pos h2]at hle;omega)]
  · obtain⟨hk,_,_,_⟩:=di_ hp h2
    rw [if_neg h2]at hle;rw [if_neg h2,if_neg h2];by_cases h1:p.kind=1
    · rw [if_pos h1,h1,uv_ r _ _ _ (by omega),kw_ r ps _ hps (by omega)]
    · rw [if_neg h1,xz_ r _ h1 h2,kw_ r ps _ hps (by omega)]
theorem du_{x:Int}(h1: -9223372036854775808≤x)(h2:x≤9223372036854775807):wrap64 x=x:=by
 unfold wrap64;omega
def toN:List PartD→Nat
 | []=>0
 | p :: ps=>(if p.kind=2 then Lib.runeCount p.text else if p.kind=1 then p.n.toNat else 0)+toN ps
theorem df_{s:ByteArray}(h:textFault s=0):Lib.runeCount s≤4000∧validD s.data.toList=true:=by
 unfold textFault at h;by_cases hv:validD s.data.toList=false
 ·rw [if_pos hv]at h;cases h
 ·rw [if_neg hv]at h;by_cases h4:4000<Lib.runeCount s
  ·rw [if_pos h4]at h;cases h
  ·exact⟨by omega,by simpa using hv⟩
theorem xo_(p:PartD)(a b:Nat)(hp:partFault p=0)(hle:a+b≤9000000000000000000):
 lenStep ((a:Int),(b:Int)) p=(((a+(if p.kind=2 then 0 else p.n.toNat):Nat):Int),((b+(if p.kind=2 then Lib.runeCount p.text else if p.kind=1 then p.n.toNat else 0):Nat):Int)):=by
 by_cases h2:p.kind=2
 ·obtain⟨_,ht,_⟩:=ga_ hp h2;obtain⟨hr,_⟩:=df_ ht;rw [show lenStep ((a:Int),(b:Int)) p=((a:Int),wrap64 ((b:Int)+Lib.runeCount p.text)) by unfold lenStep;rw [if_neg (by omega),if_pos h2]];rw [du_ (by omega) (by omega),if_pos h2,if_pos h2];exact Prod.ext (by simp) (by simp)
 ·obtain⟨hk,hn1,hn2,_⟩:=di_ hp h2;rw [if_neg h2,if_neg h2];by_cases h1:p.kind=1
  ·rw [show lenStep ((a:Int),(b:Int)) p=(wrap64 ((a:Int)+p.n),wrap64 ((b:Int)+p.n)) by unfold lenStep;rw [if_pos h1]];rw [du_ (by omega) (by omega),du_ (by omega) (by omega),if_pos h1];exact Prod.ext (by simp only [];omega) (by simp only [];omega)
  ·rw [show lenStep ((a:Int),(b:Int)) p=(wrap64 ((a:Int)+p.n),(b:Int)) by unfold lenStep;rw [if_neg h1,if_neg h2,if_pos (by omega)]];rw [du_ (by omega) (by omega),if_neg h1];exact Prod.ext (by simp only [];omega) (by simp)
theorem vj_: ∀(ps:LP_) (a b:Nat),okParts ps→a+b+ps.length*8000≤9000000000000000000→ps.foldl lenStep ((a:Int),(b:Int))=(((a+fromN ps:Nat):Int),((b+toN ps:Nat):Int))
 | [],a,b,_,_=>by simp [fromN,toN]
 | p :: ps,a,b,⟨hp,_,hps⟩,hle=>by
  simp only [List.length_cons]at hle;have hb:(if p.kind=2 then 0 else p.n.toNat)+(if p.kind=2 then Lib.runeCount p.text else if p.kind=1 then p.n.toNat else 0)≤8000:=by
   by_cases h2:p.kind=2
   · have:=(df_ (ga_ hp h2).2.1).1
     rw [if_pos h2,if_pos h2];omega
   · obtain⟨_,hn1,hn2,_⟩:=di_ hp h2
     rw [if_neg h2,if_neg h2];split <;> omega
  rw [List.foldl_cons,xo_ p a b hp (by omega),vj_ ps _ _ hps (by omega)];rw [show fromN (p :: ps)=(if p.kind=2 then 0 else p.n.toNat)+fromN ps from rfl,show toN (p :: ps)=(if p.kind=2 then Lib.runeCount p.text else if p.kind=1 then p.n.toNat else 0)+toN ps from rfl,Nat.add_assoc,Nat.add_assoc]
theorem bgz_{ps:List PartD}(h:okParts ps)(hl:ps.length≤8001):(lens ps).1=(fromN ps:Int)∧(lens ps).2=(toN ps:Int):=by
 have:=vj_ ps 0 0 h (by omega);unfold lens;rw [show((0:Int),(0:Int))=(((0:Nat):Int),((0:Nat):Int))from rfl,this];simp
theorem gc_{ps:List PartD}(h:opFault ps=0):(lens ps).1=(fromN ps:Int)∧(lens ps).2=(toN ps:Int)∧fromN ps≤4000∧toN ps≤4000:=by
 obtain⟨h8,hok,h1,h2⟩:=cr_ h;obtain⟨e1,e2⟩:=bgz_ hok h8;exact⟨e1,e2,by omega,by omega⟩
theorem do_: ∀ {ps:List PartD},okParts ps→(stepsOf ps).length≤fromN ps+toN ps
 | [],_=>by simp [stepsOf]
 | p :: ps,⟨hp,_,hps⟩=>by
  rw [fx_,List.length_append];have ih:=do_ hps;unfold fromN toN partSteps;by_cases h2:p.kind=2
  · rw [if_pos h2,if_pos h2,if_pos h2,List.length_map,bo_]
    omega
  · rw [if_neg h2,if_neg h2,if_neg h2,List.length_replicate]
    omega
def applyErr (s:ByteArray) (ps:LP_):Int:=if textFault s≠0 then textFault s else if opFault ps≠0 then opFault ps else if(lens ps).1≠(Lib.runeCount s:Int)then 10 else 0
def applyText (s:ByteArray) (ps:LP_):ByteArray:=if applyErr s ps=0 then runesBytes (appRunes (runesOf s) ps 0)else⟨#[]⟩
end Go.Proofs.YtacacoklddogmaaGreatDoor
namespace Go.Proofs.YtacacoklddogmaaGreatDoor
set_option maxHeartbeats 4000000
open Go.ChangeShapes Go.WideShapes Go.ChangeAt Go.RowKit
set_option maxRecDepth 100000
theorem gh_(n:Int)(s:ByteArray)(w:World)(hs:s.size≤1048576):
 Calls Tryz.prog 126 #[partV 2 n s] w (R_ w (.int .i64 (Lib.runeCount s))):=by
 go_enter Tryz.func126,Tryz.ntmps126
 go_wp2_with fail
 refine(dx_ s _ hs).mono ?_;rintro e w1 ⟨rfl,hb1⟩;obtain⟨⟨d1,os1⟩,rfl⟩:=e_ hb1;exact m102_
theorem bfv_(k n:Int)(s:ByteArray)(w:World)(hk:(k==2)=false):
 Calls Tryz.prog 126 #[partV k n s] w (R_ w (.int .i64 n)):=by
 go_enter Tryz.func126,Tryz.ntmps126
 exact m102_
theorem bcs_: ∀ {ps:List PartD},okParts ps→ ∀p∈ps,partFault p=0
 | [],_,p,hp=>by cases hp
 | q :: ps,⟨h1,_,h2⟩,p,hp=>by
  rcases List.mem_cons.1 hp with rfl | h
  · exact h1
  · exact bcs_ h2 p h
section
variable {push:Bool}{n:Int}{s:ByteArray}{ps:List PartD}
include push n s ps
theorem tf_{old new R:Int}(h:moveGo push (⟨2,n,s⟩ :: ps) old old new=R)(hp:push=false):new+old - old=R:=by
 unfold moveGo at h;rwa [if_pos rfl,if_pos (.inr ⟨rfl,hp⟩)]at h
section
variable {at_ old new R:Int}
include at_ old new R
theorem lv_(h:moveGo push (⟨2,n,s⟩ :: ps) at_ old new=R)(hp: ¬(at_<old∨(old=at_∧push=false))):moveGo push ps at_ old (new+Lib.runeCount s)=R:=by
 unfold moveGo at h;rwa [if_pos rfl,if_neg hp]at h
section
variable(h:moveGo push (⟨1,n,s⟩ :: ps) at_ old new=R)
include h
theorem qv_(hp:at_<old+n):new+at_ - old=R:=by
 unfold moveGo at h;rwa [if_neg (by simp),if_pos rfl,if_pos hp]at h
theorem vk_(hp: ¬at_<old+n):moveGo push ps at_ (old+n) (new+n)=R:=by
 unfold moveGo at h;rwa [if_neg (by simp),if_pos rfl,if_neg hp]at h
end
section
variable(h:moveGo push (⟨3,n,s⟩ :: ps) at_ old new=R)
include h
theorem te_(hp:at_<old+n):moveGo push ps (old+n) (old+n) new=R:=by
 unfold moveGo at h;rwa [if_neg (by simp),if_neg (by simp),if_pos hp]at h
theorem xp_(hp: ¬at_<old+n):moveGo push ps at_ (old+n) new=R:=by
 unfold moveGo at h;rwa [if_neg (by simp),if_neg (by simp),if_neg hp]at h
end
end
end
def moveErr (at_:Int) (ps:LP_):Int:=if opFault ps≠0 then opFault ps else if at_<0∨(lens ps).1<at_ then 2 else 0
section
variable(w:World) (at_:Int) (push:Bool) (A:OA_) (c:Nat) (ps:LP_) (hT:Tabs w) (hs:OpIn (· <w.heap.size) w A ps) (hm:ps.length≤1048576) (ht: ∀p∈ps,p.text.size≤1048576)
include w at_ push A c ps hT hs hm ht
theorem bbh_(hf:opFault ps=0)(h1:0≤at_)(h2:at_≤(lens ps).1):
 Calls Tryz.prog 99 #[.int .i64 at_,.slice A ps.length c,.bool push] w (R_ w (.tuple #[.int .i64 (moveGo push ps at_ 0 0),.int .i64 0])):=by
 obtain⟨h8,hok,h3,_⟩:=cr_ hf;have hC:=bt_ w A c ps hT hs hm ht;rw [hf]at hC;have HC:=h_ hC;have HOK:=h_ (bcs_ hok);have HTX:=h_ ht;have HD0:=h_ (show moveGo push (ps.drop 0) at_ 0 0=moveGo push ps at_ 0 0 by simp);have HLn:=h_ (fun W hW=>cs_ W A c ps hW hm HTX.o);have h4:at_≤4000:=by omega
 have e1:decide (at_<0)=false:=by simp;omega
 have e2:decide ((lens ps).1<at_)=false:=by simp;omega
 generalize hR:moveGo push ps at_ 0 0=R at*;generalize lens ps=L at*;obtain⟨L1,L2⟩:=L;dsimp only at*;clear hR hC hf hok ht hT h3 h2;go_enter Tryz.func99,Tryz.ntmps99
 go_wp2_with fail
 refine HC.o.mono ?_;rintro e w1 ⟨rfl,hb1⟩;have HS1:=h_ (Sl.la hs hb1);obtain⟨⟨d1,os1⟩,rfl⟩:=e_ hb1;go_wp2_with fail
 refine(HLn.o _ HS1.o).mono ?_;rintro e w2 ⟨rfl,hb2⟩;have hb3:=bThen (bGrow (Below.refl _ _) d1 os1) hb2;clear hb2 HS1;go_wp2_with fail
 go_loopw [0,11,12,34] (fun a o n i wr=> ∃(k:Nat) (a' o' n':Int),k≤ps.length∧i= .int .i64 k∧a= .int .i64 a'∧o= .int .i64 o'∧n= .int .i64 n'∧(0≤o'∧o'≤4000*k)∧(0≤n'∧n'≤4000*k)∧(o'≤a'∧a'≤4000*k+4000)∧Hid (moveGo push (ps.drop k) a' o' n'=R)∧Below w.heap.size w wr)
  (fun _ _ _ i _=>ps.length - (intOf i).toNat)
 case atStart=>exact⟨0,at_,0,0,Nat.zero_le _,rfl,rfl,rfl,rfl,by omega,by omega,by omega,HD0,hb3⟩
 case round=>
  obtain⟨k,a',o',n',hk,rfl,rfl,rfl,rfl,⟨ho1,ho2⟩,⟨hn1,hn2⟩,⟨ha1,ha2⟩,hd,hbw⟩:=hrel;have ob:o'≤32004000:=by omega
  have nb:n'≤32004000:=by omega
  have ab:a'≤32008000:=by omega
  have a0:0≤a':=by omega
  by_cases hlt:k<ps.length
  ·obtain⟨b,o,rfl,hbs,g0,g1,g2⟩:=OpIn.at_ (ps:=ps) (Sl.la hs hbw) hlt;have hpf:=HOK.o _ (List.getElem_mem hlt);have htx:ps[k].text.size≤1048576:=HTX.o _ (List.getElem_mem hlt);have HD:=h_ (show moveGo push (ps[k] :: ps.drop (k+1)) a' o' n'=R by rw [←List.drop_eq_getElem_cons hlt];exact hd.o);clear hd;generalize ps[k]=p at*;obtain⟨kd,pn,tx⟩:=p;dsimp only at*;by_cases hk2:kd=2
   ·subst hk2;have hrc:=(df_ (ga_ hpf rfl).2.1).1;clear hpf;have z1:decide (a'<o')=false:=(by simp;omega);by_cases hoa:o'=a'
    ·subst hoa;cases push
     ·have HR:=h_ (show n'=R by have:=tf_ HD.o rfl;omega);go_wp2_with fail
      go_ret2
      exact⟨(by rw [HR.o];first | done | rfl),bf_⟩
     ·have HR:=h_ (lv_ HD.o (by simp));go_wp2_with fail
      refine(gh_ pn tx _ htx).mono ?_;rintro e w4 ⟨rfl,hb4⟩;obtain⟨⟨d4,os4⟩,rfl⟩:=e_ hb4;go_wp2_with fail
      go_roundw
      case rel=>exact⟨k+1,o',o',n'+Lib.runeCount tx,by omega,by go_num,rfl,rfl,by go_num,by omega,by omega,by omega,HR,bf_⟩
      case measure=>simp [intOf];omega
    ·have z2:(o'==a')=false:=(by simpa using hoa);have HR:=h_ (lv_ HD.o (by omega));clear hoa;go_wp2_with fail
     refine(gh_ pn tx _ htx).mono ?_;rintro e w4 ⟨rfl,hb4⟩;obtain⟨⟨d4,os4⟩,rfl⟩:=e_ hb4;go_wp2_with fail
     go_roundw
     case rel=>exact⟨k+1,a',o',n'+Lib.runeCount tx,by omega,by go_num,rfl,rfl,by go_num,by omega,by omega,by omega,HR,bf_⟩
     case measure=>simp [intOf];omega
   obtain⟨hk13,hp1,hp2,_⟩:=di_ hpf hk2;dsimp only at hk13 hp1 hp2;have q2:(kd==2)=false:=(by simpa using hk2);have hp0:0≤pn:=(by omega);have hw1:wrap64 (o'+pn)=o'+pn:=du_ (by omega) (by omega);have hw2:wrap64 (n'+pn)=n'+pn:=du_ (by omega) (by omega);clear hpf;by_cases hk1:kd=1
   ·subst hk1;clear hk13 hk2 q2;by_cases ho:a'<o'+pn
    ·have HR:=h_ (qv_ HD.o ho);go_wp2_with fail
     go_ret2
     exact⟨(by rw [HR.o];first | done | rfl),bf_⟩
    ·have HR:=h_ (vk_ HD.o ho);go_wp2_with fail
     go_quiet (fail)
     go_wp2_with fail
     go_roundw
     case rel=>exact⟨k+1,a',o'+pn,n'+pn,by omega,by go_num,rfl,by go_num,by go_num,by omega,by omega,by omega,HR,bf_⟩
     case measure=>simp [intOf];omega
   obtain rfl:kd=3:=(by omega);clear hk13 hk2 q2 hk1;by_cases ho:a'<o'+pn
   ·have HR:=h_ (te_ HD.o ho);go_wp2_with fail
    go_roundw
    case rel=>exact⟨k+1,o'+pn,o'+pn,n',by omega,by go_num,by go_num,by go_num,rfl,by omega,by omega,by omega,HR,bf_⟩
    case measure=>simp [intOf];omega
   ·have HR:=h_ (xp_ HD.o ho);go_wp2_with fail
    go_roundw
    case rel=>exact⟨k+1,a',o'+pn,n',by omega,by go_num,rfl,by go_num,rfl,by omega,by omega,by omega,HR,bf_⟩
    case measure=>simp [intOf];omega
  ·obtain rfl:k=ps.length:=(by omega);have HR:=h_ (show n'=R by have:=hd.o;rwa [List.drop_length]at this);clear hd;go_wp2_with fail
   go_ret2
   exact⟨(by rw [HR.o];first | done | rfl),hbw⟩
theorem bhl_:
 Calls Tryz.prog 99 #[.int .i64 at_,.slice A ps.length c,.bool push] w (R_ w (.tuple #[.int .i64 (if moveErr at_ ps=0 then moveGo push ps at_ 0 0 else 0),.int .i64 (moveErr at_ ps)])):=by
 have hC:=bt_ w A c ps hT hs hm ht;by_cases hf:opFault ps=0
 ·by_cases h1:at_<0∨(lens ps).1<at_
  ·rw [show moveErr at_ ps=2 by simp [moveErr,hf,h1],if_neg (by decide)];rw [hf]at hC;have HC:=h_ hC;have HLn:=h_ (fun W hW=>cs_ W A c ps hW hm ht);clear hC hf ht hT;generalize lens ps=L at*;obtain⟨L1,L2⟩:=L;dsimp only at*;by_cases h0:at_<0
   ·have e1:decide (at_<0)=true:=(by simpa using h0);clear h1;exact m182_
   ·have e1:decide (at_<0)=false:=(by simpa using h0);have e2:decide (L1<at_)=true:=(by simp;omega);clear h1 h0;exact m182_
  ·rw [show moveErr at_ ps=0 by simp [moveErr,hf,h1],if_pos rfl];exact bbh_ w at_ push A c ps hT hs hm ht hf (by omega) (by omega)
 ·rw [show moveErr at_ ps=opFault ps by simp [moveErr,hf],if_neg hf];have hb0:(opFault ps !=0)=true:=by simpa using hf
  generalize opFault ps=x at*;have HC:=h_ hC;clear hC hf;go_enter Tryz.func99,Tryz.ntmps99
  go_wp2_with fail
  refine HC.o.mono ?_;rintro e w1 ⟨rfl,hb1⟩;obtain⟨⟨d1,os1⟩,rfl⟩:=e_ hb1;go_wp2_with fail
  go_ret2
  exact⟨rfl,bz_⟩
end
theorem yn_(W:World):({ heap:=W.heap,tape:=W.tape,drawn:=W.drawn+1,os:=W.os,output:=W.output } :World)=W.drew:=rfl
def BldTo (w:World) (base B:Nat) (A:OA_) (n c:Nat) (qs:LP_) (w':World):Prop:=
 ∃A' c',Bld w' base B A' c' qs∧Turned w w' B (Value.slice A n c).ownBlock∧((Value.slice A' qs.length c').ownBlock=(Value.slice A n c).ownBlock∨ ∀x,(Value.slice A' qs.length c').ownBlock=some x→w.heap.size≤x)
section
variable {w w':World}{base B:Nat}{A:Option Addr}{c:Nat}{rs:List PartD}(h:Bld w base B A c rs)
include w w' base B A c rs h
theorem Bld.la(hb:Below w.heap.size w w'):Bld w' base B A c rs:=
 ⟨h.lo,(hb.block B h.lt).trans h.obj,h.row.kept (row:=none) ⟨hb.os,hb.tape,hb.output,hb.size,fun k hk _=>hb.block k hk⟩ (by cases(Value.slice A rs.length c).ownBlock <;> simp),h.apart⟩
theorem Bld.grown(hg:w.grownBy w' (Value.slice A rs.length c).ownBlock):w'.heap[B]?=some (.cells #[.slice A rs.length c] 138 (0,0)):=
 (hg.block B h.lt (fun e=>h.apart e.symm)).trans h.obj
end
theorem nh_{w:World}{B:Nat}{v:Value}{t:TypeId}(h:w.heap[B]?=some (.cells #[v] t (0,0))):w.cell? ⟨B,0,none⟩=some v∧w.frozen? ⟨B,0,none⟩=false∧B<w.heap.size:=
 ⟨by simp [World.cell?,h],by simp [World.frozen?,h],(Array.getElem?_eq_some_iff.1 h).1⟩
theorem hm_{w W2 w1:World}{base B x:Nat}{A A':Option Addr}{c c':Nat}{rs:List PartD}{q:PartD}(hb:Bld w base B A c rs)(hW:Below w.heap.size w W2)
 (hown:w1.ownsRow base 73 3 (.slice A' (rs.length+1) c') (rs.length+1) (opCells rs.reverse++q.cells)) (hgrow:W2.grownBy w1 (Value.slice A rs.length c).ownBlock)
 (hat:(Value.slice A' (rs.length+1) c').ownBlock=(Value.slice A rs.length c).ownBlock∨(Value.slice A' (rs.length+1) c').ownBlock=some x) (hx:w.heap.size≤x):
 BldTo w base B A rs.length c (q :: rs) (w1.setCell ⟨B,0,none⟩ (.slice A' (rs.length+1) c')):=by
 have hat':(Value.slice A' (rs.length+1) c').ownBlock=(Value.slice A rs.length c).ownBlock∨ ∀y,(Value.slice A' (rs.length+1) c').ownBlock=some y→w.heap.size≤y:=by
  rcases hat with h | h
  ·exact .inl h
  ·refine .inr fun y hy=>?_;rw [h]at hy;injection hy with hy
   omega
 refine⟨A',c',Bld.put (rs:=rs) (A:=A) (c:=c) (qs:=q :: rs) (A':=A') (c':=c') hb.lo ((hb.la hW).grown hgrow) ?_ ?_,?_,hat'⟩
 ·rw [List.reverse_cons,dz_];exact hown
 ·rcases hat with h | h
  ·intro e;exact hb.apart (h.symm.trans e)
  ·intro e;have:=hb.lt;have e2:some x=some B:=h.symm.trans e;injection e2 with e2
   omega
 ·exact((Turned.of_below hW).trans (Turned.of_grown hgrow) (.inl rfl)).trans (Turned.of_set w1 B 0 _ _) (.inl rfl)
theorem BldTo.self{w w':World}{base B:Nat}{A:Option Addr}{c:Nat}{rs:List PartD}(hb:Bld w base B A c rs)(h:Below w.heap.size w w'):BldTo w base B A rs.length c rs w':=
 ⟨A,c,hb.la h,Turned.of_below h,.inl rfl⟩
theorem BldTo.then_{w w1 w2:World}{base B:Nat}{A A1:Option Addr}{n c c1:Nat}{rs qs:List PartD}(ht:Turned w w1 B (Value.slice A n c).ownBlock)(hr:(Value.slice A1 rs.length c1).ownBlock=(Value.slice A n c).ownBlock∨ ∀x,(Value.slice A1 rs.length c1).ownBlock=some x→w.heap.size≤x)
 (h:BldTo w1 base B A1 rs.length c1 qs w2):BldTo w base B A n c qs w2:=by
 obtain⟨A2,c2,hb2,ht2,hr2⟩:=h;refine⟨A2,c2,hb2,ht.trans ht2 hr,?_⟩;rcases hr2 with e | e
 ·rw [e];exact hr
 ·exact .inr fun x hx=>Nat.le_trans ht.size (e x hx)
section
variable(w:World) (base B:Nat) (A:OA_) (c:Nat)
theorem xw_(n:Int)(p:PartD)(rs:LP_)(hb:Bld w base B A c (p :: rs))(hk:p.kind=3):
 Calls Tryz.prog 93 #[.pointer (some ⟨B,0,none⟩),.int .i64 n] w fun e w'=>e= .returned (.tuple #[])∧BldTo w base B A (rs.length+1) c (⟨p.kind,wrap64 (p.n+n),p.text⟩ :: rs) w':=by
 have k233_:K_ (∀(P:Prop) (h:P:=by
 have hz:=hfz (rs.length*3+1);clear hb hfz;go_enter Tryz.func93,Tryz.ntmps93
 go_wp2_with fail
 refine HL.o.mono ?_;rintro e w1 ⟨rfl,hb1⟩;obtain⟨⟨d1,os1⟩,rfl⟩:=e_ hb1;dsimp only [Option.map];go_wp2_with fail
 obtain⟨hA,hB⟩:=HB.o.stored 1 (.int .i64 (wrap64 (pn+n))) (q:=⟨3,wrap64 (pn+n),tx⟩) rfl;exact m278_
 ),P):=⟨@q6_⟩
 exact m233_
section
variable(n:Int) (rs:LP_) (hb:Bld w base B A c rs)
include n rs hb
theorem mb_(hn:decide (0<n)=false)(HL:Hid (Calls Tryz.prog 123 #[.pointer (some ⟨B,0,none⟩),.int .i64 3] w (R_ w (.pointer none)))):
 Calls Tryz.prog 93 #[.pointer (some ⟨B,0,none⟩),.int .i64 n] w fun e w'=>e= .returned (.tuple #[])∧BldTo w base B A rs.length c rs w':=by
 go_enter Tryz.func93,Tryz.ntmps93
 go_wp2_with fail
 refine HL.o.mono ?_;rintro e w1 ⟨rfl,hb1⟩;go_wp2_with fail
 exact bodyPost_end (results_none rfl _ _ _) rfl ⟨rfl,BldTo.self hb hb1⟩
theorem ph_(hn:decide (0<n)=true)(hlen:rs.length≤1000000)(HL:Hid (Calls Tryz.prog 123 #[.pointer (some ⟨B,0,none⟩),.int .i64 3] w (R_ w (.pointer none)))):
 Calls Tryz.prog 93 #[.pointer (some ⟨B,0,none⟩),.int .i64 n] w fun e w'=>e= .returned (.tuple #[])∧BldTo w base B A rs.length c (⟨3,n,⟨#[]⟩⟩ :: rs) w':=by
 have hl:=hb.lt;have hc:=hb.cell;obtain⟨i0,hi,hz0,hz1,hz2⟩:=info_parts infoPart;go_enter Tryz.func93,Tryz.ntmps93
 go_wp2_with fail
 refine HL.o.mono ?_;rintro e w1 ⟨rfl,hb1⟩;obtain⟨⟨d1,os1⟩,rfl⟩:=e_ hb1;have HB2:=h_ (hb.la (bAlloc (bGrow (Below.refl _ _) d1 os1) (.cells #[.int .i64 3,.int .i64 n,.string ⟨#[]⟩] 73)));have hS:Sl (fun _=>True) ((Sort.grow (redrawn w d1) os1).alloc (.cells #[.int .i64 3,.int .i64 n,.string ⟨#[]⟩] 73)) 3 (some ⟨w.heap.size+os1.size,0,none⟩) 1 [.int .i64 3,.int .i64 n,.string ⟨#[]⟩]:=by
  have h:=Sl.new (S:=fun _=>True) (Sort.grow (redrawn w d1) os1) [.int .i64 3,.int .i64 n,.string ⟨#[]⟩] 73 3 1 rfl trivial;rw [ke_]at h;exact h
 have k117_:K_ (∀(P:Prop) (h:P:=by
 exact hm_ hb (bAlloc (bGrow (Below.refl _ _) d1 os1) _) (q:=⟨3,n,⟨#[]⟩⟩) (by simpa [PartD.cells]using hown) hgrow hat (by simp <;> omega)
 ),P):=⟨@q6_⟩
 exact m117_
theorem nk_(hlen:rs.length≤1000000):
 Calls Tryz.prog 93 #[.pointer (some ⟨B,0,none⟩),.int .i64 n] w fun e w'=>e= .returned (.tuple #[])∧BldTo w base B A rs.length c (remR rs n) w':=by
 rcases rs with _ | ⟨p,r⟩
 ·rw [nj_];by_cases hn:0<n
  ·rw [if_pos hn];exact ph_ w base B A c n [] hb (by simpa using hn) hlen (h_ (hp_ w base B A c 3 hb))
  ·rw [if_neg hn];exact mb_ w base B A c n [] hb (by simpa using hn) (h_ (hp_ w base B A c 3 hb))
 ·rw [ie_];by_cases hk:p.kind=3
  ·rw [if_pos hk];exact xw_ w base B A c n p r hb hk
  ·have HL:=h_ (kx_ w base B A c 3 p r hb (by simpa using hk));by_cases hn:0<n
   ·rw [if_neg hk,if_pos hn];exact ph_ w base B A c n (p :: r) hb (by simpa using hn) hlen HL
   ·rw [if_neg hk,if_neg hn];exact mb_ w base B A c n (p :: r) hb (by simpa using hn) HL
end
section
variable(s:ByteArray)
include s
theorem xn_(rs:LP_)(hb:Bld w base B A c rs)(hs:s.toList.isEmpty=true):
 Calls Tryz.prog 94 #[.pointer (some ⟨B,0,none⟩),.string s] w fun e w'=>e= .returned (.tuple #[])∧BldTo w base B A rs.length c rs w':=by
 go_enter Tryz.func94,Tryz.ntmps94
 go_wp2_with fail
 exact bodyPost_ret (results_none rfl _ _ _) rfl ⟨rfl,BldTo.self hb (Below.refl _ _)⟩
theorem xm_(p:PartD)(rs:LP_)(hb:Bld w base B A c (p :: rs))(hs:s.toList.isEmpty=false)(hk:p.kind=2)(hcat: ¬9223372036854775807<p.text.size+s.size):
 Calls Tryz.prog 94 #[.pointer (some ⟨B,0,none⟩),.string s] w fun e w'=>e= .returned (.tuple #[])∧BldTo w base B A (rs.length+1) c (⟨p.kind,p.n,p.text++s⟩ :: rs) w':=by
 have k233_:K_ (∀(P:Prop) (h:P:=by
 have hz:=hfz (rs.length*3+2);clear hb hfz;go_enter Tryz.func94,Tryz.ntmps94
 go_wp2_with fail
 refine HL.o.mono ?_;rintro e w1 ⟨rfl,hb1⟩;obtain⟨⟨d1,os1⟩,rfl⟩:=e_ hb1;dsimp only [Option.map];go_wp2_with fail
 obtain⟨hA,hB⟩:=HB.o.stored 2 (.string (tx++s)) (q:=⟨2,pn,tx++s⟩) rfl;exact bodyPost_ret (results_none rfl _ _ _) rfl ⟨rfl,_,_,hA.la (bGrow (Below.refl _ _) _ _),hB.trans (Turned.of_below (bGrow (Below.refl _ _) _ _)) (.inl rfl),.inl rfl⟩
 ),P):=⟨@q6_⟩
 exact m233_
theorem ov_(rs:LP_)(hb:Bld w base B A c rs)(hs:s.toList.isEmpty=false)(hlen:rs.length≤1000000)(HL:Hid (∀k,k=2∨k=3→ ∀w',Below w.heap.size w w'→Calls Tryz.prog 123 #[.pointer (some ⟨B,0,none⟩),.int .i64 k] w' fun e w2=>e= .returned (.pointer none)∧Below w'.heap.size w' w2)):
 Calls Tryz.prog 94 #[.pointer (some ⟨B,0,none⟩),.string s] w fun e w'=>e= .returned (.tuple #[])∧BldTo w base B A rs.length c (⟨2,0,s⟩ :: rs) w':=by
 have hl:=hb.lt;have hc:=hb.cell;obtain⟨i0,hi,hz0,hz1,hz2⟩:=info_parts infoPart;go_enter Tryz.func94,Tryz.ntmps94
 go_wp2_with fail
 refine(HL.o 2 (.inl rfl) _ (Below.refl _ _)).mono ?_;rintro e w1 ⟨rfl,hb1⟩;obtain⟨⟨d1,os1⟩,rfl⟩:=e_ hb1;go_wp2_with fail
 refine(HL.o 3 (.inr rfl) _ (bGrow (Below.refl _ _) _ _)).mono ?_;rintro e w2 ⟨rfl,hb2⟩;have hb3:=bThen (bGrow (Below.refl _ _) d1 os1) hb2;clear hb1 hb2;obtain⟨⟨d3,os3⟩,rfl⟩:=e_ hb3;have HB2:=h_ (hb.la (bAlloc (bGrow (Below.refl _ _) d3 os3) (.cells #[.int .i64 2,.int .i64 0,.string s] 73)));have hS:Sl (fun _=>True) ((Sort.grow (redrawn w d3) os3).alloc (.cells #[.int .i64 2,.int .i64 0,.string s] 73)) 3 (some ⟨w.heap.size+os3.size,0,none⟩) 1 [.int .i64 2,.int .i64 0,.string s]:=by
  have h:=Sl.new (S:=fun _=>True) (Sort.grow (redrawn w d3) os3) [.int .i64 2,.int .i64 0,.string s] 73 3 1 rfl trivial;rw [ke_]at h;exact h
 have k117_:K_ (∀(P:Prop) (h:P:=by
 exact hm_ hb (bAlloc (bGrow (Below.refl _ _) d3 os3) _) (q:=⟨2,0,s⟩) (by simpa [PartD.cells]using hown) hgrow hat (by simp <;> omega)
 ),P):=⟨@q6_⟩
 exact m117_
theorem bam_(p:PartD)(rs qs:LP_)(hb:Bld w base B A c (p :: rs))(hs:s.toList.isEmpty=false)(hk:p.kind=3)(HI:Hid (∀W A1 c1,Bld W base B A1 c1 rs→Calls Tryz.prog 94 #[.pointer (some ⟨B,0,none⟩),.string s] W fun e w'=>e= .returned (.tuple #[])∧BldTo W base B A1 rs.length c1 qs w'))(hlen:qs.length≤1000000):
 Calls Tryz.prog 94 #[.pointer (some ⟨B,0,none⟩),.string s] w fun e w'=>e= .returned (.tuple #[])∧BldTo w base B A (rs.length+1) c (remR qs p.n) w':=by
 have HL:=h_ (hq_ w base B A c p rs hb);have HN:=h_ (kx_ w base B A c 2 p rs hb (by rw [hk];decide));have HB:=h_ hb;obtain⟨g,rfl,_,hg,hne,hcap,hmax,h0,h1,h2,hfz⟩:=hb.last;have hl:=hb.lt;have hc:=hb.cell;have hz:=hb.frozen;simp only [List.length_cons]at hc;rw [hk]at HL;obtain⟨kd,pn,tx⟩:=p;dsimp only at*;subst hk;clear hb hfz;go_enter Tryz.func94,Tryz.ntmps94
 go_wp2_with fail
 refine HN.o.mono ?_;rintro e w1 ⟨rfl,hb1⟩;obtain⟨⟨d1,os1⟩,rfl⟩:=e_ hb1;go_wp2_with fail
 have HL2:=h_ (hq_ _ base B _ c _ rs (HB.o.la hb1));refine HL2.o.mono ?_;rintro e w2 ⟨rfl,hb2⟩;have hb3:=bThen (bGrow (Below.refl _ _) d1 os1) hb2;clear hb1 hb2 HL2;obtain⟨⟨d3,os3⟩,rfl⟩:=e_ hb3;dsimp only [Option.map];unfold maxLen at hmax;go_wp2_with fail
 have hwr:IntKind.i64.wrap (↑rs.length:Int)=(↑rs.length:Int):=IntWalk.i64_in _ (by omega);have hcap2:rs.length≤c:=by omega
 refine wp_region_still_tail 12 (by kernel_rfl) (by kernel_rfl) ?_;simp only [List.take_succ_cons,List.take_zero,List.drop_succ_cons,List.drop_zero,yn_,bcd_];repeat still_step
 refine wpStill_nil ?_;go_wp2_with fail
 have HB0:=Bld.put (rs:=⟨3,pn,tx⟩ :: rs) (A:=some ⟨g,0,none⟩) (c:=c) (qs:=rs) (A':=some ⟨g,0,none⟩) (c':=c) HB.o.lo HB.o.obj HB.o.shorter HB.o.apart;refine(HI.o _ _ _ (HB0.la (bGrow (Below.refl _ _) (d3+1) os3))).mono ?_;rintro e w4 ⟨rfl,A2,c2,hb2,ht2,hr2⟩;have HB2:=h_ hb2;have HT:=h_ (((Turned.of_set w B 0 (.slice (some ⟨g,0,none⟩) rs.length c) (some g)).trans (Turned.of_below (bGrow (Below.refl _ _) (d3+1) os3)) (.inl rfl)).trans ht2 (.inl rfl));have HR:=h_ (hr2.imp id (fun h x hx=>Nat.le_trans (by simp) (h x hx):_→ ∀x,(Value.slice A2 qs.length c2).ownBlock=some x→w.heap.size≤x));clear hb2 ht2 hr2;go_wp2_with fail
 refine(nk_ w4 base B A2 c2 pn qs HB2.o hlen).mono ?_;rintro e w5 ⟨rfl,hto⟩;go_wp2_with fail
 exact bodyPost_ret (results_none rfl _ _ _) rfl ⟨rfl,BldTo.then_ HT.o HR.o hto⟩
end
end
theorem xv_(rs:LP_)(n:Int):(remR rs n).length≤rs.length+1:=by
 cases rs with
 | nil=>rw [nj_];split <;> simp
 | cons p r=>rw [ie_];split <;> (try split) <;> simp
theorem lt_(s:ByteArray): ∀rs:List PartD,(insR rs s).length≤rs.length+1
 | []=>by rw [nf_];simp
 | p :: r=>by
  rw [gs_];split
  · simp
  · split
    · have h1:=xv_ (insR r s) p.n
      have h2:=lt_ s r;simp only [List.length_cons];omega
    · simp
def insB (rs:LP_) (s:ByteArray):List PartD:=if s.toList.isEmpty=true then rs else insR rs s
theorem lu_(base B:Nat)(s:ByteArray)(hs:s.toList.isEmpty=false)(hz:s.size≤4611686018427387903): ∀(rs:LP_) (w:World) (A:OA_) (c:Nat),Bld w base B A c rs→rs.length≤900000→(∀p∈rs,p.text.size≤4611686018427387903)→
 Calls Tryz.prog 94 #[.pointer (some ⟨B,0,none⟩),.string s] w fun e w'=>e= .returned (.tuple #[])∧BldTo w base B A rs.length c (insR rs s) w'
 | [],w,A,c,hb,hl,ht=>by
  rw [nf_];exact ov_ w base B A c s [] hb hs (by omega) (h_ fun k _ w' h=>hp_ w' base B A c k (hb.la h))
 | p :: r,w,A,c,hb,hl,ht=>by
  rw [gs_];have hp:=ht p (List.mem_cons.2 (.inl rfl));by_cases h2:p.kind=2
  · rw [if_pos h2]
    exact xm_ w base B A c s p r hb hs h2 (by omega)
  · rw [if_neg h2]
    by_cases h3:p.kind=3
    · rw [if_pos h3]
      have hlr:r.length≤900000:=(by simp only [List.length_cons]at hl;omega);exact bam_ w base B A c s p r (insR r s) hb hs h3 (h_ fun W A1 c1 h=>lu_ base B s hs hz r W A1 c1 h hlr (fun q hq=>ht q (List.mem_cons.2 (.inr hq)))) (by have:=lt_ s r;omega)
    · rw [if_neg h3]
      refine ov_ w base B A c s (p :: r) hb hs (by omega) (h_ fun k hk w' h=>kx_ w' base B A c k p r (hb.la h) ?_);rcases hk with rfl | rfl
      · simpa using h2
      · simpa using h3
theorem ng_(w:World)(base B:Nat)(A:OA_)(c:Nat)(s:ByteArray)(rs:LP_)(hb:Bld w base B A c rs)(hz:s.size≤4611686018427387903)(hl:rs.length≤900000)(ht: ∀p∈rs,p.text.size≤4611686018427387903):
 Calls Tryz.prog 94 #[.pointer (some ⟨B,0,none⟩),.string s] w fun e w'=>e= .returned (.tuple #[])∧BldTo w base B A rs.length c (insB rs s) w':=by
 unfold insB;by_cases hs:s.toList.isEmpty=true
 ·rw [if_pos hs];exact xn_ w base B A c s rs hb hs
 ·rw [if_neg hs];exact lu_ base B s (by simpa using hs) hz rs w A c hb hl ht
end Go.Proofs.YtacacoklddogmaaGreatDoor
namespace Go.Proofs.YtacacoklddogmaaGreatDoor
set_option maxHeartbeats 4000000
open Go.RowKit Go.Lib
def Scal (r:Int):Prop:=(0≤r∧r<55296)∨(57344≤r∧r≤1114111)
theorem hc_(r:Int):1≤(encodeRune r).length∧(encodeRune r).length≤4:=by
 have:=encodeRuneZ_length r;simpa [encodeRune]using this
theorem toU8(z:Int)(h1:z<256):(z.toNat.toUInt8).toNat=z.toNat:=by
 have:z.toNat<256:=by omega
 simp [Nat.toUInt8,Nat.mod_eq_of_lt this]
theorem decN1(n N b1 b2 b3:Nat)(h:n<128):decodeN N n b1 b2 b3=(n,1):=if_pos h
theorem decN2(n N b2 b3:Nat)(h:128≤n)(h2:n<2048)(hN:1<N):decodeN N (192+n / 64) (128+n % 64) b2 b3=(n,2):=by
 unfold decodeN;rw [if_neg (by omega),if_pos (by omega),if_pos (by omega)];exact congrArg (fun x=>(x,2)) (by omega)
theorem decN3(n N b3:Nat)(h:2048≤n)(h2:n<65536)(hs:n<55296∨57344≤n)(hN:2<N):decodeN N (224+n / 4096) (128+n / 64 % 64) (128+n % 64) b3=(n,3):=by
 unfold decodeN;rw [if_neg (by omega),if_neg (by omega),if_pos (by omega),if_pos (by omega)];exact congrArg (fun x=>(x,3)) (by omega)
theorem decN4(n N:Nat)(h:65536≤n)(h2:n≤1114111)(hN:3<N):decodeN N (240+n / 262144) (128+n / 4096 % 64) (128+n / 64 % 64) (128+n % 64)=(n,4):=by
 unfold decodeN;rw [if_neg (by omega),if_neg (by omega),if_neg (by omega),if_pos (by omega),if_pos (by omega)];exact congrArg (fun x=>(x,4)) (by omega)
theorem tc_(n:Nat)(h:n<55296∨(57344≤n∧n≤1114111))(l:List UInt8):decodeL (encodeRune n++l)=(n,(encodeRune n).length):=by
 rw [decodeL_N];unfold encodeRune;by_cases c1:n<128
 ·rw [encodeRuneZ_one (by omega) (by omega)];simp only [List.map_cons,List.map_nil,List.cons_append,List.nil_append,List.getD_cons_zero,List.length_cons,List.length_nil];rw [toU8 _ (by omega),Int.toNat_natCast];exact decN1 _ _ _ _ _ c1
 by_cases c2:n<2048
 ·rw [encodeRuneZ_two (by omega) (by omega)];simp only [List.map_cons,List.map_nil,List.cons_append,List.nil_append,List.getD_cons_zero,List.getD_cons_succ,List.length_cons,List.length_nil];rw [toU8 _ (by omega),toU8 _ (by omega),show(192+(n:Int) / 64).toNat=192+n / 64 by omega,show(128+(n:Int) % 64).toNat=128+n % 64 by omega];exact decN2 _ _ _ _ (by omega) (by omega) (by omega)
 by_cases c3:n<65536
 ·rw [encodeRuneZ_three (by omega)];simp only [List.map_cons,List.map_nil,List.cons_append,List.nil_append,List.getD_cons_zero,List.getD_cons_succ,List.length_cons,List.length_nil];rw [toU8 _ (by omega),toU8 _ (by omega),toU8 _ (by omega),show(224+(n:Int) / 4096).toNat=224+n / 4096 by omega,show(128+(n:Int) / 64 % 64).toNat=128+n / 64 % 64 by omega,show(128+(n:Int) % 64).toNat=128+n % 64 by omega];exact decN3 _ _ _ (by omega) (by omega) (by omega) (by omega)
 ·rw [encodeRuneZ_four (by omega) (by omega)];simp only [List.map_cons,List.map_nil,List.cons_append,List.nil_append,List.getD_cons_zero,List.getD_cons_succ,List.length_cons,List.length_nil];rw [toU8 _ (by omega),toU8 _ (by omega),toU8 _ (by omega),toU8 _ (by omega),show(240+(n:Int) / 262144).toNat=240+n / 262144 by omega,show(128+(n:Int) / 4096 % 64).toNat=128+n / 4096 % 64 by omega,show(128+(n:Int) / 64 % 64).toNat=128+n / 64 % 64 by omega,show(128+(n:Int) % 64).toNat=128+n % 64 by omega];exact decN4 _ _ (by omega) (by omega) (by omega)
theorem va_(l:List UInt8):Scal ((decodeL l).1:Int):=by
 rw [decodeL_N];have k0:=(l.getD 0 0).toNat_lt;have k1:=(l.getD 1 0).toNat_lt;have k2:=(l.getD 2 0).toNat_lt;have k3:=(l.getD 3 0).toNat_lt;unfold Scal;rcases decodeN_shape l.length (l.getD 0 0).toNat (l.getD 1 0).toNat (l.getD 2 0).toNat (l.getD 3 0).toNat with⟨c,e⟩ | ⟨c1,c2,c3,cv,e⟩ | ⟨c1,c2,c3,c4,cv,cs,e⟩ | ⟨c1,c2,c3,c4,c5,cv,cw,e⟩ | e
 all_goals(rw [e];dsimp only;omega)
theorem kp_(s:ByteArray): ∀(f i:Nat),∀r∈runesAt s f i,Scal r
 | 0,_=>by simp [runesAt]
 | f+1,i=>by
  unfold runesAt;intro r hr;by_cases hi:i<s.size
  · rw [if_pos hi]at hr
    rcases List.mem_cons.1 hr with rfl | h
    · have:=va_ (s.data.toList.drop i)
      rwa [decodeL_drop]at this
    · exact kp_ s f _ r h
  · rw [if_neg hi]at hr
    cases hr
theorem wf_(s:ByteArray): ∀r∈runesOf s,Scal r:=kp_ s _ _
theorem pi_(X:List Int):(runesBytes X).size=(X.flatMap encodeRune).length:=by rw [size_eq,de_]
theorem bar_(X:List Int):X.length≤(X.flatMap encodeRune).length∧(X.flatMap encodeRune).length≤4*X.length:=by
 induction X with
 | nil=>simp
 | cons r X ih=>
  have:=hc_ r;rw [List.flatMap_cons,List.length_append,List.length_cons];omega
theorem cz_(X:List Int):X.length≤(runesBytes X).size∧(runesBytes X).size≤4*X.length:=by
 rw [pi_];exact bar_ X
theorem ju_(s:ByteArray): ∀(X:List Int) (f i:Nat),(∀r∈X,Scal r)→s.data.toList.drop i=X.flatMap encodeRune→X.length≤f→runesAt s f i=X
 | [],f,i,_,he,_=>by
  have hi:s.size≤i:=by
   have:=congrArg List.length he;rw [List.length_drop,←size_eq]at this;simp at this;omega
  cases f with
  | zero=>rfl
  | succ f=>exact if_neg (by omega)
 | r :: X,0,i,_,_,hf=>by simp at hf
 | r :: X,f+1,i,hr,he,hf=>by
  have hr0:=hr r (List.mem_cons.2 (.inl rfl));obtain⟨n,rfl⟩: ∃n:Nat,r=n:=⟨r.toNat,by unfold Scal at hr0;omega⟩
  have hl:=hc_ (n:Int);rw [List.flatMap_cons]at he;have hi:i<s.size:=by
   have:=congrArg List.length he;rw [List.length_drop,←size_eq,List.length_append]at this;omega
  have hd:=tc_ n (by unfold Scal at hr0;omega) (X.flatMap encodeRune);rw [←he,decodeL_drop]at hd;unfold runesAt;rw [if_pos hi,hd];dsimp only;rw [ju_ s X f _ (fun x hx=>hr x (List.mem_cons.2 (.inr hx))) ?_ (by simpa using hf)];rw [←List.drop_drop,he,List.drop_left]
theorem gp_(X:List Int)(h: ∀r∈X,Scal r):runesOf (runesBytes X)=X:=by
 refine ju_ _ X _ 0 h ?_ (cz_ X).1;rw [List.drop_zero,de_]
theorem rh_(s:ByteArray): ∀(n i:Nat) (r:List UInt8),s.size - i=n→(ByteArray.toList.loop s i r).length=r.length+n
 | 0,i,r,h=>by
  unfold ByteArray.toList.loop;rw [if_neg (by omega)];simp
 | n+1,i,r,h=>by
  unfold ByteArray.toList.loop;rw [if_pos (by omega),rh_ s n (i+1) _ (by omega)];simp only [List.length_cons];omega
theorem blen(s:ByteArray):s.toList.length=s.size:=by
 unfold ByteArray.toList;rw [rh_ s s.size 0 [] (by omega)];simp
theorem rb_(s:ByteArray):s.toList.isEmpty=decide (s.size=0):=by
 by_cases h:s.size=0
 ·rw [decide_eq_true h];have:s.toList.length=0:=by rw [blen];exact h
  cases hh:s.toList with
  | nil=>rfl
  | cons a b=>rw [hh]at this;simp at this
 ·rw [decide_eq_false h];have:s.toList.length≠0:=by rw [blen];exact h
  cases hh:s.toList with
  | nil=>rw [hh]at this;simp at this
  | cons a b=>rfl
theorem pj_{X:List Int}(h:X≠ []):(runesBytes X).toList.isEmpty=false:=by
 rw [rb_];have h1:=(cz_ X).1;have h2:0<X.length:=List.length_pos_iff.2 h;exact decide_eq_false (by omega)
structure Gr where
 o:List PartD
 text:List Int
 gone:Nat
 kept:Nat
def pK (n:Nat) (l:LP_):List PartD:=if 0<n then⟨1,n,⟨#[]⟩⟩ :: l else l
def pD (n:Nat) (l:LP_):List PartD:=if 0<n then⟨3,n,⟨#[]⟩⟩ :: l else l
def pI (t:List Int) (l:LP_):List PartD:=if 0<t.length then⟨2,0,runesBytes t⟩ :: l else l
theorem dn_(l:LP_):pK 0 l=l:=rfl
theorem dm_(l:LP_):pD 0 l=l:=rfl
theorem fd_(l:LP_):pI [] l=l:=rfl
theorem fw_{n:Nat}(h:0<n)(l:LP_):pK n l=⟨1,n,⟨#[]⟩⟩ :: l:=if_pos h
theorem fc_{n:Nat}(h:0<n)(l:LP_):pD n l=⟨3,n,⟨#[]⟩⟩ :: l:=if_pos h
theorem hu_{t:List Int}(h:0<t.length)(l:LP_):pI t l=⟨2,0,runesBytes t⟩ :: l:=if_pos h
def Gr.step (g:Gr) (x:Int × Int):Gr:=
 if x.1=2 then⟨pK g.kept g.o,g.text++ [x.2],g.gone,0⟩else if x.1=3 then⟨pK g.kept g.o,g.text,g.gone+1,0⟩else⟨pD g.gone (pI g.text g.o),[],0,g.kept+1⟩
def Gr.run (l:List (Int × Int)):Gr:=l.foldl Gr.step ⟨[],[],0,0⟩
def Gr.fin (g:Gr):List PartD:=pK g.kept (pD g.gone (pI g.text g.o))
def grouped (l:List (Int × Int)):List PartD:=(Gr.run l).fin.reverse
theorem hi_(a b:List (Int × Int)):Gr.run (a++b)=b.foldl Gr.step (Gr.run a):=List.foldl_append
theorem bfq_(a:List (Int × Int))(x:Int × Int):Gr.run (a++ [x])=(Gr.run a).step x:=by rw [hi_];rfl
structure Gr.Ok (g:Gr):Prop where
 k1:0<g.kept→g.text= []∧g.gone=0
 k2:0<g.kept→ ∀p r,g.o=p :: r→p.kind≠1
 k3:g.kept=0→ ∀p r,g.o=p :: r→p.kind=1
 k4:g.kept=0→g.text= []→g.gone=0→g.o= []
section
variable {g:Gr}(h:g.Ok)
include g h
theorem Gr.Ok.ins(r:Int):(g.step (2,r)).Ok:=by
 obtain⟨k1,k2,k3,k4⟩:=h;unfold Gr.step;rw [if_pos rfl];refine⟨fun h=>absurd h (by simp),fun h=>absurd h (by simp),fun _ p q hp=>?_,fun _ h=>absurd h (by simp)⟩;dsimp only at hp;by_cases hk:0<g.kept
 ·rw [fw_ hk]at hp;injection hp with a b
  rw [←a]
 ·rw [show g.kept=0 by omega,dn_]at hp;exact k3 (by omega) p q hp
theorem Gr.Ok.del(r:Int):(g.step (3,r)).Ok:=by
 obtain⟨k1,k2,k3,k4⟩:=h;unfold Gr.step;rw [if_neg (by simp),if_pos rfl];refine⟨fun h=>absurd h (by simp),fun h=>absurd h (by simp),fun _ p q hp=>?_,fun _ _ h=>absurd h (by simp)⟩;dsimp only at hp;by_cases hk:0<g.kept
 ·rw [fw_ hk]at hp;injection hp with a b
  rw [←a]
 ·rw [show g.kept=0 by omega,dn_]at hp;exact k3 (by omega) p q hp
theorem Gr.Ok.keep{k:Int}(h2:k≠2)(h3:k≠3)(r:Int):(g.step (k,r)).Ok:=by
 obtain⟨k1,k2,k3,k4⟩:=h;unfold Gr.step;rw [if_neg h2,if_neg h3];refine⟨fun _=>⟨rfl,rfl⟩,fun _ p q hp=>?_,fun h=>absurd h (by simp),fun h=>absurd h (by simp)⟩;dsimp only at hp;by_cases hg:0<g.gone
 ·rw [fc_ hg]at hp;injection hp with a b
  rw [←a];simp
 ·rw [show g.gone=0 by omega,dm_]at hp;by_cases ht:0<g.text.length
  ·rw [hu_ ht]at hp;injection hp with a b
   rw [←a];simp
  ·have ht0:g.text= []:=List.eq_nil_of_length_eq_zero (by omega);rw [ht0,fd_]at hp;by_cases hk:0<g.kept
   ·exact k2 hk p q hp
   ·rw [k4 (by omega) ht0 (by omega)]at hp;cases hp
theorem Gr.Ok.step(x:Int × Int):(g.step x).Ok:=by
 obtain⟨k,r⟩:=x;by_cases h2:k=2
 ·subst h2;exact h.ins r
 by_cases h3:k=3
 ·subst h3;exact h.del r
 exact h.keep h2 h3 r
end
theorem ve_: ∀(l:List (Int × Int)) (g:Gr),g.Ok→(l.foldl Gr.step g).Ok
 | [],_,h=>h
 | x :: l,_,h=>ve_ l _ (h.step x)
theorem wd_(l:List (Int × Int)):(Gr.run l).Ok:=ve_ l _ ⟨fun h=>absurd h (by simp),fun h=>absurd h (by simp),fun _ _ _ h=>(nomatch h),fun _ _ _=>rfl⟩
def Gr.most (g:Gr):Nat:=g.o.length+g.text.length+g.gone+g.kept
theorem sj_(n:Nat)(l:LP_):(pK n l).length≤l.length+n:=by unfold pK;split <;> simp;omega
theorem sh_(n:Nat)(l:LP_):(pD n l).length≤l.length+n:=by unfold pD;split <;> simp;omega
theorem si_(t:List Int)(l:LP_):(pI t l).length≤l.length+t.length:=by unfold pI;split <;> simp;omega
theorem sp_(g:Gr)(x:Int × Int):(g.step x).most≤g.most+1:=by
 unfold Gr.step Gr.most;have h1:=sj_ g.kept g.o;have h2:=sh_ g.gone (pI g.text g.o);have h3:=si_ g.text g.o;split
 ·simp only [List.length_append,List.length_cons,List.length_nil];omega
 ·split
  ·dsimp only;omega
  ·simp only [List.length_nil];omega
theorem gg_(l:List (Int × Int)):(Gr.run l).most≤l.length:=by
 have key: ∀(l:List (Int × Int)) (g:Gr),(l.foldl Gr.step g).most≤g.most+l.length:=by
  intro l;induction l with
  | nil=>intro g;simp
  | cons x l ih=>
   intro g;have h1:=ih (g.step x);have h2:=sp_ g x;rw [List.foldl_cons,List.length_cons];omega
 have:=key l ⟨[],[],0,0⟩;simpa [Gr.run,Gr.most]using this
def Gr.Thin (m:Nat) (g:Gr):Prop:=g.text.length≤m∧ ∀p∈g.o,p.text.size≤4*m
section
variable {m n:Nat}{l:List PartD}(h: ∀p∈l,p.text.size≤m)
include m n l h
theorem qx_: ∀p∈pK n l,p.text.size≤m:=by
 unfold pK;split
 ·intro p hp;rcases List.mem_cons.1 hp with rfl | hp
  ·exact Nat.zero_le _
  ·exact h p hp
 ·exact h
theorem yp_: ∀p∈pD n l,p.text.size≤m:=by
 unfold pD;split
 ·intro p hp;rcases List.mem_cons.1 hp with rfl | hp
  ·exact Nat.zero_le _
  ·exact h p hp
 ·exact h
end
theorem yq_{m:Nat}{t:List Int}{l:List PartD}(h: ∀p∈l,p.text.size≤4*m)(ht:t.length≤m): ∀p∈pI t l,p.text.size≤4*m:=by
 unfold pI;split
 ·intro p hp;rcases List.mem_cons.1 hp with rfl | hp
  ·have:=(cz_ t).2;dsimp only;omega
  ·exact h p hp
 ·exact h
theorem Gr.Thin.fin{m:Nat}{g:Gr}(h:g.Thin m): ∀p∈g.fin,p.text.size≤4*m:=qx_ (yp_ (yq_ h.2 h.1))
theorem Gr.Thin.step{m:Nat}{g:Gr}(h:g.Thin m)(x:Int × Int)(hm:g.text.length+1≤m):(g.step x).Thin m:=by
 unfold Gr.step;split
 ·exact⟨by simpa using hm,qx_ h.2⟩
 ·split
  ·exact⟨h.1,qx_ h.2⟩
  ·exact⟨Nat.zero_le _,yp_ (yq_ h.2 h.1)⟩
theorem we_(l:List (Int × Int))(m:Nat)(hm:l.length≤m):(Gr.run l).Thin m:=by
 have key: ∀(l:List (Int × Int)) (g:Gr),g.Thin m→g.most+l.length≤m→(l.foldl Gr.step g).Thin m:=by
  intro l;induction l with
  | nil=>intro g h _;exact h
  | cons x l ih=>
   intro g h hg;rw [List.length_cons]at hg;have h2:=sp_ g x;refine ih (g.step x) (h.step x ?_) (by omega);unfold Gr.most at hg;omega
 refine key l _ ⟨Nat.zero_le _,by simp⟩ ?_;simpa [Gr.most]using hm
theorem je_(g:Gr):g.fin.length≤g.most:=by
 unfold Gr.fin Gr.most;have h1:=sj_ g.kept (pD g.gone (pI g.text g.o));have h2:=sh_ g.gone (pI g.text g.o);have h3:=si_ g.text g.o;omega
theorem is_(l:List (Int × Int)):(grouped l).length≤l.length:=by
 unfold grouped;rw [List.length_reverse];exact Nat.le_trans (je_ _) (gg_ l)
theorem fr_(l:List (Int × Int)): ∀p∈grouped l,p.text.size≤4*l.length:=fun p hp=>(we_ l l.length (Nat.le_refl _)).fin p (by simpa [grouped]using hp)
theorem Gr.keeps(g:Gr): ∀n:Nat,0<n→(List.replicate n ((1:Int),(0:Int))).foldl Gr.step g=⟨pD g.gone (pI g.text g.o),[],0,g.kept+n⟩
 | 1,_=>rfl
 | n+2,_=>by
  rw [List.replicate_succ',List.foldl_append,Gr.keeps g (n+1) (by omega)];rfl
theorem Gr.dels(g:Gr)(n:Nat)(hn:0<n):(List.replicate n ((3:Int),(0:Int))).foldl Gr.step g=⟨pK g.kept g.o,g.text,g.gone+n,0⟩:=by
 induction n with
 | zero=>omega
 | succ n ih=>
  rcases Nat.eq_zero_or_pos n with rfl | h
  · rfl
  · rw [List.replicate_succ',List.foldl_append,ih h]
    rfl
theorem Gr.inss(r:Int)(rs:List Int): ∀g:Gr,((r :: rs).map (fun x=>((2:Int),x))).foldl Gr.step g=⟨pK g.kept g.o,g.text++r :: rs,g.gone,0⟩:=by
 induction rs generalizing r with
 | nil=>intro g;rfl
 | cons q rs ih=>
  intro g;rw [List.map_cons,List.foldl_cons,ih q];show(⟨pK 0 (pK g.kept g.o),(g.text++ [r])++q :: rs,g.gone,0⟩:Gr)=_;rw [dn_];simp
def keepR (rs:LP_) (n:Int):List PartD:=
 match rs with
 | []=>if 0<n then [⟨1,n,⟨#[]⟩⟩]else []
 | p :: r=>if p.kind=1 then⟨p.kind,wrap64 (p.n+n),p.text⟩ :: r else if 0<n then⟨1,n,⟨#[]⟩⟩ :: p :: r else p :: r
theorem jg_(p:PartD)(r:LP_)(n:Int):keepR (p :: r) n=if p.kind=1 then⟨p.kind,wrap64 (p.n+n),p.text⟩ :: r else if 0<n then⟨1,n,⟨#[]⟩⟩ :: p :: r else p :: r:=rfl
theorem ru_(n:Int):keepR [] n=if 0<n then [⟨1,n,⟨#[]⟩⟩]else []:=rfl
theorem bci_{l:List PartD}{n:Int}(h: ∀p r,l=p :: r→p.kind≠1)(hn:0<n):keepR l n=⟨1,n,⟨#[]⟩⟩ :: l:=by
 cases l with
 | nil=>rw [ru_,if_pos hn]
 | cons p r=>rw [jg_,if_neg (h p r rfl),if_pos hn]
theorem ni_{l:List PartD}{n:Int}(h: ∀p r,l=p :: r→p.kind≠3)(hn:0<n):remR l n=⟨3,n,⟨#[]⟩⟩ :: l:=by
 cases l with
 | nil=>rw [nj_,if_pos hn]
 | cons p r=>rw [ie_,if_neg (h p r rfl),if_pos hn]
theorem vg_{l:List PartD}{s:ByteArray}(h: ∀p r,l=p :: r→p.kind≠2∧p.kind≠3):insR l s=⟨2,0,s⟩ :: l:=by
 cases l with
 | nil=>exact nf_ s
 | cons p r=>rw [gs_,if_neg (h p r rfl).1,if_neg (h p r rfl).2]
section
variable {g:Gr}(h:g.Ok)
include g h
theorem bex_(n:Nat)(hn:0<n)(hb:g.kept+n<4611686018427387904):keepR g.fin n=((List.replicate n ((1:Int),(0:Int))).foldl Gr.step g).fin:=by
 rw [Gr.keeps g n hn];unfold Gr.fin
 dsimp only;rw [dm_,fd_,fw_ (show 0<g.kept+n by omega)];by_cases hk:0<g.kept
 ·rw [fw_ hk,jg_,if_pos rfl];dsimp only;rw [du_ (by omega) (by omega),show(g.kept:Int)+n=((g.kept+n:Nat):Int) by omega]
 ·have hk0:g.kept=0:=by omega
  rw [hk0,dn_,Nat.zero_add,bci_ ?_ (by omega)];intro p r hp;by_cases hg:0<g.gone
  ·rw [fc_ hg]at hp;injection hp with a b
   rw [←a];simp
  ·rw [show g.gone=0 by omega,dm_]at hp;by_cases ht:0<g.text.length
   ·rw [hu_ ht]at hp;injection hp with a b
    rw [←a];simp
   ·have ht0:g.text= []:=List.eq_nil_of_length_eq_zero (by omega);rw [ht0,fd_,h.k4 hk0 ht0 (by omega)]at hp;cases hp
theorem bdv_(hk0:g.kept=0): ∀p r,pI g.text g.o=p :: r→p.kind≠3:=by
 intro p r hp;by_cases ht:0<g.text.length
 ·rw [hu_ ht]at hp;injection hp with a b
  rw [←a];simp
 ·have ht0:g.text= []:=List.eq_nil_of_length_eq_zero (by omega);rw [ht0,fd_]at hp;rw [h.k3 hk0 p r hp];simp
theorem bgu_(n:Nat)(hn:0<n)(hb:g.gone+n<4611686018427387904):remR g.fin n=((List.replicate n ((3:Int),(0:Int))).foldl Gr.step g).fin:=by
 rw [Gr.dels g n hn];unfold Gr.fin
 dsimp only;rw [dn_,fc_ (show 0<g.gone+n by omega)];by_cases hk:0<g.kept
 ·obtain⟨k1,k2⟩:=h.k1 hk;rw [k1,k2,fd_,fd_,dm_,fw_ hk,Nat.zero_add,ni_ (fun p r hp=>by injection hp with a b;rw [←a];simp) (by omega)]
 ·have hk0:g.kept=0:=by omega
  rw [hk0,dn_,dn_];by_cases hg:0<g.gone
  ·rw [fc_ hg,ie_,if_pos rfl];dsimp only;rw [du_ (by omega) (by omega),show(g.gone:Int)+n=((g.gone+n:Nat):Int) by omega]
  ·have hg0:g.gone=0:=(by omega);rw [hg0,dm_,Nat.zero_add,ni_ (bdv_ h hk0) (by omega)]
theorem bgv_(r:Int)(rs:List Int):insB g.fin (runesBytes (r :: rs))=(((r :: rs).map (fun x=>((2:Int),x))).foldl Gr.step g).fin:=by
 rw [Gr.inss r rs g];have hne: ¬(runesBytes (r :: rs)).toList.isEmpty=true:=by rw [pj_ (by simp)];simp
 unfold insB;rw [if_neg hne];unfold Gr.fin
 dsimp only;rw [dn_,hu_ (show 0<(g.text++r :: rs).length by rw [List.length_append,List.length_cons];omega)];by_cases hk:0<g.kept
 ·obtain⟨k1,k2⟩:=h.k1 hk;rw [k1,k2,fd_,dm_,dm_,fw_ hk,vg_ (fun p q hp=>by injection hp with a b;rw [←a];simp),List.nil_append]
 ·have hk0:g.kept=0:=by omega
  rw [hk0,dn_,dn_];have key:insR (pI g.text g.o) (runesBytes (r :: rs))=⟨2,0,runesBytes (g.text++r :: rs)⟩ :: g.o:=by
   by_cases ht:0<g.text.length
   ·rw [hu_ ht,gs_,if_pos rfl,ev_]
   ·have ht0:g.text= []:=List.eq_nil_of_length_eq_zero (by omega);rw [ht0,fd_,List.nil_append,vg_];intro p q hp;rw [h.k3 hk0 p q hp];simp
  by_cases hg:0<g.gone
  ·rw [fc_ hg,fc_ hg,gs_,if_neg (by simp),if_pos rfl,key];dsimp only;rw [ni_ (fun p q hp=>by injection hp with a b;rw [←a];simp) (by omega)]
  ·rw [show g.gone=0 by omega,dm_,dm_,key]
end
def Holds (rs:LP_) (l:List (Int × Int)):Prop:=rs=(Gr.run l).fin
theorem rr_:Holds [] []:=rfl
section
variable {rs:List PartD}{l:List (Int × Int)}(h:Holds rs l)
include rs l h
section
variable(n:Nat) (hn:0<n) (hb:l.length+n<4611686018427387904)
include n hn hb
theorem Holds.keep:Holds (keepR rs n) (l++List.replicate n (1,0)):=by
 have hm:=gg_ l;unfold Gr.most at hm;unfold Holds at*;rw [h,hi_,bex_ (wd_ l) n hn (by omega)]
theorem Holds.del:Holds (remR rs n) (l++List.replicate n (3,0)):=by
 have hm:=gg_ l;unfold Gr.most at hm;unfold Holds at*;rw [h,hi_,bgu_ (wd_ l) n hn (by omega)]
end
theorem Holds.ins(X:List Int)(hX:X≠ []):Holds (insB rs (runesBytes X)) (l++X.map (fun x=>(2,x))):=by
 unfold Holds at*;cases X with
 | nil=>exact absurd rfl hX
 | cons r rs'=>rw [h,hi_,bgv_ (wd_ l)]
theorem Holds.len:rs.length≤l.length:=by
 rw [h];exact Nat.le_trans (je_ _) (gg_ l)
theorem Holds.text: ∀p∈rs,p.text.size≤4*l.length:=by
 rw [h];exact(we_ l l.length (Nat.le_refl _)).fin
theorem Holds.rev:rs.reverse=grouped l:=by rw [h];rfl
end
end Go.Proofs.YtacacoklddogmaaGreatDoor
namespace Go.Proofs.YtacacoklddogmaaGreatDoor
set_option maxHeartbeats 4000000
open Go.ChangeShapes Go.WideShapes Go.ChangeAt Go.RowKit
set_option maxRecDepth 100000
section
variable(w:World) (base B:Nat) (A:OA_) (c:Nat)
theorem bcj_(n:Int)(p:PartD)(rs:LP_)(hb:Bld w base B A c (p :: rs))(hk:p.kind=1):
 Calls Tryz.prog 92 #[.pointer (some ⟨B,0,none⟩),.int .i64 n] w fun e w'=>e= .returned (.tuple #[])∧BldTo w base B A (rs.length+1) c (⟨p.kind,wrap64 (p.n+n),p.text⟩ :: rs) w':=by
 have k233_:K_ (∀(P:Prop) (h:P:=by
 have hz:=hfz (rs.length*3+1);clear hb hfz;go_enter Tryz.func92,Tryz.ntmps92
 go_wp2_with fail
 refine HL.o.mono ?_;rintro e w1 ⟨rfl,hb1⟩;obtain⟨⟨d1,os1⟩,rfl⟩:=e_ hb1;dsimp only [Option.map];go_wp2_with fail
 obtain⟨hA,hB⟩:=HB.o.stored 1 (.int .i64 (wrap64 (pn+n))) (q:=⟨1,wrap64 (pn+n),tx⟩) rfl;exact m278_
 ),P):=⟨@q6_⟩
 exact m233_
section
variable(n:Int) (rs:LP_) (hb:Bld w base B A c rs)
include n rs hb
theorem rv_(hn:decide (0<n)=false)(HL:Hid (Calls Tryz.prog 123 #[.pointer (some ⟨B,0,none⟩),.int .i64 1] w (R_ w (.pointer none)))):
 Calls Tryz.prog 92 #[.pointer (some ⟨B,0,none⟩),.int .i64 n] w fun e w'=>e= .returned (.tuple #[])∧BldTo w base B A rs.length c rs w':=by
 go_enter Tryz.func92,Tryz.ntmps92
 go_wp2_with fail
 refine HL.o.mono ?_;rintro e w1 ⟨rfl,hb1⟩;go_wp2_with fail
 exact bodyPost_end (results_none rfl _ _ _) rfl ⟨rfl,BldTo.self hb hb1⟩
theorem vi_(hn:decide (0<n)=true)(hlen:rs.length≤1000000)(HL:Hid (Calls Tryz.prog 123 #[.pointer (some ⟨B,0,none⟩),.int .i64 1] w (R_ w (.pointer none)))):
 Calls Tryz.prog 92 #[.pointer (some ⟨B,0,none⟩),.int .i64 n] w fun e w'=>e= .returned (.tuple #[])∧BldTo w base B A rs.length c (⟨1,n,⟨#[]⟩⟩ :: rs) w':=by
 have hl:=hb.lt;have hc:=hb.cell;obtain⟨i0,hi,hz0,hz1,hz2⟩:=info_parts infoPart;go_enter Tryz.func92,Tryz.ntmps92
 go_wp2_with fail
 refine HL.o.mono ?_;rintro e w1 ⟨rfl,hb1⟩;obtain⟨⟨d1,os1⟩,rfl⟩:=e_ hb1;have HB2:=h_ (hb.la (bAlloc (bGrow (Below.refl _ _) d1 os1) (.cells #[.int .i64 1,.int .i64 n,.string ⟨#[]⟩] 73)));have hS:Sl (fun _=>True) ((Sort.grow (redrawn w d1) os1).alloc (.cells #[.int .i64 1,.int .i64 n,.string ⟨#[]⟩] 73)) 3 (some ⟨w.heap.size+os1.size,0,none⟩) 1 [.int .i64 1,.int .i64 n,.string ⟨#[]⟩]:=by
  have h:=Sl.new (S:=fun _=>True) (Sort.grow (redrawn w d1) os1) [.int .i64 1,.int .i64 n,.string ⟨#[]⟩] 73 3 1 rfl trivial;rw [ke_]at h;exact h
 have k117_:K_ (∀(P:Prop) (h:P:=by
 exact hm_ hb (bAlloc (bGrow (Below.refl _ _) d1 os1) _) (q:=⟨1,n,⟨#[]⟩⟩) (by simpa [PartD.cells]using hown) hgrow hat (by simp <;> omega)
 ),P):=⟨@q6_⟩
 exact m117_
theorem kf_(hlen:rs.length≤1000000):
 Calls Tryz.prog 92 #[.pointer (some ⟨B,0,none⟩),.int .i64 n] w fun e w'=>e= .returned (.tuple #[])∧BldTo w base B A rs.length c (keepR rs n) w':=by
 rcases rs with _ | ⟨p,r⟩
 ·rw [ru_];by_cases hn:0<n
  ·rw [if_pos hn];exact vi_ w base B A c n [] hb (by simpa using hn) hlen (h_ (hp_ w base B A c 1 hb))
  ·rw [if_neg hn];exact rv_ w base B A c n [] hb (by simpa using hn) (h_ (hp_ w base B A c 1 hb))
 ·rw [jg_];by_cases hk:p.kind=1
  ·rw [if_pos hk];exact bcj_ w base B A c n p r hb hk
  ·have HL:=h_ (kx_ w base B A c 1 p r hb (by simpa using hk));by_cases hn:0<n
   ·rw [if_neg hk,if_pos hn];exact vi_ w base B A c n (p :: r) hb (by simpa using hn) hlen HL
   ·rw [if_neg hk,if_neg hn];exact rv_ w base B A c n (p :: r) hb (by simpa using hn) HL
end
end
theorem bOver{base:Nat}{w w1 w2:World}(h:Below base w w1)(k:Below base w1 w2):Below base w w2:=
 ⟨k.os.trans h.os,k.tape.trans h.tape,k.output.trans h.output,Nat.le_trans h.size k.size,fun x hx=>(k.block x hx).trans (h.block x hx)⟩
theorem Bld.lay{w:World}{base B:Nat}{A:Option Addr}{c:Nat}{rs:List PartD}(h:Bld w base B A c rs): ∀x,(Value.slice A rs.length c).ownBlock=some x→base≤x∧x<w.heap.size:=fun x hx=>h.row.lt x hx
def RetOpO (w:World) (L:LP_) (e:Ending) (w':World):Prop:=
 ∃A c,e= .returned (.slice A L.length c)∧w'.ownsRow w.heap.size 73 3 (.slice A L.length c) L.length (opCells L)∧Below w.heap.size w w'
end Go.Proofs.YtacacoklddogmaaGreatDoor
namespace Go.Proofs.YtacacoklddogmaaGreatDoor
set_option maxHeartbeats 4000000
open Go.RowKit Go.Lib
abbrev insS (rs:List Int):List (Int × Int):=rs.map (fun x=>((2:Int),x))
abbrev othS (k:Int) (n:Nat):List (Int × Int):=List.replicate n (k,(0:Int))
def trGo (f:List (Int × Int)→List (Int × Int) × List (Int × Int)) (x:Int × Int):List (Int × Int)→List (Int × Int) × List (Int × Int)
 | []=>([],[])
 | y :: ys=>if y.1=2 then((1,0) :: (trGo f x ys).1,y :: (trGo f x ys).2)else((if y.1=1 then [x]else [])++(f ys).1,(if x.1=1 then [y]else [])++(f ys).2)
def trS:List (Int × Int)→List (Int × Int)→List (Int × Int) × List (Int × Int)
 | [],ys=>(ys.map (fun _=>((1:Int),(0:Int))),ys)
 | x :: xs,ys=>if x.1=2 then(x :: (trS xs ys).1,(1,0) :: (trS xs ys).2)else trGo (trS xs) x ys
def Not1 (k:Int) (xs:List (Int × Int)):Prop:= ∀x r,xs=x :: r→x.1≠k
theorem np_(x:Int)(xs ys:List (Int × Int)):trS ((2,x) :: xs) ys=((2,x) :: (trS xs ys).1,(1,0) :: (trS xs ys).2):=if_pos rfl
theorem hw_{xs:List (Int × Int)}(h:Not1 2 xs)(y:Int)(ys:List (Int × Int)):trS xs ((2,y) :: ys)=((1,0) :: (trS xs ys).1,(2,y) :: (trS xs ys).2):=by
 cases xs with
 | nil=>rfl
 | cons x xs=>
  have hx:=h x xs rfl;show(if x.1=2 then _ else trGo (trS xs) x ((2,y) :: ys))=_;rw [if_neg hx];have e:trS (x :: xs) ys=trGo (trS xs) x ys:=if_neg hx;rw [e];exact if_pos rfl
theorem wq_{x y:Int × Int}(hx:x.1≠2)(hy:y.1≠2)(xs ys:List (Int × Int)):trS (x :: xs) (y :: ys)=((if y.1=1 then [x]else [])++(trS xs ys).1,(if x.1=1 then [y]else [])++(trS xs ys).2):=by
 have e:trS (x :: xs) (y :: ys)=trGo (trS xs) x (y :: ys):=if_neg hx;rw [e];exact if_neg hy
theorem rc_(xs ys:List (Int × Int)): ∀rs:List Int,trS (insS rs++xs) ys=(insS rs++(trS xs ys).1,othS 1 rs.length++(trS xs ys).2)
 | []=>rfl
 | r :: rs=>by
  have ih:=rc_ xs ys rs;show trS ((2,r) :: (insS rs++xs)) ys=_;rw [np_,ih];rfl
theorem iy_{xs:List (Int × Int)}(h:Not1 2 xs)(ys:List (Int × Int)): ∀rs:List Int,trS xs (insS rs++ys)=(othS 1 rs.length++(trS xs ys).1,insS rs++(trS xs ys).2)
 | []=>rfl
 | r :: rs=>by
  have ih:=iy_ h ys rs;show trS xs ((2,r) :: (insS rs++ys))=_;rw [hw_ h,ih];rfl
theorem yz_{k q:Int}(hk:k≠2)(hq:q≠2)(xs ys:List (Int × Int)): ∀n:Nat,trS (othS k n++xs) (othS q n++ys)=((if q=1 then othS k n else [])++(trS xs ys).1,(if k=1 then othS q n else [])++(trS xs ys).2)
 | 0=>by simp [othS]
 | n+1=>by
  have ih:=yz_ hk hq xs ys n;rw [show othS k (n+1)=(k,0) :: othS k n from rfl,show othS q (n+1)=(q,0) :: othS q n from rfl,List.cons_append,List.cons_append,wq_ hk hq,ih];by_cases h1:q=1 <;> by_cases h2:k=1 <;> simp [h1,h2]
theorem me_(f:List (Int × Int)→List (Int × Int) × List (Int × Int))(x:Int × Int)(m:Nat)(hf: ∀ys,(f ys).1.length≤m+ys.length∧(f ys).2.length≤m+ys.length): ∀ys,(trGo f x ys).1.length≤m+1+ys.length∧(trGo f x ys).2.length≤m+1+ys.length
 | []=>by simp [trGo]
 | y :: ys=>by
  have ih:=me_ f x m hf ys;have h:=hf ys;unfold trGo;split
  · simp only [List.length_cons]
    omega
  · have h1 : ∀ (c : Prop) [Decidable c] (z : Int × Int), (if c then [z] else []).length ≤ 1 := by
     intro c _ z;split <;> simp
    have a:=h1 (y.1=1) x;have b:=h1 (x.1=1) y;simp only [List.length_append,List.length_cons];omega
theorem kt_: ∀xs ys,(trS xs ys).1.length≤xs.length+ys.length∧(trS xs ys).2.length≤xs.length+ys.length
 | [],ys=>by simp [trS]
 | x :: xs,ys=>by
  have ih:=kt_ xs;unfold trS;split
  · have:=ih ys
    simp only [List.length_cons];omega
  · have:=me_ (trS xs) x xs.length ih ys
    simp only [List.length_cons];omega
def remS (ps:LP_) (k m:Nat):List (Int × Int):=(stepsOf (ps.drop k)).drop m
structure WOk (ps:LP_) (k m:Nat):Prop where
 le:k≤ps.length
 lt: ∀h:k<ps.length,m<(partSteps ps[k]).length
 z:k=ps.length→m=0
def headV (p:PartD) (m:Nat):PartD:=if p.kind=2 then⟨p.kind,p.n,runesBytes ((runesOf p.text).drop m)⟩else⟨p.kind,p.n - m,p.text⟩
theorem rm_{p:PartD}(h:p.kind=2)(m:Nat):headV p m=⟨p.kind,p.n,runesBytes ((runesOf p.text).drop m)⟩:=if_pos h
theorem rn_{p:PartD}(h:p.kind≠2)(m:Nat):headV p m=⟨p.kind,p.n - m,p.text⟩:=if_neg h
theorem ek_: ∀ {ps:List PartD},okParts ps→ ∀p∈ps,partFault p=0
 | [],_,p,hp=>by cases hp
 | q :: ps,⟨h1,_,h2⟩,p,hp=>by
  rcases List.mem_cons.1 hp with rfl | h
  · exact h1
  · exact ek_ h2 p h
theorem baz_{s:ByteArray}(h:s.toList= []):s=⟨#[]⟩:=by
 have h1:=congrArg List.length h;rw [blen,size_eq]at h1;have h2:s.data.toList= []:=List.eq_nil_of_length_eq_zero (by simpa using h1);apply uw_;rw [h2]
theorem ee_{p:PartD}(h:p.kind=2):partSteps p=insS (runesOf p.text):=if_pos h
theorem hb_{p:PartD}(h:p.kind≠2):partSteps p=othS p.kind p.n.toNat:=if_neg h
theorem ea_{p:PartD}(h:partFault p=0):0<(partSteps p).length∧(partSteps p).length≤4000:=by
 by_cases h2:p.kind=2
 ·obtain⟨_,h4,h5⟩:=ga_ h h2;rw [ee_ h2];have h6:=(df_ h4).1;simp only [insS,List.length_map];rw [bo_];refine⟨?_,h6⟩;have h7:p.text.size≠0:=by
   intro e;apply h5;have:=blen p.text;rw [e]at this;exact List.eq_nil_of_length_eq_zero this
  unfold Lib.runeCount;obtain⟨n,hn⟩: ∃n,p.text.size=n+1:=⟨p.text.size - 1,by omega⟩
  rw [hn];unfold Lib.runeCountFrom;rw [if_pos (by omega)];omega
 ·obtain⟨_,h4,h5,_⟩:=di_ h h2;rw [hb_ h2];simp only [othS,List.length_replicate];omega
theorem WOk.start{ps:List PartD}(hok:okParts ps):WOk ps 0 0:=
 ⟨Nat.zero_le _,fun h=>(ea_ (ek_ hok _ (List.getElem_mem h))).1,fun _=>rfl⟩
theorem et_(ps:LP_):remS ps 0 0=stepsOf ps:=by simp [remS]
theorem bfo_(ps:LP_)(m:Nat):remS ps ps.length m= []:=by simp [remS,stepsOf]
theorem gv_{ps:List PartD}{k m:Nat}(hk:k<ps.length)(hm:m≤(partSteps ps[k]).length):remS ps k m=(partSteps ps[k]).drop m++stepsOf (ps.drop (k+1)):=by
 unfold remS;rw [List.drop_eq_getElem_cons hk,fx_,List.drop_append_of_le_length hm]
theorem WOk.cases{ps:List PartD}{k m:Nat}(hok:okParts ps)(h:WOk ps k m):
 (k=ps.length∧remS ps k m= [])∨
 (∃hk:k<ps.length,∃X,ps[k].kind=2∧X≠ []∧(∀r∈X,Scal r)∧X.length≤4000∧remS ps k m=insS X++stepsOf (ps.drop (k+1))∧headV ps[k] m=⟨2,0,runesBytes X⟩)∨
 (∃hk:k<ps.length,∃q:Int,∃n:Nat,ps[k].kind≠2∧(q=1∨q=3)∧0<n∧n≤4000∧remS ps k m=othS q n++stepsOf (ps.drop (k+1))∧headV ps[k] m=⟨q,(n:Int),⟨#[]⟩⟩):=by
 by_cases hk:k<ps.length
 ·refine .inr ?_;have hm:=h.lt hk;have hf:=ek_ hok _ (List.getElem_mem hk);have hr:=gv_ hk (Nat.le_of_lt hm);have hb:=(ea_ hf).2;by_cases h2:ps[k].kind=2
  ·refine .inl ⟨hk,(runesOf ps[k].text).drop m,h2,?_,fun r hr=>wf_ _ r (List.mem_of_mem_drop hr),?_,?_,?_⟩
   ·rw [ee_ h2]at hm;simp only [insS,List.length_map]at hm;intro e;have:=congrArg List.length e;rw [List.length_drop]at this;simp at this;omega
   ·rw [ee_ h2]at hb;simp only [insS,List.length_map]at hb;rw [List.length_drop];omega
   ·rw [hr,ee_ h2];simp only [insS,List.map_drop]
   ·rw [rm_ h2,h2,(ga_ hf h2).1]
  ·obtain⟨h4,h5,h6,h7⟩:=di_ hf h2;rw [hb_ h2]at hm;simp only [othS,List.length_replicate]at hm;refine .inr ⟨hk,ps[k].kind,ps[k].n.toNat - m,h2,h4,by omega,by omega,?_,?_⟩
   ·rw [hr,hb_ h2];simp only [othS,List.drop_replicate]
   ·rw [rn_ h2,baz_ h7,show ps[k].n - (m:Int)=((ps[k].n.toNat - m:Nat):Int) by omega]
 ·have:=h.le;obtain rfl:k=ps.length:=by omega
  exact .inl ⟨rfl,bfo_ ps m⟩
theorem WOk.next{ps:List PartD}{k m j:Nat}(hok:okParts ps)(h:WOk ps k m)(hk:k<ps.length)(hj:m+j≤(partSteps ps[k]).length){k' m':Nat}
 (hn:(m+j=(partSteps ps[k]).length∧k'=k+1∧m'=0)∨(m+j<(partSteps ps[k]).length∧k'=k∧m'=m+j)):
 WOk ps k' m'∧remS ps k' m'=(remS ps k m).drop j:=by
 have hm:=h.lt hk;rw [gv_ hk (Nat.le_of_lt hm),List.drop_append_of_le_length (by rw [List.length_drop];omega),List.drop_drop];rcases hn with⟨he,rfl,rfl⟩ | ⟨hl,rfl,rfl⟩
 ·refine⟨⟨by omega,fun h2=>(ea_ (ek_ hok _ (List.getElem_mem h2))).1,fun _=>rfl⟩,?_⟩;rw [he,List.drop_length,List.nil_append];simp [remS]
 ·exact⟨⟨h.le,fun _=>hl,fun e=>by omega⟩,gv_ hk (Nat.le_of_lt hl)⟩
end Go.Proofs.YtacacoklddogmaaGreatDoor
namespace Go.Proofs.YtacacoklddogmaaGreatDoor
set_option maxHeartbeats 4000000
open Go.ChangeShapes Go.WideShapes Go.ChangeAt Go.RowKit
set_option maxRecDepth 100000
theorem sizeBuilder:(Tryz.prog.info? 144).map (·.size)=some 2:=by kernel_rfl
theorem liesBuilder:liesAt Tryz.prog Tryz.prog.depth 144 (2 / Tryz.prog.cellsOf 144) 0 144 1=true:=by kernel_rfl
theorem qs_(w:World)(b:Nat)(h0:w.cell? ⟨b,0,none⟩=some (.pointer (some ⟨b,0,none⟩))):
 Calls Tryz.prog 125 #[.pointer (some ⟨b,0,none⟩)] w fun e w'=>e= .returned (.tuple #[])∧w=w':=by
 obtain⟨j,hj,_⟩:=Option.map_eq_some_iff.1 sizeBuilder;go_enter Tryz.func125,Tryz.ntmps125
 go_wp2_with fail
 rw [Lib.run_neq_ptr_same w _ Tryz.underlying141 hj];go_wp2_with fail
 exact bodyPost_end (results_none rfl _ _ _) rfl ⟨rfl,rfl⟩
theorem tb_(w:World)(b:Nat)(h0:w.cell? ⟨b,0,none⟩=some (.pointer none))(hsh:w.shape? b=some (144,2))(hfz:w.frozen? ⟨b,0,none⟩=false):
 Calls Tryz.prog 125 #[.pointer (some ⟨b,0,none⟩)] w fun e w'=>e= .returned (.tuple #[])∧w'=w.setCell ⟨b,0,none⟩ (.pointer (some ⟨b,0,none⟩)):=by
 obtain⟨j,hj,hjs⟩:=Option.map_eq_some_iff.1 sizeBuilder;go_enter Tryz.func125,Tryz.ntmps125
 go_wp2_with fail
 rw [Lib.run_to_unsafe w ⟨b,0,none⟩ Tryz.underlying141 Tryz.underlying193 hj (by rw [hjs];decide) hsh (Nat.zero_lt_succ 1)];simp only [Result.andThen];rw [Oper.upon_value];go_wp2_with fail
 rw [run_callFunc_extern Tryz.func136 (by kernel_rfl) (by kernel_rfl) (by kernel_rfl) (e:=Extern.AbiNoEscape.same) (by kernel_rfl)];rw [Lib.run_noEscape];simp only [Result.andThen];rw [Oper.upon_value];go_wp2_with fail
 rw [Lib.run_from_unsafe w ⟨b,0,none⟩ Tryz.underlying193 Tryz.underlying141 hj hsh liesBuilder];simp only [Result.andThen];rw [Oper.upon_value];go_wp2_with fail
 exact bodyPost_end (results_none rfl _ _ _) rfl ⟨rfl,rfl⟩
abbrev Sb (w:World) (base b:Nat) (bs:List UInt8):Prop:=Lib.IsBuilder 144 5 base b (bs.map byteV) w
section
variable {w:World}{base b:Nat}{bs:List UInt8}(h:Sb w base b bs)
include w base b bs h
theorem Sb.lt:base≤b∧b<w.heap.size:=by
 rcases h with h | h <;> exact⟨h.1,h.lt⟩
theorem Sb.row: ∀x,rowOf w b=some x→base≤x∧x<w.heap.size:=by
 have key: ∀ {p:Option Addr},Lib.BuilderAt 144 5 base b (.pointer p) (bs.map byteV) w→ ∀x,rowOf w b=some x→base≤x∧x<w.heap.size:=by
  rintro p ⟨_,v,hb,hown,_⟩ x hx;rw [fj_ hb]at hx;exact hown.lt x hx
 rcases h with h | h
 ·exact key h
 ·exact key h
end
theorem BuilderAt.kept{w w':World}{base b:Nat}{p:Value}{xs:List Value}(h:Lib.BuilderAt 144 5 base b p xs w)(hb:Below w.heap.size w w'):Lib.BuilderAt 144 5 base b p xs w':=by
 have hlt:=h.lt;obtain⟨h1,v,h2,h3,h4⟩:=h;exact⟨h1,v,(hb.block b hlt).trans h2,h3.kept (row:=none) ⟨hb.os,hb.tape,hb.output,hb.size,fun k hk _=>hb.block k hk⟩ (by cases v.ownBlock <;> simp),h4⟩
theorem Sb.la{w w':World}{base b:Nat}{bs:List UInt8}(h:Sb w base b bs)(hb:Below w.heap.size w w'):Sb w' base b bs:=by
 rcases h with h | h
 ·exact .inl (BuilderAt.kept h hb)
 ·exact .inr (BuilderAt.kept h hb)
theorem Sb.fresh(w:World)(base:Nat)(h:base≤w.heap.size):Sb (w.alloc (.cells #[.pointer none,.slice none 0 0] 144)) base w.heap.size []:=
 .inl ⟨h,.slice none 0 0,by show(w.heap.push _)[w.heap.size]?=_;simp,World.ownsRow_nil _ _ _ _,by simp [Value.ownBlock]⟩
theorem xg_(w:World)(base b:Nat)(bs:List UInt8)(h:Sb w base b bs):
 Calls Tryz.prog 125 #[.pointer (some ⟨b,0,none⟩)] w fun e w'=>e= .returned (.tuple #[])∧Lib.BuilderAt 144 5 base b (.pointer (some ⟨b,0,none⟩)) (bs.map byteV) w'∧Kept b w w':=by
 rcases h with h | h
 ·refine(tb_ w b h.cell0 h.shape h.frozen0).mono ?_;rintro e w' ⟨rfl,rfl⟩;obtain⟨_,v,hb,_⟩:=id h;exact⟨rfl,h.used _,bcl_ hb⟩
 ·refine(qs_ w b h.cell0).mono ?_;rintro e w' ⟨rfl,rfl⟩;exact⟨rfl,h,Kept.refl _ _⟩
theorem jr_(w:World)(base b:Nat)(bs:List UInt8)(s:ByteArray)(h:Sb w base b bs)(hl:bs.length+s.size≤140737488355328)(hbs:base≤w.heap.size):
 Calls Tryz.prog 97 #[.pointer (some ⟨b,0,none⟩),.string s] w fun e w'=>e= .returned (.tuple #[.int .i64 s.size,.nilIface])∧Sb w' base b (bs++s.data.toList)∧Kept b w w':=by
 obtain⟨i0,hi,hz0,hz1,hz2⟩:=info_parts infoByte;have HC:=h_ (xg_ w base b bs h);have HE:=h_ (show(bs++s.data.toList).map byteV=bs.map byteV++Lib.strCells s by simp [Lib.strCells]);clear h;go_enter Tryz.func97,Tryz.ntmps97
 go_wp2_with fail
 refine HC.o.mono ?_;rintro e w1 ⟨rfl,hB,hk1⟩;obtain⟨hlo,v,hobj,hown,hap⟩:=id hB;rw [List.length_map]at hown;obtain⟨A,c,rfl,_,_⟩:=gd_ w1 hown;have c1:w1.cell? ⟨b,1,none⟩=some (.slice A bs.length c):=by rw [Lib.cell_of_heap hobj];rfl
 have HO:=h_ hobj;have hz:=hk1.size;clear hobj;go_wp2_with(at_builtin;refine lh_ _ rfl _ _ 142 9 rfl base 5 i0 Tryz.underlying142 Tryz.underlying9 hi hz0 hz1 hz2 _ _ _ rfl hown s rfl ?c1 ?c2 ?c3 ?_)
 case c1=>unfold maxLen;omega
 case c2=>omega
 case c3=>omega
 intro A' c' w2 hown' hgrow hat;have HO2:=h_ ((hgrow.block b (Array.getElem?_eq_some_iff.1 HO.o).1 (fun e=>hap e.symm)).trans HO.o);have x1:w2.frozen? ⟨b,1,none⟩=false:=Lib.frozen_of_heap HO2.o 1;have x2:w2.cell? ⟨b,1,none⟩=some (.slice A bs.length c):=by rw [Lib.cell_of_heap HO2.o];rfl
 go_wp2_with fail
 go_ret2
 refine⟨rfl,.inr ?_,hk1.trans (bck_ HO.o (Below.refl _ _) hgrow hap hat (Nat.le_refl _))⟩;have hl2:(bs.map byteV++Lib.strCells s).length=bs.length+s.size:=by rw [List.length_append,List.length_map,Lib.strCells_length]
 have:=Lib.BuilderAt.put (bs':=bs.map byteV++Lib.strCells s) hlo HO2.o (by rw [hl2];exact hown') (by decide);rw [HE.o];exact this
theorem convPiece{W:World}{g:Nat}{rs:List Int}(h:RunesAt W g rs)(a n c:Nat)(hn:a+n≤rs.length):(convert 135 9 (.slice (some ⟨g,a,none⟩) n c)).run Tryz.prog W= .ok (.string (runesBytes ((rs.drop a).take n))) W:=by
 have hl:n=((rs.drop a).take n).length:=by simp;omega
 have key:=run_convert_runes (P:=Tryz.prog) W 135 9 21 ⟨g,a,none⟩ n c ((rs.drop a).take n) (Nat.le_of_eq hl) Tryz.underlying135 Tryz.underlying21 Tryz.underlying9 (fun j hj=>by
  have hj2:a+j<rs.length:=by rw [←hl]at hj;omega
  have hj3:j<n:=by rw [←hl]at hj;exact hj
  have:=h.cells (a+j) _ (hj_ rs (a+j) hj2);rw [Nat.zero_add]at this;rw [Go.WideShapes.add_plain,this];congr 2;rw [List.getD_eq_getElem?_getD,List.getD_eq_getElem?_getD,List.getElem?_take,if_pos hj3,List.getElem?_drop])
 rw [key,List.take_of_length_le (Nat.le_of_eq hl.symm)]
def appBytes (r:List Int) (ps:LP_) (a:Nat):List UInt8:=(runesBytes (appRunes r ps a)).data.toList
theorem sz_{r:List Int}{n:Nat}{s:ByteArray}{ps:List PartD}{a:Nat} :appBytes r (⟨1,(n:Int),s⟩ :: ps) a=(runesBytes ((r.drop a).take n)).data.toList++appBytes r ps (a+n):=by
 unfold appBytes;rw [show appRunes r (⟨1,(n:Int),s⟩ :: ps) a=(r.drop a).take n++appRunes r ps (a+n)from rfl,ev_,ByteArray.data_append,Array.toList_append]
theorem uu_{r:List Int}{n:Int}{s:ByteArray}{ps:List PartD}{a:Nat}(hv:Lib.validD s.data.toList=true):appBytes r (⟨2,n,s⟩ :: ps) a=s.data.toList++appBytes r ps a:=by
 unfold appBytes;rw [show appRunes r (⟨2,n,s⟩ :: ps) a=runesOf s++appRunes r ps a from rfl,ev_,ByteArray.data_append,Array.toList_append,sq_ s hv]
theorem el_(r:List Int): ∀(ps:LP_) (a:Nat),(appRunes r ps a).length≤toN ps
 | [],_=>by simp [appRunes]
 | p :: ps,a=>by
  unfold appRunes toN;by_cases h2:p.kind=2
  · rw [if_pos h2,if_pos h2,List.length_append,bo_]
    have:=el_ r ps a;omega
  · rw [if_neg h2,if_neg h2]
    by_cases h1:p.kind=1
    · rw [if_pos h1,if_pos h1,List.length_append,List.length_take]
      have:=el_ r ps (a+p.n.toNat);omega
    · rw [if_neg h1,if_neg h1]
      have:=el_ r ps (a+p.n.toNat);omega
theorem RunesAt.below{w w':World}{g B:Nat}{rs:List Int}(h:RunesAt w g rs)(hb:Below B w w')(hg:g<B):RunesAt w' g rs:=
 ⟨Nat.lt_of_lt_of_le h.lt hb.size,fun j u hu=>(hb.cell (p:=⟨g,0+j,none⟩) hg).trans (h.cells j u hu)⟩
theorem ri_{k n:Int}{s:ByteArray}{ps:List PartD}(h:k≠2):fromN (⟨k,n,s⟩ :: ps)=n.toNat+fromN ps:=by
 rw [show fromN (⟨k,n,s⟩ :: ps)=(if k=2 then 0 else n.toNat)+fromN ps from rfl,if_neg h]
theorem bdy_(w:World)(s:ByteArray)(A:OA_)(c:Nat)(ps:LP_)(hT:Tabs w)(hs:OpIn (· <w.heap.size) w A ps)(hm:ps.length≤1048576)(ht: ∀p∈ps,p.text.size≤1048576)(hst:s.size≤1048576)
 (ht0:textFault s=0) (hf0:opFault ps=0) (hln:(lens ps).1=(Lib.runeCount s:Int)):
 Calls Tryz.prog 51 #[.string s,.slice A ps.length c] w (R_ w (.tuple #[.string (runesBytes (appRunes (runesOf s) ps 0)),.int .i64 0])):=by
 obtain⟨h8,hok,_,_⟩:=cr_ hf0;obtain⟨e1,e2,n1,n2⟩:=gc_ hf0;have hrl:=bo_ s;have hfr:fromN ps=(runesOf s).length:=by omega
 have hC1:=br_ s;have hC2:=fun W hT hs=>bt_ W A c ps hT hs hm ht;have hC3:=fun W hs=>cs_ W A c ps hs hm ht;rw [ht0]at hC1;rw [hf0]at hC2;rw [e1,e2]at hC3;have HC1:=h_ hC1;have HC2:=h_ hC2;have HC3:=h_ hC3;have HOK:=h_ hok;have HTX:=h_ ht;have hcv:=fun wx=>convRunes (w:=wx) hst;have HRA:=h_ (fun(w:World) n=>RunesAt.new w s n 21);have HTOT:=h_ (show appBytes (runesOf s) (ps.drop 0) 0=(runesBytes (appRunes (runesOf s) ps 0)).data.toList by simp [appBytes]);have HF0:=h_ (show 0+fromN (ps.drop 0)=(runesOf s).length by simpa using hfr);have hT2:(runesBytes (appRunes (runesOf s) ps 0)).size≤16000:=by have a1:=runesBytes_size_le (appRunes (runesOf s) ps 0);have a2:=el_ (runesOf s) ps 0;omega
 generalize hTT:runesBytes (appRunes (runesOf s) ps 0)=T at*;generalize runesOf s=r at*;rw [←hrl]at hcv hln;have hdec:((fromN ps:Int) !=(r.length:Int))=false:=by simp;omega
 have hr4:r.length≤4000:=by omega
 clear ht0 hf0 hln hC1 hC2 hC3 hok ht e1 e2 hfr hTT hrl;go_enter Tryz.func51,Tryz.ntmps51
 have k133_:K_ (∀(P:Prop) (h:P:=by
 clear hb1 hb2 hT HT1 HS1;have hgc:=grownCap_ge w2 r.length 0 21;go_wp2_with fail
 have hgB:=HB2.o.size;have HRA2:=h_ ((HRA.o w2 (grownCap w2 r.length 0 21 - r.length)).drew);have HB2':=h_ (bThen HB2.o (bAlloc (Below.refl w2.heap.size w2) (.cells (Conv.runesFrom s s.size 0 #[]++Array.replicate (grownCap w2 r.length 0 21 - r.length) (.int .i32 0)) 21)).drew);have HS3:=h_ (Sl.la HS2.o ((bAlloc (Below.refl w2.heap.size w2) (.cells (Conv.runesFrom s s.size 0 #[]++Array.replicate (grownCap w2 r.length 0 21 - r.length) (.int .i32 0)) 21)).drew));generalize grownCap w2 r.length 0 21=cp at*;refine(HC3.o _ HS3.o).mono ?_;rintro e w3 ⟨rfl,hb3⟩;have HB3:=h_ (bThen HB2'.o hb3);have HRA3:=h_ (HRA2.o.below hb3 (by simp [World.drew]));have hg3:=HRA3.o.lt;have hsz3:=HB3.o.size;clear hb3 hcv;generalize hG:w2.heap.size=g at*;clear hG;go_wp2_with fail
 go_loopw [12,38] (fun at_ i wr=> ∃(k a:Nat) (out:List UInt8),k≤ps.length∧i= .int .i64 k∧at_= .int .i64 a∧a+fromN (ps.drop k)≤r.length∧Hid (out++appBytes r (ps.drop k) a=T.data.toList)∧Hid (okParts (ps.drop k))∧Sb wr w3.heap.size w3.heap.size out∧RunesAt wr g r∧Below w3.heap.size w3 wr)
  (fun _ i _=>ps.length - (intOf i).toNat)
 case atStart=>exact⟨0,0,[],Nat.zero_le _,rfl,rfl,Nat.le_of_eq HF0.o,HTOT,HOK,Sb.fresh w3 _ (Nat.le_refl _),HRA3.o.alloc _,bA_⟩
 case round=>
  obtain⟨k,a,out,hk,rfl,rfl,hfr,hout,hokk,hsb,hra,hbw⟩:=hrel;have hsz:=hbw.size;by_cases hlt:k<ps.length
  ·obtain⟨b,o,rfl,hbs',g0,g1,g2⟩:=OpIn.at_ (ps:=ps) (Sl.la hs (bThen HB3.o hbw)) hlt;have htx:=HTX.o _ (List.getElem_mem hlt);have HD:=h_ (List.drop_eq_getElem_cons hlt);have HOU:=h_ (show out++appBytes r (ps[k] :: ps.drop (k+1)) a=T.data.toList by rw [←HD.o];exact hout.o);have HOKK:=h_ (show okParts (ps[k] :: ps.drop (k+1)) by rw [←HD.o];exact hokk.o);rw [HD.o]at hfr;have HSB:=h_ hsb;have HRw:=h_ (And.intro hsb.lt hsb.row);clear hout hokk hsb;generalize ps[k]=p at*;have hpf:=HOKK.o.1;obtain⟨kd,pn,tx⟩:=p;dsimp only at*;have hne1:wr.heap.size≠w3.heap.size:=(by have:=HRw.o.1.2;omega);have hne2:rowOf wr w3.heap.size≠some wr.heap.size:=fun e=>by have:=(HRw.o.2 _ e).2;omega
   obtain⟨WA,hWA⟩:=q2_ (wr.alloc (.cells #[.int .i64 kd,.int .i64 pn,.string tx] 73));have hba:Below wr.heap.size wr WA:=(by rw [hWA];exact bA_);have hWA1:WA.heap.size=wr.heap.size+1:=(by rw [hWA];simp);have hWc: ∀j,WA.cell? ⟨wr.heap.size,j,none⟩=(#[Value.int .i64 kd,.int .i64 pn,.string tx])[j]?:=(by intro j;rw [hWA,World.cell?_alloc_new]);have hrow:rowOf WA w3.heap.size=rowOf wr w3.heap.size:=(by unfold rowOf;rw [hba.block _ HRw.o.1.2]);have HSA:=h_ (HSB.o.la hba);have HRAA:=h_ (hra.below hba hra.lt);have hc0:=fun(w2:World) (h:Kept w3.heap.size WA w2) (j:Nat)=>(h.cell (k:=wr.heap.size) (j:=j) (by omega) hne1 (by rw [hrow];exact hne2)).trans (hWc j);have HC:=h_ hc0;have HKB:=h_ (fun(w4:World) (h:Kept w3.heap.size WA w4)=>(hba.mono hsz).trans (h.below (Nat.le_refl _) (fun x hx=>(HRw.o.2 x (by rw [←hrow];exact hx)).1) (by omega)));have hol:out.length≤16000:=(by have:=congrArg List.length HOU.o;have hbl:T.data.toList.length=T.size:=rfl;rw [List.length_append]at this;omega);clear hc0 hWc hrow;by_cases hk1:kd=1
   ·subst hk1;obtain⟨_,hp1,hp2,_⟩:=di_ hpf (by simp);dsimp only at hp1 hp2;obtain⟨n,rfl⟩: ∃n:Nat,pn=n:=⟨pn.toNat,by omega⟩
    rw [ri_ (by decide),Int.toNat_natCast]at hfr;have hpc:=convPiece (W:=wr.alloc (.cells #[.int .i64 1,.int .i64 n,.string tx] 73)) (by rw [←hWA];exact HRAA.o) a n (cp - a) (by omega);have HE:=h_ (sz_ (r:=r) (n:=n) (s:=tx) (ps:=ps.drop (k+1)) (a:=a));have hps:(runesBytes ((r.drop a).take n)).size≤16000:=(by have a1:=runesBytes_size_le ((r.drop a).take n);rw [List.length_take]at a1;omega);generalize runesBytes ((r.drop a).take n)=piece at*;have hn1:(1:Int)≤n:=(by omega);clear hp1;go_wp2_with fail
    rw [←hWA];refine(jr_ WA _ _ out piece HSA.o (by omega) (by omega)).mono ?_;rintro e w4 ⟨rfl,hsb4,hk4⟩;have x1:=HC.o w4 hk4 1;simp at x1;have HB4:=h_ (HKB.o w4 hk4);clear hk4;go_wp2_with fail
    go_roundw
    case rel=>exact⟨k+1,a+n,out++piece.data.toList,by omega,by go_num,by go_num,by omega,by rw [List.append_assoc,←HE.o];exact HOU,HOKK.o.2.2,hsb4,hra.below HB4.o hg3,hbw.trans HB4.o⟩
    case measure=>simp [intOf];omega
   have e1:(kd==1)=false:=(by simpa using hk1);by_cases hk2:kd=2
   ·subst hk2;have hv:=(df_ (ga_ hpf rfl).2.1).2;dsimp only at hv;have HE:=h_ (uu_ (r:=r) (n:=pn) (s:=tx) (ps:=ps.drop (k+1)) (a:=a) hv);have hfr':a+fromN (ps.drop (k+1))≤r.length:=by
     have:fromN (⟨2,pn,tx⟩ :: ps.drop (k+1))=0+fromN (ps.drop (k+1)):=rfl;omega
    clear hv;go_wp2_with fail
    rw [←hWA];refine(jr_ WA _ _ out tx HSA.o (by omega) (by omega)).mono ?_;rintro e w4 ⟨rfl,hsb4,hk4⟩;have HB4:=h_ (HKB.o w4 hk4);clear hk4;go_wp2_with fail
    go_roundw
    case rel=>exact⟨k+1,a,out++tx.data.toList,by omega,by go_num,rfl,hfr',by rw [List.append_assoc,←HE.o];exact HOU,HOKK.o.2.2,hsb4,hra.below HB4.o hg3,hbw.trans HB4.o⟩
    case measure=>simp [intOf];omega
   ·have e2:(kd==2)=false:=(by simpa using hk2);obtain⟨hk13,hp1,hp2,_⟩:=di_ hpf hk2;dsimp only at hk13 hp1 hp2;obtain rfl:kd=3:=(by omega);obtain⟨n,rfl⟩: ∃n:Nat,pn=n:=⟨pn.toNat,by omega⟩
    rw [ri_ (by decide),Int.toNat_natCast]at hfr;clear hk13 hk1 hk2 hp1;go_wp2_with fail
    go_roundw
    case rel=>exact⟨k+1,a+n,out,by omega,by go_num,by go_num,by omega,HOU,HOKK.o.2.2,by rw [←hWA];exact HSA.o,by rw [←hWA];exact HRAA.o,bThen hbw bA_⟩
    case measure=>simp [intOf];omega
  ·obtain rfl:k=ps.length:=(by omega);have HOUT:=h_ (show out=T.data.toList by have:=hout.o;rw [List.drop_length]at this;simpa [appBytes,appRunes,runesBytes]using this);have HX:=h_ (show T=⟨out.toArray⟩ by rw [HOUT.o]);have hlt3:=hsb.lt.2;go_wp2_with fail
   refine(Tryz.Builder_String_any w3.heap.size w3.heap.size out wr hsb (by omega)).mono ?_;rintro e w4 ⟨rfl,hb4⟩;go_wp2_with fail
   go_ret2
   exact⟨by rw [HX.o];rfl,bThen HB3.o (hbw.trans hb4)⟩
 ),P):=⟨@q6_⟩
 exact m133_
def RetApply (w:World) (s:ByteArray) (ps:LP_) (e:Ending) (w':World):Prop:=
 e= .returned (.tuple #[.string (applyText s ps),.int .i64 (applyErr s ps)])∧Below w.heap.size w w'
section
variable {s:ByteArray}{ps:List PartD}
include s ps
theorem js_(h:textFault s≠0):applyErr s ps=textFault s∧applyText s ps=⟨#[]⟩:=by
 have e:applyErr s ps=textFault s:=if_pos h;exact⟨e,by unfold applyText;rw [e,if_neg h]⟩
section
variable(h:textFault s=0)
include h
theorem ll_(h2:opFault ps≠0):applyErr s ps=opFault ps∧applyText s ps=⟨#[]⟩:=by
 have e:applyErr s ps=opFault ps:=by unfold applyErr;rw [if_neg (by simpa using h),if_pos h2]
 exact⟨e,by unfold applyText;rw [e,if_neg h2]⟩
theorem jz_(h2:opFault ps=0)(h3:(lens ps).1≠(Lib.runeCount s:Int)):applyErr s ps=10∧applyText s ps=⟨#[]⟩:=by
 have e:applyErr s ps=10:=by unfold applyErr;rw [if_neg (by simpa using h),if_neg (by simpa using h2),if_pos h3]
 exact⟨e,by unfold applyText;rw [e,if_neg (by decide)]⟩
theorem lk_(h2:opFault ps=0)(h3:(lens ps).1=(Lib.runeCount s:Int)):applyErr s ps=0∧applyText s ps=runesBytes (appRunes (runesOf s) ps 0):=by
 have e:applyErr s ps=0:=by unfold applyErr;rw [if_neg (by simpa using h),if_neg (by simpa using h2),if_neg (by simpa using h3)]
 exact⟨e,by unfold applyText;rw [if_pos e]⟩
end
end
theorem bfz_(w:World)(s:ByteArray)(A:OA_)(c:Nat)(ps:LP_)(hT:Tabs w)(hs:OpIn (· <w.heap.size) w A ps)(hm:ps.length≤1048576)(ht: ∀p∈ps,p.text.size≤1048576)(hst:s.size≤1048576):
 Calls Tryz.prog 51 #[.string s,.slice A ps.length c] w (RetApply w s ps):=by
 have hC1:=br_ s;have hC2:=fun W hT hs=>bt_ W A c ps hT hs hm ht;by_cases h1:textFault s=0
 ·by_cases h2:opFault ps=0
  ·by_cases h3:(lens ps).1=(Lib.runeCount s:Int)
   ·obtain⟨e1,e2⟩:=lk_ h1 h2 h3;unfold RetApply;rw [e1,e2];exact bdy_ w s A c ps hT hs hm ht hst h1 h2 h3
   ·obtain⟨e1,e2⟩:=jz_ h1 h2 h3;unfold RetApply;rw [e1,e2];have hC3:=fun W hs=>cs_ W A c ps hs hm ht;rw [h1]at hC1;rw [h2]at hC2;have hcv:=fun wx=>convRunes (w:=wx) hst;have hd:((lens ps).1 !=(Lib.runeCount s:Int))=true:=(by simpa using h3);generalize lens ps=L at*;obtain⟨L1,L2⟩:=L;dsimp only at*;have HC1:=h_ hC1;have HC2:=h_ hC2;have HC3:=h_ hC3;clear hC1 hC2 hC3 h1 h2 h3 ht e1 e2;go_enter Tryz.func51,Tryz.ntmps51
    have k133_:K_ (∀(P:Prop) (h:P:=by
    clear hb1 hb2;go_wp2_with fail
    refine(HC3.o _ (Sl.la HS2.o bA_.drew)).mono ?_;rintro e w3 ⟨rfl,hb3⟩;have HB3:=h_ (bThen (bThen HB2.o bA_.drew) hb3);clear hb3 hcv;go_wp2_with fail
    go_ret2
    exact⟨rfl,HB3.o⟩
    ),P):=⟨@q6_⟩
    exact m133_
  ·obtain⟨e1,e2⟩:=ll_ h1 h2;unfold RetApply;rw [e1,e2];rw [h1]at hC1;have hd:(opFault ps !=0)=true:=(by simpa using h2);generalize opFault ps=x at*;have HC1:=h_ hC1;have HC2:=h_ hC2;clear hC1 hC2 h1 h2 ht e1 e2;go_enter Tryz.func51,Tryz.ntmps51
   go_wp2_with fail
   refine(HC1.o _ hT hst).mono ?_;rintro e w1 ⟨rfl,hb1⟩;have HT1:=h_ (hT.la hb1);have HS1:=h_ (Sl.la hs hb1);go_wp2_with fail
   refine(HC2.o _ HT1.o HS1.o).mono ?_;rintro e w2 ⟨rfl,hb2⟩;go_wp2_with fail
   go_ret2
   exact⟨rfl,bThen hb1 hb2⟩
 ·obtain⟨e1,e2⟩:=js_ (ps:=ps) h1;unfold RetApply;rw [e1,e2];have hd:(textFault s !=0)=true:=by simpa using h1
  generalize textFault s=x at*;have HC1:=h_ hC1;clear hC1 hC2 h1 ht e1 e2;go_enter Tryz.func51,Tryz.ntmps51
  go_wp2_with fail
  refine(HC1.o _ hT hst).mono ?_;rintro e w1 ⟨rfl,hb1⟩;go_wp2_with fail
  go_ret2
  exact⟨rfl,hb1⟩
theorem infoRune:(Tryz.prog.info? 21).map (fun i=>(i.zero,i.size,i.bytes))=some (some (.int .i32 0),1,4):=by kernel_rfl
theorem convSl{W:World}{S:Nat→Prop}{A:Option Addr}{n c:Nat}{rs:List Int}(h:Sl S W 1 A n (rs.map (Value.int .i32))):(convert 135 9 (.slice A n c)).run Tryz.prog W= .ok (.string (runesBytes rs)) W:=by
 have hl:rs.length=n:=by have:=h.1;simpa using this
 rcases A with _ | ad
 ·have hn:n=0:=by
   rcases Nat.eq_zero_or_pos n with q | q
   ·exact q
   ·obtain⟨_,_,e,_⟩:=h.2 q;cases e
  have:rs= []:=List.eq_nil_of_length_eq_zero (by omega);subst this;exact run_convert_runes_nil W 135 9 21 n c Tryz.underlying135 Tryz.underlying21 Tryz.underlying9
 ·have key:=run_convert_runes (P:=Tryz.prog) W 135 9 21 ad n c rs (by omega) Tryz.underlying135 Tryz.underlying21 Tryz.underlying9 (fun j hj=>by
   obtain⟨b,o,e,_,hc⟩:=h.2 (by omega);injection e with e
   subst e;rw [Go.WideShapes.add_plain];exact hc j _ (hj_ rs j hj))
  rw [key,List.take_of_length_le (by omega)]
theorem wg_(s:ByteArray)(hs:s.size≤1048576)(W:World): ∃W' c,(convert 9 135 (.string s)).run Tryz.prog W= .ok (.slice (some ⟨W.heap.size,0,none⟩) (runesOf s).length c) W'∧Below W.heap.size W W'∧RunesAt W' W.heap.size (runesOf s)∧(runesOf s).length≤c:=by
 have h:=convRunes (w:=W) hs;rw [←bo_]at h;exact⟨_,_,h,bAlloc (Below.refl _ _).drew _,RunesAt.new W.drew s _ _,grownCap_ge _ _ _ _⟩
theorem cv_{w:World}{base:Nat}{e:TypeId}{size n c:Nat}{A:Option Addr}{xs:List Value}(h:w.ownsRow base e size (.slice A n c) n xs):Sl (· <w.heap.size) w size A n xs:=
 (Sl.of_own w h).keep (fun _ hb=>hb.2) (fun _ _=>rfl)
def fromS:List (Int × Int)→Nat
 | []=>0
 | x :: l=>(if x.1=2 then 0 else 1)+fromS l
theorem hn_(a b:List (Int × Int)):fromS (a++b)=fromS a+fromS b:=by
 induction a with
 | nil=>simp [fromS]
 | cons x a ih=>
  rw [List.cons_append,show fromS (x :: (a++b))=(if x.1=2 then 0 else 1)+fromS (a++b)from rfl,show fromS (x :: a)=(if x.1=2 then 0 else 1)+fromS a from rfl,ih];omega
theorem rj_(rs:List Int):fromS (rs.map (fun r=>((2:Int),r)))=0:=by
 induction rs with
 | nil=>rfl
 | cons r rs ih=>
  rw [List.map_cons,show fromS ((2,r) :: rs.map (fun r=>((2:Int),r)))=0+fromS (rs.map (fun r=>((2:Int),r)))from rfl,ih]
theorem rk_(k:Int)(h:k≠2)(n:Nat):fromS (List.replicate n (k,0))=n:=by
 induction n with
 | zero=>rfl
 | succ n ih=>
  rw [List.replicate_succ,show fromS ((k,0) :: List.replicate n (k,0))=(if k=2 then 0 else 1)+fromS (List.replicate n (k,0))from rfl,ih,if_neg h];omega
theorem eh_: ∀(ps:LP_),fromS (stepsOf ps)=fromN ps
 | []=>rfl
 | p :: ps=>by
  rw [fx_,hn_,eh_ ps,show fromN (p :: ps)=(if p.kind=2 then 0 else p.n.toNat)+fromN ps from rfl];congr 1;unfold partSteps;by_cases h2:p.kind=2
  · rw [if_pos h2,if_pos h2,rj_]
  · rw [if_neg h2,if_neg h2,rk_ _ h2]
theorem gm_{r:Int}{l:List (Int × Int)} :fromS ((2,r) :: l)=0+fromS l:=rfl
theorem ex_{k r:Int}{l:List (Int × Int)}(h:k≠2):fromS ((k,r) :: l)=1+fromS l:=by
 rw [show fromS ((k,r) :: l)=(if k=2 then 0 else 1)+fromS l from rfl,if_neg h]
section
variable {r:List Int}{x:Int}{l:List (Int × Int)}{a:Nat}
include r x l a
theorem bes_:appSteps r ((2,x) :: l) a=x :: appSteps r l a:=rfl
theorem bbs_:appSteps r ((1,x) :: l) a=r.getD a 0 :: appSteps r l (a+1):=rfl
end
theorem ber_{r:List Int}{k x:Int}{l:List (Int × Int)}{a:Nat}(h1:k≠1)(h2:k≠2):appSteps r ((k,x) :: l) a=appSteps r l (a+1):=by
 rw [fe_,if_neg h2,if_neg h1]
section
variable(w:World) (s:ByteArray) (A:OA_) (c:Nat) (ps:LP_) (hT:Tabs w) (hs:OpIn (· <w.heap.size) w A ps) (hm:ps.length≤1048576) (ht: ∀p∈ps,p.text.size≤1048576) (hst:s.size≤1048576)
include w s A c ps hT hs hm ht hst
theorem za_(ht0:textFault s=0)(hf0:opFault ps=0)(hln:(lens ps).1=(Lib.runeCount s:Int)):
 Calls Tryz.prog 64 #[.string s,.slice A ps.length c] w (R_ w (.tuple #[.string (runesBytes (appSteps (runesOf s) (stepsOf ps) 0)),.int .i64 0])):=by
 obtain⟨i0,hi,hz0,hz1,hz2⟩:=info_parts infoRune;obtain⟨h8,hok,_,_⟩:=cr_ hf0;obtain⟨e1,e2,n1,n2⟩:=gc_ hf0;have hrl:=bo_ s;have hfr:0+fromS ((stepsOf ps).drop 0)=(runesOf s).length:=by rw [List.drop_zero,eh_];omega
 have hsl:=do_ hok;have hC1:=bs_ s;have hC2:=fun W hT hs=>bk_ W A c ps hT hs hm ht;have hC3:=fun W hs=>bq_ W A c ps hs hm ht;have HC4:=h_ (fun W hs=>ra_ W A c ps hs hm ht (by omega));rw [ht0]at hC1;rw [hf0]at hC2;rw [e1,e2]at hC3;have HC1:=h_ hC1;have HC2:=h_ hC2;have HC3:=h_ hC3;have HRA:=h_ (wg_ s hst);have HTOT:=h_ (show []++appSteps (runesOf s) ((stepsOf ps).drop 0) 0=appSteps (runesOf s) (stepsOf ps) 0 by simp);have HF0:=h_ hfr;generalize hTT:appSteps (runesOf s) (stepsOf ps) 0=T at*;generalize runesOf s=r at*;generalize stepsOf ps=l at*;rw [←hrl]at hln;have hdec:((fromN ps:Int) !=(r.length:Int))=false:=by simp;omega
 have hr4:r.length≤4000:=by omega
 have hl8:l.length≤8000:=by omega
 clear ht0 hf0 hln hC1 hC2 hC3 hok ht e1 e2 hfr hTT hrl hsl;go_enter Tryz.func64,Tryz.ntmps64
 have k133_:K_ (∀(P:Prop) (h:P:=by
 clear hb1 hb2 hT HT1 HS1;go_wp2_with fail
 refine(HC3.o _ HS2.o).mono ?_;rintro e w3 ⟨rfl,hb3⟩;have HB3:=h_ (bThen HB2.o hb3);have HS3:=h_ (Sl.la HS2.o hb3);clear hb3;obtain⟨W4,c4,hcv1,hb4,_,_⟩:=HRA.o w3;obtain⟨W5,c5,hcv2,hb5,hra5,hc5⟩:=HRA.o W4;have HB5:=h_ (bThen (bThen HB3.o hb4) hb5);have HS5:=h_ (Sl.la (Sl.la HS3.o hb4) hb5);have HRA5:=h_ hra5;clear hra5 hb4 hb5;go_wp2_with fail
 refine(HC4.o _ HS5.o).mono ?_;rintro e w6 ⟨A6,c6,rfl,hown6,hb6⟩;have HB6:=h_ (bThen HB5.o hb6);have HRA6:=HRA5.o.below hb6 HRA5.o.lt;have HST:=cv_ hown6;have hg6:=HRA6.lt;have hz6:=HB6.o.size;clear hb6 hown6 hcv1 hcv2 HRA5 HRA HS5;generalize hG:W4.heap.size=g at*;clear hG;go_wp2_with fail
 go_loopw [11,12,13] (fun o_ at_ i wr=> ∃(k a:Nat) (out:List Int) (Ao:OA_) (co:Nat),k≤l.length∧i= .int .i64 k∧at_= .int .i64 a∧o_= .slice Ao out.length co∧out.length≤k∧a+fromS (l.drop k)=r.length∧Hid (out++appSteps r (l.drop k) a=T)∧wr.ownsRow w6.heap.size 21 1 (.slice Ao out.length co) out.length (out.map (Value.int .i32))∧Below w6.heap.size w6 wr)
  (fun _ _ i _=>l.length - (intOf i).toNat)
 case atStart=>exact⟨0,0,[],none,0,Nat.zero_le _,rfl,rfl,rfl,Nat.le_refl _,HF0.o,HTOT,World.ownsRow_nil _ _ _ _,Below.refl _ _⟩
 case round=>
  obtain⟨k,a,out,Ao,co,hk,rfl,rfl,rfl,hol,hfr,hout,hown,hbw⟩:=hrel;have hsz:=hbw.size;by_cases hlt:k<l.length
  ·obtain⟨b,o,rfl,hbs',g0,g1⟩:=StepsIn.at_ (Sl.la HST hbw) hlt;have HD:=h_ (List.drop_eq_getElem_cons hlt);have HOU:=h_ (show out++appSteps r (l[k] :: l.drop (k+1)) a=T by rw [←HD.o];exact hout.o);rw [HD.o]at hfr;clear hout;have HFR:=h_ hfr;clear hfr;generalize l[k]=x at*;obtain⟨kd,rr⟩:=x;dsimp only at*;by_cases hk2:kd=2
   ·subst hk2;have hf2:a+fromS (l.drop (k+1))=r.length:=(by have:=HFR.o;rw [gm_]at this;omega);have HF2:=h_ hf2;have HE:=h_ (show(out++ [rr])++appSteps r (l.drop (k+1)) a=T by rw [←HOU.o,bes_];simp);have HX:=h_ (hown.alloc (.cells #[.int .i32 rr] 21));have HS:=h_ (Sl.new (S:=fun _=>True) wr [.int .i32 rr] 21 1 1 rfl trivial);clear hf2;go_wp2_with(at_builtin;refine l_ _ rfl _ _ 135 rfl w6.heap.size 21 i0 (.int .i32 0) 1 4 Tryz.underlying135 hi hz0 hz1 hz2 rfl (by decide) _ _ _ rfl HX.o _ _ _ _ _ rfl HS.o ?c1 ?c2 ?c3 ?c4 ?_)
    case c1=>simp [Value.oneCell']
    case c2=>unfold maxLen;omega
    case c3=>omega
    case c4=>simp;omega
    intro A' c' w7 hown' hgrow hat;go_wp2_with fail
    go_roundw
    case rel=>exact⟨k+1,a,out++ [rr],A',c',by omega,by go_num,rfl,by simp,by simp;omega,HF2.o,HE,by simpa using hown',(bAlloc hbw _).grown hgrow (by simp;omega) (fun g hg=>(hown.lt g hg).1)⟩
    case measure=>simp [intOf];omega
   ·have e2:(kd==2)=false:=(by simpa using hk2);have hf2:a+1+fromS (l.drop (k+1))=r.length:=(by have:=HFR.o;rw [ex_ hk2]at this;omega);have ha:a<r.length:=(by omega);have HF2:=h_ hf2;clear hf2;by_cases hk1:kd=1
    ·subst hk1;have hcell:=(hbw.cell (p:=⟨g,0+a,none⟩) hg6).trans (HRA6.cells a _ (hj_ r a ha));rw [Nat.zero_add]at hcell;have HE:=h_ (show(out++ [r.getD a 0])++appSteps r (l.drop (k+1)) (a+1)=T by rw [←HOU.o,bbs_];simp);generalize r.getD a 0=rv at*;have HX:=h_ (hown.alloc (.cells #[.int .i32 rv] 21));have HS:=h_ (Sl.new (S:=fun _=>True) wr [.int .i32 rv] 21 1 1 rfl trivial);clear hk2;go_wp2_with(at_builtin;refine l_ _ rfl _ _ 135 rfl w6.heap.size 21 i0 (.int .i32 0) 1 4 Tryz.underlying135 hi hz0 hz1 hz2 rfl (by decide) _ _ _ rfl HX.o _ _ _ _ _ rfl HS.o ?d1 ?d2 ?d3 ?d4 ?_)
     case d1=>simp [Value.oneCell']
     case d2=>unfold maxLen;omega
     case d3=>omega
     case d4=>simp;omega
     intro A' c' w7 hown' hgrow hat;go_wp2_with fail
     go_roundw
     case rel=>exact⟨k+1,a+1,out++ [rv],A',c',by omega,by go_num,by go_num,by simp,by simp;omega,HF2.o,HE,by simpa using hown',(bAlloc hbw _).grown hgrow (by simp;omega) (fun g hg=>(hown.lt g hg).1)⟩
     case measure=>simp [intOf];omega
    ·have e1:(kd==1)=false:=(by simpa using hk1);have HE:=h_ (show out++appSteps r (l.drop (k+1)) (a+1)=T by rw [←HOU.o,ber_ hk1 hk2]);clear hk1 hk2;go_wp2_with fail
     go_roundw
     case rel=>exact⟨k+1,a+1,out,Ao,co,by omega,by go_num,by go_num,rfl,by omega,HF2.o,HE,hown,hbw⟩
     case measure=>simp [intOf];omega
  ·obtain rfl:k=l.length:=(by omega);have HX:=h_ (show T=out by have:=hout.o;rw [List.drop_length]at this;simpa [appSteps]using this.symm);have hcv:=convSl (c:=co) (cv_ hown);go_wp2_with fail
   go_ret2
   exact⟨by rw [HX.o];rfl,bThen HB6.o hbw⟩
 ),P):=⟨@q6_⟩
 exact m133_
theorem bbb_:
 Calls Tryz.prog 64 #[.string s,.slice A ps.length c] w (RetApply w s ps):=by
 have hC1:=bs_ s;have hC2:=fun W hT hs=>bk_ W A c ps hT hs hm ht;have HC3:=h_ (fun W hs=>bq_ W A c ps hs hm ht);by_cases h1:textFault s=0
 ·by_cases h2:opFault ps=0
  ·by_cases h3:(lens ps).1=(Lib.runeCount s:Int)
   ·obtain⟨e1,e2⟩:=lk_ h1 h2 h3;unfold RetApply;rw [e1,e2,←kw_ (runesOf s) ps 0 (cr_ h2).2.1 (by have:=(gc_ h2).1;have:=bo_ s;omega)];exact za_ w s A c ps hT hs hm ht hst h1 h2 h3
   ·obtain⟨e1,e2⟩:=jz_ h1 h2 h3;unfold RetApply;rw [e1,e2];rw [h1]at hC1;rw [h2]at hC2;have HRA:=h_ (wg_ s hst);have hrl:=bo_ s;rw [←hrl]at h3;have hd:((lens ps).1 !=((runesOf s).length:Int))=true:=(by simpa using h3);generalize runesOf s=r at*;generalize lens ps=L at*;obtain⟨L1,L2⟩:=L;dsimp only at*;have HC1:=h_ hC1;have HC2:=h_ hC2;clear hC1 hC2 h1 h2 h3 ht e1 e2 hrl;go_enter Tryz.func64,Tryz.ntmps64
    have k133_:K_ (∀(P:Prop) (h:P:=by
    clear hb1 hb2;go_wp2_with fail
    refine(HC3.o _ HS2.o).mono ?_;rintro e w3 ⟨rfl,hb3⟩;have HB3:=h_ (bThen HB2.o hb3);clear hb3;obtain⟨W4,c4,hcv1,hb4,_,_⟩:=HRA.o w3;go_wp2_with fail
    go_ret2
    exact⟨rfl,bThen HB3.o hb4⟩
    ),P):=⟨@q6_⟩
    exact m133_
  ·obtain⟨e1,e2⟩:=ll_ h1 h2;unfold RetApply;rw [e1,e2];rw [h1]at hC1;have hd:(opFault ps !=0)=true:=(by simpa using h2);have hd2:(opFault ps==0)=false:=(by simpa using h2);generalize opFault ps=x at*;generalize lens ps=L at*;obtain⟨L1,L2⟩:=L;dsimp only at*;have HC1:=h_ hC1;have HC2:=h_ hC2;clear hC1 hC2 h1 h2 ht e1 e2;go_enter Tryz.func64,Tryz.ntmps64
   have k133_:K_ (∀(P:Prop) (h:P:=by
   go_wp2_with fail
   refine(HC3.o _ HS2.o).mono ?_;rintro e w3 ⟨rfl,hb3⟩;go_wp2_with fail
   go_ret2
   exact⟨rfl,bThen HB2.o hb3⟩
   ),P):=⟨@q6_⟩
   exact m133_
 ·obtain⟨e1,e2⟩:=js_ (ps:=ps) h1;unfold RetApply;rw [e1,e2];have hd:(textFault s !=0)=true:=by simpa using h1
  have hd2:(textFault s==0)=false:=by simpa using h1
  generalize textFault s=x at*;generalize lens ps=L at*;obtain⟨L1,L2⟩:=L;dsimp only at*;have HC1:=h_ hC1;clear hC1 hC2 h1 ht e1 e2;go_enter Tryz.func64,Tryz.ntmps64
  go_wp2_with fail
  refine(HC1.o _ hT hst).mono ?_;rintro e w1 ⟨rfl,hb1⟩;have HS1:=h_ (Sl.la hs hb1);go_wp2_with fail
  refine(HC3.o _ HS1.o).mono ?_;rintro e w3 ⟨rfl,hb3⟩;go_wp2_with fail
  go_ret2
  exact⟨rfl,bThen hb1 hb3⟩
end
end Go.Proofs.YtacacoklddogmaaGreatDoor
