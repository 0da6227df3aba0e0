/- Lemmas. -/
import Derived.Test.YtacacoklddogmaaGreatDoorKJAK
namespace Go.Proofs.YtacacoklddogmaaGreatDoor
set_option maxHeartbeats 4000000
open Go.ChangeShapes Go.WideShapes Go.ChangeAt Go.RowKit
set_option maxRecDepth 100000
section
variable(w:World) (T:OA_) (N Nc:Nat) (zs:List Int) (n:NodeV) (HT:Hid (Tabs w)) (HI:Hid (n.In w))
include w T N Nc zs n HT HI
theorem nw_(_HZ:Hid (Sl (· <w.heap.size) w 1 T N (zs.map (Value.int .i64))))(_hN:N≤9223372036854775807)(pl:List Int)(t1:decide (n.me<0)=false)(t2:decide ((N:Int)≤n.me)=false)(t3:decide (n.ep<1)=false)(t4:decide (1048576≤n.ep)=false)(t5:decide (n.up<0)=false)(t6:decide (1048576<n.up)=false)(_z0:(n.me==0)=false)(_zp:decide (0<n.me)=true)(hrd:n.rd=true)(HWR:Hid (wrap64 ((n.U.length:Int)+(n.M.length:Int))=((n.U.length+n.M.length:Nat):Int)))(hpl:pl.length=n.S.length)(hM:n.M.length≤1)(hS:n.S.length≤8)(hpp:0<n.S.length)(res:Int)(H9:Hid (¬((∀i (h:i<n.S.length),n.S[i].p=pl.getD i 0∧sideMay n.rd (runesI n.t) n.S[i])∧(0<n.me→ ∀x,n.S.head?=some x→x.j=n.rd)∧ ∀m∈n.M,markOk (runesI n.t) m)→res=9))(H0:Hid (((∀i (h:i<n.S.length),n.S[i].p=pl.getD i 0∧sideMay n.rd (runesI n.t) n.S[i])∧(0<n.me→ ∀x,n.S.head?=some x→x.j=n.rd)∧ ∀m∈n.M,markOk (runesI n.t) m)→res=0))(HC:Hid (∀W,Below w.heap.size w W→Calls Tryz.prog 83 #[.slice T N Nc] W fun e w'=>e= .returned (.int .i64 0)∧W=w'))(HX:Hid (∀W,Tabs W→Calls Tryz.prog 84 #[.string n.t] W (R_ W (.int .i64 0))))(HL:Hid (∀W,Below w.heap.size w W→Calls Tryz.prog 85 #[.slice T N Nc,.int .i64 n.me] W (RetInts W pl)))(HU:Hid (∀W,Below w.heap.size w W→Calls Tryz.prog 86 #[n.val] W (R_ W (.bool true))))(HSD:Hid (∀W x,Tabs W→x∈n.S→x.In W→Calls Tryz.prog 87 #[n.val,x.val] W fun r w'=>(∃b:Bool,r= .returned (.bool b)∧(b=true↔sideMay n.rd (runesI n.t) x))∧Below W.heap.size W w'))(HRC:Hid (∀W,Calls Tryz.prog 88 #[.string n.t] W (R_ W (.int .i64 (runesI n.t))))):
 Calls Tryz.prog 43 #[.slice T N Nc,n.val] w (R_ w (.int .i64 res)):=by
 exact m9_
theorem nv_(_HZ:Hid (Sl (· <w.heap.size) w 1 T N (zs.map (Value.int .i64))))(_hN:N≤9223372036854775807)(pl:List Int)(t1:decide (n.me<0)=false)(t2:decide ((N:Int)≤n.me)=false)(t3:decide (n.ep<1)=false)(t4:decide (1048576≤n.ep)=false)(t5:decide (n.up<0)=false)(t6:decide (1048576<n.up)=false)(_z0:(n.me==0)=false)(_zp:decide (0<n.me)=true)(hrd:n.rd=false)(_ht:n.t.toList= [])(HWR:Hid (wrap64 ((n.U.length:Int)+(n.M.length:Int))=((n.U.length+n.M.length:Nat):Int)))(hpl:pl.length=n.S.length)(hM:n.M.length≤1)(HUM:Hid (n.U.length+n.M.length=0))(hS:n.S.length≤8)(hpp:0<n.S.length)(res:Int)(H9:Hid (¬((∀i (h:i<n.S.length),n.S[i].p=pl.getD i 0∧sideMay n.rd (runesI n.t) n.S[i])∧(0<n.me→ ∀x,n.S.head?=some x→x.j=n.rd)∧ ∀m∈n.M,markOk (runesI n.t) m)→res=9))(H0:Hid (((∀i (h:i<n.S.length),n.S[i].p=pl.getD i 0∧sideMay n.rd (runesI n.t) n.S[i])∧(0<n.me→ ∀x,n.S.head?=some x→x.j=n.rd)∧ ∀m∈n.M,markOk (runesI n.t) m)→res=0))(HC:Hid (∀W,Below w.heap.size w W→Calls Tryz.prog 83 #[.slice T N Nc] W fun e w'=>e= .returned (.int .i64 0)∧W=w'))(HX:Hid (∀W,Tabs W→Calls Tryz.prog 84 #[.string n.t] W (R_ W (.int .i64 0))))(HL:Hid (∀W,Below w.heap.size w W→Calls Tryz.prog 85 #[.slice T N Nc,.int .i64 n.me] W (RetInts W pl)))(HU:Hid (∀W,Below w.heap.size w W→Calls Tryz.prog 86 #[n.val] W (R_ W (.bool true))))(HSD:Hid (∀W x,Tabs W→x∈n.S→x.In W→Calls Tryz.prog 87 #[n.val,x.val] W fun r w'=>(∃b:Bool,r= .returned (.bool b)∧(b=true↔sideMay n.rd (runesI n.t) x))∧Below W.heap.size W w'))(HRC:Hid (∀W,Calls Tryz.prog 88 #[.string n.t] W (R_ W (.int .i64 (runesI n.t))))):
 Calls Tryz.prog 43 #[.slice T N Nc,n.val] w (R_ w (.int .i64 res)):=by
 have k279_:K_ (∀(P:Prop) (h:P:=by
 have HM1:=h_ hM;have _q3:decide (0<((n.U.length+n.M.length:Nat):Int))=false:=by rw [HUM.o];rfl
 have _q4:decide (0<n.U.length+n.M.length)=false:=by rw [HUM.o];rfl
 have _q5:decide (0<((n.U.length:Int)+(n.M.length:Int)))=false:=by have:=HUM.o;simp;omega
 have k269_:K_ (∀(P:Prop) (h:P:=by
 dsimp only at HA;rw [←hWA]at HA;have HW:=h_ hWA.symm;clear hWA;have k153_:K_ (∀(P:Prop) (h:P:=by
 have k95_:K_ (∀(P:Prop) (h:P:=by
 have k220_:K_ (∀(P:Prop) (h:P:=by
 go_wp2_with fail
 all_goals(
  (try clear _ht _q3 _q4 _q5)
  clear n0 n1 n2 n3 n4 n5 n6 n7 nz hw q1 q2 t1 t2 t3 t4 t5 t6;go_loopw [112] (fun i wr=> ∃k:Nat,k≤S.length∧i= .int .i64 k∧Hid (∀i (h:i<S.length),i<k→S[i].p=pl.getD i 0∧sideMay false (runesI t) S[i])∧Hid (OneAt w ⟨me,ep,up,false,t,sA,sc,S,uA,uc,U,mA,mc,M⟩ wr)∧Hid (Sl (· <wr.heap.size) wr 1 Aa pl.length (pl.map (Value.int .i64)))) (fun i _=>S.length - (intOf i).toNat)
  case atStart=>exact⟨0,Nat.zero_le _,rfl,fun i hi h=>absurd h (by omega),H4,HAL⟩
  case round=>
   have k281_:K_ (∀(P:Prop) (h:P:=by
   by_cases hlt:k<S.length
   ·have k73_:K_ (∀(P:Prop) (h:P:=by
    have k214_:K_ (∀(P:Prop) (h:P:=by
    by_cases hp:S[k].p=pl.getD k 0
    ·have hpk:=hp;have hne:(S[k].p !=pl.getD k 0)=false:=(by simp [hp]);by_cases hsm:sideMay false (runesI t) S[k]
     ·have HS2:=h_ (show∀W,Below wr.heap.size wr W→Calls Tryz.prog 87 #[NodeV.val ⟨me,ep,up,false,t,some ⟨b,o,none⟩,sc,S,uA,uc,U,mA,mc,M⟩,S[k].val] W (R_ W (.bool true))from fun W hb=>(HSK.o W hb).mono fun r w' ⟨⟨b,e,q⟩,h⟩=>⟨by rw [e];cases b <;> simp_all,h⟩);have HGN:=h_ (show∀i (h:i<S.length),i<k+1→S[i].p=pl.getD i 0∧sideMay false (runesI t) S[i]from fun i h hi=>by
       rcases Nat.lt_or_ge i k with q | q
       · exact HG.o i h q
       · obtain rfl:i=k:=by omega
         exact⟨hp,hsm⟩)
      have k104_:K_ (∀(P:Prop) (h:P:=by
      go_region_held3 (fun w'=>w'.cell? ⟨w.heap.size,0,none⟩=some (.int .i64 me)∧w'.cell? ⟨w.heap.size,1,none⟩=some (.int .i64 ep)∧w'.cell? ⟨w.heap.size,2,none⟩=some (.int .i64 up)∧w'.cell? ⟨w.heap.size,3,none⟩=some (.bool false)∧w'.cell? ⟨w.heap.size,4,none⟩=some (.string t)∧w'.cell? ⟨w.heap.size,5,none⟩=some (.slice (some ⟨b,o,none⟩) S.length sc)∧w'.cell? ⟨w.heap.size,6,none⟩=some (.slice uA U.length uc)∧w'.cell? ⟨w.heap.size,7,none⟩=some (.slice mA M.length mc)∧w'.cell? ⟨wr.heap.size,0,none⟩=some (.int .i64 p)∧w'.cell? ⟨wr.heap.size,1,none⟩=some (.bool j)∧w'.cell? ⟨wr.heap.size,2,none⟩=some (.int .i64 s)∧w'.cell? ⟨wr.heap.size,3,none⟩=some (.int .i64 h)∧w'.cell? ⟨wr.heap.size,4,none⟩=some (.slice A L.length c)∧w'.cell? ⟨wr.heap.size,5,none⟩=some (.int .i64 kk.e)∧w'.cell? ⟨wr.heap.size,6,none⟩=some (.int .i64 kk.n)∧w'.cell? ⟨wr.heap.size,7,none⟩=some (.slice kk.sA kk.s.length kk.sc)∧w'.cell? ⟨wr.heap.size,8,none⟩=some (.slice kk.qA kk.q.length kk.qc)∧w'.cell? ⟨wr.heap.size,9,none⟩=some (.int .i64 kk.h)∧w'.cell? ⟨ab,ao+k,none⟩=some (.int .i64 p))
       (go_keep)
       ((go_at_call 87;refine(HS2.o _ bz_).mono ?_;rintro r w6 ⟨rfl,hb6⟩;obtain⟨⟨d6,os6⟩,rfl⟩:=e_ hb6))
      all_goals(
       exact m170_)
      ),P):=⟨@q6_⟩
      exact m104_
     ·have HS2:=h_ (show∀W,Below wr.heap.size wr W→Calls Tryz.prog 87 #[NodeV.val ⟨me,ep,up,false,t,some ⟨b,o,none⟩,sc,S,uA,uc,U,mA,mc,M⟩,S[k].val] W (R_ W (.bool false))from fun W hb=>(HSK.o W hb).mono fun r w' ⟨⟨b,e,q⟩,h⟩=>⟨by rw [e];cases b <;> simp_all,h⟩);have HR9:=h_ (H9.o fun q=>hsm (q.1 k hlt).2);have k104_:K_ (∀(P:Prop) (h:P:=by
      go_region_held3 (fun w'=>w'.cell? ⟨w.heap.size,0,none⟩=some (.int .i64 me)∧w'.cell? ⟨w.heap.size,1,none⟩=some (.int .i64 ep)∧w'.cell? ⟨w.heap.size,2,none⟩=some (.int .i64 up)∧w'.cell? ⟨w.heap.size,3,none⟩=some (.bool false)∧w'.cell? ⟨w.heap.size,4,none⟩=some (.string t)∧w'.cell? ⟨w.heap.size,5,none⟩=some (.slice (some ⟨b,o,none⟩) S.length sc)∧w'.cell? ⟨w.heap.size,6,none⟩=some (.slice uA U.length uc)∧w'.cell? ⟨w.heap.size,7,none⟩=some (.slice mA M.length mc)∧w'.cell? ⟨wr.heap.size,0,none⟩=some (.int .i64 p)∧w'.cell? ⟨wr.heap.size,1,none⟩=some (.bool j)∧w'.cell? ⟨wr.heap.size,2,none⟩=some (.int .i64 s)∧w'.cell? ⟨wr.heap.size,3,none⟩=some (.int .i64 h)∧w'.cell? ⟨wr.heap.size,4,none⟩=some (.slice A L.length c)∧w'.cell? ⟨wr.heap.size,5,none⟩=some (.int .i64 kk.e)∧w'.cell? ⟨wr.heap.size,6,none⟩=some (.int .i64 kk.n)∧w'.cell? ⟨wr.heap.size,7,none⟩=some (.slice kk.sA kk.s.length kk.sc)∧w'.cell? ⟨wr.heap.size,8,none⟩=some (.slice kk.qA kk.q.length kk.qc)∧w'.cell? ⟨wr.heap.size,9,none⟩=some (.int .i64 kk.h)∧w'.cell? ⟨ab,ao+k,none⟩=some (.int .i64 p))
       (go_keep)
       ((go_at_call 87;refine(HS2.o _ bz_).mono ?_;rintro r w6 ⟨rfl,hb6⟩;obtain⟨⟨d6,os6⟩,rfl⟩:=e_ hb6))
      all_goals(
       exact m224_)
      ),P):=⟨@q6_⟩
      exact m104_
    ·have hne:(S[k].p !=pl.getD k 0)=true:=(by simpa using hp);have HR9:=h_ (H9.o fun q=>hp (q.1 k hlt).1);exact m124_
    ),P):=⟨@q6_⟩
    exact m214_
    ),P):=⟨@q6_⟩
    exact m73_
   ·obtain rfl:k=S.length:=(by omega);have k221_:K_ (∀(P:Prop) (h:P:=by
    by_cases hj: ¬j=false
    ·have hj2:j=!false:=by cases j <;> simp_all
     subst hj2;have HR9:=h_ (H9.o fun q=>by have:=q.2.1 (by simpa using _zp) _ HHD.o;cases this);clear hj;exact m162_
    replace hj:j=false:=Classical.not_not.1 hj
    subst hj;have HPAR:=h_ (show 0<me→ ∀x,S.head?=some x→x.j=false from fun _ x hx=>by rw [HHD.o]at hx;obtain rfl:=Option.some.inj hx;rfl);have HSO:=h_ (show∀i (h:i<S.length),S[i].p=pl.getD i 0∧sideMay false (runesI t) S[i]from fun i h=>HG.o i h h);go_wp2_with(refine z_ ?_)
    refine⟨?_⟩;go_region
    all_goals(
     go_wp2_with fail
     clear n0 n1 n2 n3 n4 n5 n6 n7 nz;go_loopw [147] (fun i wr=> ∃k:Nat,k≤M.length∧i= .int .i64 k∧Hid (∀i (h:i<M.length),i<k→markOk (runesI t) M[i])∧Hid (OneAt w ⟨me,ep,up,false,t,some ⟨b,o,none⟩,sc,S,uA,uc,U,mA,mc,M⟩ wr)) (fun i _=>M.length - (intOf i).toNat)
     case atStart=>exact⟨0,Nat.zero_le _,rfl,fun i hi h=>absurd h (by omega),h_ (HO.o.la bz_)⟩
     case round=>
      exact m92_)
    ),P):=⟨@q6_⟩
    exact m221_
   ),P):=⟨@q6_⟩
   exact m281_)
 ),P):=⟨@q6_⟩
 exact m220_
 ),P):=⟨@q6_⟩
 exact m95_
 ),P):=⟨@q6_⟩
 exact m153_
 ),P):=⟨@q6_⟩
 exact m269_
 ),P):=⟨@q6_⟩
 exact m279_
end
end Go.Proofs.YtacacoklddogmaaGreatDoor
