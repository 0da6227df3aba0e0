/- Lemmas. -/
import Derived.Test.YtacacoklddogmaaGreatDoorKBC
namespace Go.Proofs.YtacacoklddogmaaGreatDoor
set_option maxHeartbeats 4000000
open Go.ChangeShapes Go.WideShapes Go.ChangeAt Go.RowKit
set_option maxRecDepth 100000
theorem m60_{P:Prop}(h:P:=by
 have k98_:K_ (∀(P:Prop) (h:P:=by
 go_wp2_with fail
 refine(h1.o _ (HT.o.la bz_) (HI.o.s.la bz_)).mono ?_;rintro r w1 ⟨rfl,hb1⟩;have x3:=ct_ hb1 3;simp at x3;go_wp2_with fail
 refine(h2.o _ (HT.o.la (y_ hb1)) (HI.o.q.la (y_ hb1))).mono ?_;rintro r w2 ⟨rfl,hb2⟩;go_wp2_with fail
 go_ret
 exact⟨rfl,bThen (y_ hb1) hb2⟩
 ),P):=⟨@q6_⟩
 exact m98_):P:=h
theorem m98_{P:Prop}(h:P:=by
 go_enter Tryz.func105,Tryz.ntmps105
 go_wp2_with fail
 refine(m_ _ _ _ _ a1 a2).mono ?_;rintro r wx ⟨rfl,rfl⟩;go_wp2_with fail
 refine(m_ _ _ _ _ a3 a4).mono ?_;rintro r wx ⟨rfl,rfl⟩;go_wp2_with fail
 refine(m_ _ _ _ _ a5 a6).mono ?_;rintro r wx ⟨rfl,rfl⟩;exact k98_.o _):P:=h
theorem m127_{P:Prop}(h:P:=by
 obtain⟨⟨a1,a2⟩,⟨a3,a4⟩,⟨a5,a6⟩⟩:=hn;unfold linkLens at hl;unfold linkNone at hno;have k1:decide ((8:Int)<(l.s.length:Int))=false:=by simp;omega
 have k2:decide (l.n - 1<(l.s.length:Int))=false:=by simp;omega
 by_cases hq:0<l.q.length
 ·have k3:decide (0<l.q.length)=true:=decide_eq_true hq;have k4:((l.s.length:Int) !=8)=false:=by simp;omega
  by_cases he:l.e=0
  ·have k6:decide (0<l.s.length)=false:=decide_eq_false (by have:=hno he;omega);have k7:decide (0<l.h)=false:=decide_eq_false (by have:=hno he;omega);first
   |guard_hyp vCA
    exact tx_ w l a1 a2 a3 a4 a5 a6 k1 k2 k3 k4 he k6 k7 hT hi h1
   |guard_hyp vBZ
    exact uf_ w l a1 a2 a3 a4 a5 a6 k1 k2 k3 k4 he k6 k7 hT hi h1 h2
   |exact ub_ w l a1 a2 a3 a4 a5 a6 k1 k2 k3 k4 he k6 k7 hT hi h1 h2
  first
  |guard_hyp vCA
   ·exact tw_ w l a1 a2 a3 a4 a5 a6 k1 k2 k3 k4 (by simpa using he) hT hi h1
  |guard_hyp vBZ
   ·exact ue_ w l a1 a2 a3 a4 a5 a6 k1 k2 k3 k4 (by simpa using he) hT hi h1 h2
  |·exact ua_ w l a1 a2 a3 a4 a5 a6 k1 k2 k3 k4 (by simpa using he) hT hi h1 h2
 ·have k3:decide (0<l.q.length)=false:=decide_eq_false hq;by_cases he:l.e=0
  ·have k6:decide (0<l.s.length)=false:=decide_eq_false (by have:=hno he;omega);have k7:decide (0<l.h)=false:=decide_eq_false (by have:=hno he;omega);first
   |guard_hyp vCA
    exact tv_ w l a1 a2 a3 a4 a5 a6 k1 k2 k3 he k6 k7 hT hi h1
   |guard_hyp vBZ
    exact ud_ w l a1 a2 a3 a4 a5 a6 k1 k2 k3 he k6 k7 hT hi h1 h2
   |exact tz_ w l a1 a2 a3 a4 a5 a6 k1 k2 k3 he k6 k7 hT hi h1 h2
  first
  |guard_hyp vCA
   ·exact tu_ w l a1 a2 a3 a4 a5 a6 k1 k2 k3 (by simpa using he) hT hi h1
  |guard_hyp vBZ
   ·exact uc_ w l a1 a2 a3 a4 a5 a6 k1 k2 k3 (by simpa using he) hT hi h1 h2
  |·exact ty_ w l a1 a2 a3 a4 a5 a6 k1 k2 k3 (by simpa using he) hT hi h1 h2):P:=h
theorem m144_{P:Prop}(h:P:=by
 have k98_:K_ (∀(P:Prop) (h:P:=by
 go_wp2_with fail
 refine(h1.o _ (HT.o.la bz_) (HI.o.s.la bz_)).mono ?_;rintro r w1 ⟨rfl,hb1⟩;go_wp2_with fail
 go_ret
 exact⟨rfl,y_ hb1⟩
 ),P):=⟨@q6_⟩
 exact m98_):P:=h
theorem m228_{P:Prop}(h:P:=by
 obtain⟨e,n,sA,sc,s,qA,qc,q,h⟩:=l;dsimp only at*;subst k5;exact m60_):P:=h
theorem m249_{P:Prop}(h:P:=by
 obtain⟨e,n,sA,sc,s,qA,qc,q,h⟩:=l;dsimp only at*;exact m60_):P:=h
theorem m265_{P:Prop}(h:P:=by
 go_wp2_with fail
 refine(In_no _ _ _ _ H.o).mono ?_;rintro r wx ⟨rfl,rfl⟩;exact m102_):P:=h
section
variable(w:World) (l:LinkV)
include w l
theorem zl_(H:Hid (l.e<0∨1048576<l.e)):
 Calls Tryz.prog 105 #[l.val] w (R_ w (.bool false)):=by
 obtain⟨e,n,sA,sc,s,qA,qc,q,h⟩:=l;dsimp only at*;go_enter Tryz.func105,Tryz.ntmps105
 exact m265_
theorem zm_(a1:0≤l.e)(a2:l.e≤1048576)(H:Hid (l.n<1∨1048576<l.n)):
 Calls Tryz.prog 105 #[l.val] w (R_ w (.bool false)):=by
 obtain⟨e,n,sA,sc,s,qA,qc,q,h⟩:=l;dsimp only at*;go_enter Tryz.func105,Tryz.ntmps105
 go_wp2_with fail
 refine(m_ _ _ _ _ a1 a2).mono ?_;rintro r wx ⟨rfl,rfl⟩;exact m265_
theorem zn_(a1:0≤l.e)(a2:l.e≤1048576)(a3:1≤l.n)(a4:l.n≤1048576)(H:Hid (l.h<0∨1048576<l.h)):
 Calls Tryz.prog 105 #[l.val] w (R_ w (.bool false)):=by
 obtain⟨e,n,sA,sc,s,qA,qc,q,h⟩:=l;dsimp only at*;go_enter Tryz.func105,Tryz.ntmps105
 go_wp2_with fail
 refine(m_ _ _ _ _ a1 a2).mono ?_;rintro r wx ⟨rfl,rfl⟩;go_wp2_with fail
 refine(m_ _ _ _ _ a3 a4).mono ?_;rintro r wx ⟨rfl,rfl⟩;exact m265_
theorem ug_(hn:linkNums l)(hl: ¬linkLens l):
 Calls Tryz.prog 105 #[l.val] w (R_ w (.bool false)):=by
 obtain⟨⟨a1,a2⟩,⟨a3,a4⟩,⟨a5,a6⟩⟩:=hn;have H:=h_ hl;unfold linkLens at H;clear hl;obtain⟨e,n,sA,sc,s,qA,qc,q,h⟩:=l;dsimp only at*;have k98_:K_ (∀(P:Prop) (h:P:=by
 go_wp2_with fail
 all_goals(first | (go_ret;exact⟨rfl,bz_⟩) | (exfalso;have:=H.o;(try simp only [bne_eq_false_iff_eq,←List.length_eq_zero_iff]at*);omega))
 ),P):=⟨@q6_⟩
 exact m98_
theorem uh_(hn:linkNums l)(hl:linkLens l)(hno: ¬linkNone l):
 Calls Tryz.prog 105 #[l.val] w (R_ w (.bool false)):=by
 obtain⟨⟨a1,a2⟩,⟨a3,a4⟩,⟨a5,a6⟩⟩:=hn;have H:=h_ hl;have HN:=h_ (show l.e=0∧ ¬(l.s.length=0∧l.h=0) by unfold linkNone at hno;exact Classical.not_imp.1 hno);unfold linkLens at H;clear hl hno;obtain⟨e,n,sA,sc,s,qA,qc,q,h⟩:=l;dsimp only at*;have k98_:K_ (∀(P:Prop) (h:P:=by
 go_wp2_with fail
 all_goals(first | (go_ret;exact⟨rfl,bz_⟩) | (exfalso;have:=H.o;have:=HN.o;(try simp only [bne_eq_false_iff_eq,←List.length_eq_zero_iff]at*);omega))
 ),P):=⟨@q6_⟩
 exact m98_
section
variable(a1:0≤l.e) (a2:l.e≤1048576) (a3:1≤l.n) (a4:l.n≤1048576) (a5:0≤l.h) (a6:l.h≤1048576)
include a1 a2 a3 a4 a5 a6
theorem tu_(_k1:decide ((8:Int)<(l.s.length:Int))=false)(_k2:decide (l.n - 1<(l.s.length:Int))=false)(_k3:decide (0<l.q.length)=false)(_k5:(l.e==0)=false)(HT:Hid (Tabs w))(HI:Hid (l.In w))(h1:Hid (∀W,Tabs W→FramesIn W l.sA l.s→Calls Tryz.prog 129 #[.slice l.sA l.s.length l.sc] W (R_ W (.bool false)))):
 Calls Tryz.prog 105 #[l.val] w (R_ w (.bool false)):=by
 obtain⟨e,n,sA,sc,s,qA,qc,q,h⟩:=l;dsimp only at*;exact m144_
theorem tv_(_k1:decide ((8:Int)<(l.s.length:Int))=false)(_k2:decide (l.n - 1<(l.s.length:Int))=false)(_k3:decide (0<l.q.length)=false)(k5:l.e=0)(_k6:decide (0<l.s.length)=false)(_k7:decide (0<l.h)=false)(HT:Hid (Tabs w))(HI:Hid (l.In w))(h1:Hid (∀W,Tabs W→FramesIn W l.sA l.s→Calls Tryz.prog 129 #[.slice l.sA l.s.length l.sc] W (R_ W (.bool false)))):
 Calls Tryz.prog 105 #[l.val] w (R_ w (.bool false)):=by
 obtain⟨e,n,sA,sc,s,qA,qc,q,h⟩:=l;dsimp only at*;subst k5;exact m144_
theorem tw_(_k1:decide ((8:Int)<(l.s.length:Int))=false)(_k2:decide (l.n - 1<(l.s.length:Int))=false)(_k3:decide (0<l.q.length)=true)(_k4:((l.s.length:Int) !=8)=false)(_k5:(l.e==0)=false)(HT:Hid (Tabs w))(HI:Hid (l.In w))(h1:Hid (∀W,Tabs W→FramesIn W l.sA l.s→Calls Tryz.prog 129 #[.slice l.sA l.s.length l.sc] W (R_ W (.bool false)))):
 Calls Tryz.prog 105 #[l.val] w (R_ w (.bool false)):=by
 obtain⟨e,n,sA,sc,s,qA,qc,q,h⟩:=l;dsimp only at*;exact m144_
theorem tx_(_k1:decide ((8:Int)<(l.s.length:Int))=false)(_k2:decide (l.n - 1<(l.s.length:Int))=false)(_k3:decide (0<l.q.length)=true)(_k4:((l.s.length:Int) !=8)=false)(k5:l.e=0)(_k6:decide (0<l.s.length)=false)(_k7:decide (0<l.h)=false)(HT:Hid (Tabs w))(HI:Hid (l.In w))(h1:Hid (∀W,Tabs W→FramesIn W l.sA l.s→Calls Tryz.prog 129 #[.slice l.sA l.s.length l.sc] W (R_ W (.bool false)))):
 Calls Tryz.prog 105 #[l.val] w (R_ w (.bool false)):=by
 obtain⟨e,n,sA,sc,s,qA,qc,q,h⟩:=l;dsimp only at*;subst k5;exact m144_
end
theorem zi_(hn:linkNums l)(hl:linkLens l)(hno:linkNone l)(hT:Tabs w)(hi:l.In w)(h1:Hid (∀W,Tabs W→FramesIn W l.sA l.s→Calls Tryz.prog 129 #[.slice l.sA l.s.length l.sc] W (R_ W (.bool false)))):
 Calls Tryz.prog 105 #[l.val] w (R_ w (.bool false)):=by
 have vCA:=h_ trivial;exact m127_
section
variable(a1:0≤l.e) (a2:l.e≤1048576) (a3:1≤l.n) (a4:l.n≤1048576) (a5:0≤l.h) (a6:l.h≤1048576)
include a1 a2 a3 a4 a5 a6
theorem ty_(_k1:decide ((8:Int)<(l.s.length:Int))=false)(_k2:decide (l.n - 1<(l.s.length:Int))=false)(_k3:decide (0<l.q.length)=false)(_k5:(l.e==0)=false)(HT:Hid (Tabs w))(HI:Hid (l.In w))(h1:Hid (∀W,Tabs W→FramesIn W l.sA l.s→Calls Tryz.prog 129 #[.slice l.sA l.s.length l.sc] W (R_ W (.bool true))))(h2:Hid (∀W,Tabs W→FramesIn W l.qA l.q→Calls Tryz.prog 129 #[.slice l.qA l.q.length l.qc] W (R_ W (.bool false)))):
 Calls Tryz.prog 105 #[l.val] w (R_ w (.bool false)):=by
 exact m249_
theorem tz_(_k1:decide ((8:Int)<(l.s.length:Int))=false)(_k2:decide (l.n - 1<(l.s.length:Int))=false)(_k3:decide (0<l.q.length)=false)(k5:l.e=0)(_k6:decide (0<l.s.length)=false)(_k7:decide (0<l.h)=false)(HT:Hid (Tabs w))(HI:Hid (l.In w))(h1:Hid (∀W,Tabs W→FramesIn W l.sA l.s→Calls Tryz.prog 129 #[.slice l.sA l.s.length l.sc] W (R_ W (.bool true))))(h2:Hid (∀W,Tabs W→FramesIn W l.qA l.q→Calls Tryz.prog 129 #[.slice l.qA l.q.length l.qc] W (R_ W (.bool false)))):
 Calls Tryz.prog 105 #[l.val] w (R_ w (.bool false)):=by
 exact m228_
theorem ua_(_k1:decide ((8:Int)<(l.s.length:Int))=false)(_k2:decide (l.n - 1<(l.s.length:Int))=false)(_k3:decide (0<l.q.length)=true)(_k4:((l.s.length:Int) !=8)=false)(_k5:(l.e==0)=false)(HT:Hid (Tabs w))(HI:Hid (l.In w))(h1:Hid (∀W,Tabs W→FramesIn W l.sA l.s→Calls Tryz.prog 129 #[.slice l.sA l.s.length l.sc] W (R_ W (.bool true))))(h2:Hid (∀W,Tabs W→FramesIn W l.qA l.q→Calls Tryz.prog 129 #[.slice l.qA l.q.length l.qc] W (R_ W (.bool false)))):
 Calls Tryz.prog 105 #[l.val] w (R_ w (.bool false)):=by
 exact m249_
theorem ub_(_k1:decide ((8:Int)<(l.s.length:Int))=false)(_k2:decide (l.n - 1<(l.s.length:Int))=false)(_k3:decide (0<l.q.length)=true)(_k4:((l.s.length:Int) !=8)=false)(k5:l.e=0)(_k6:decide (0<l.s.length)=false)(_k7:decide (0<l.h)=false)(HT:Hid (Tabs w))(HI:Hid (l.In w))(h1:Hid (∀W,Tabs W→FramesIn W l.sA l.s→Calls Tryz.prog 129 #[.slice l.sA l.s.length l.sc] W (R_ W (.bool true))))(h2:Hid (∀W,Tabs W→FramesIn W l.qA l.q→Calls Tryz.prog 129 #[.slice l.qA l.q.length l.qc] W (R_ W (.bool false)))):
 Calls Tryz.prog 105 #[l.val] w (R_ w (.bool false)):=by
 exact m228_
end
theorem zj_(hn:linkNums l)(hl:linkLens l)(hno:linkNone l)(hT:Tabs w)(hi:l.In w)(h1:Hid (∀W,Tabs W→FramesIn W l.sA l.s→Calls Tryz.prog 129 #[.slice l.sA l.s.length l.sc] W (R_ W (.bool true))))(h2:Hid (∀W,Tabs W→FramesIn W l.qA l.q→Calls Tryz.prog 129 #[.slice l.qA l.q.length l.qc] W (R_ W (.bool false)))):
 Calls Tryz.prog 105 #[l.val] w (R_ w (.bool false)):=by
 exact m127_
section
variable(a1:0≤l.e) (a2:l.e≤1048576) (a3:1≤l.n) (a4:l.n≤1048576) (a5:0≤l.h) (a6:l.h≤1048576)
include a1 a2 a3 a4 a5 a6
theorem uc_(_k1:decide ((8:Int)<(l.s.length:Int))=false)(_k2:decide (l.n - 1<(l.s.length:Int))=false)(_k3:decide (0<l.q.length)=false)(_k5:(l.e==0)=false)(HT:Hid (Tabs w))(HI:Hid (l.In w))(h1:Hid (∀W,Tabs W→FramesIn W l.sA l.s→Calls Tryz.prog 129 #[.slice l.sA l.s.length l.sc] W (R_ W (.bool true))))(h2:Hid (∀W,Tabs W→FramesIn W l.qA l.q→Calls Tryz.prog 129 #[.slice l.qA l.q.length l.qc] W (R_ W (.bool true)))):
 Calls Tryz.prog 105 #[l.val] w (R_ w (.bool true)):=by
 exact m249_
theorem ud_(_k1:decide ((8:Int)<(l.s.length:Int))=false)(_k2:decide (l.n - 1<(l.s.length:Int))=false)(_k3:decide (0<l.q.length)=false)(k5:l.e=0)(_k6:decide (0<l.s.length)=false)(_k7:decide (0<l.h)=false)(HT:Hid (Tabs w))(HI:Hid (l.In w))(h1:Hid (∀W,Tabs W→FramesIn W l.sA l.s→Calls Tryz.prog 129 #[.slice l.sA l.s.length l.sc] W (R_ W (.bool true))))(h2:Hid (∀W,Tabs W→FramesIn W l.qA l.q→Calls Tryz.prog 129 #[.slice l.qA l.q.length l.qc] W (R_ W (.bool true)))):
 Calls Tryz.prog 105 #[l.val] w (R_ w (.bool true)):=by
 exact m228_
theorem ue_(_k1:decide ((8:Int)<(l.s.length:Int))=false)(_k2:decide (l.n - 1<(l.s.length:Int))=false)(_k3:decide (0<l.q.length)=true)(_k4:((l.s.length:Int) !=8)=false)(_k5:(l.e==0)=false)(HT:Hid (Tabs w))(HI:Hid (l.In w))(h1:Hid (∀W,Tabs W→FramesIn W l.sA l.s→Calls Tryz.prog 129 #[.slice l.sA l.s.length l.sc] W (R_ W (.bool true))))(h2:Hid (∀W,Tabs W→FramesIn W l.qA l.q→Calls Tryz.prog 129 #[.slice l.qA l.q.length l.qc] W (R_ W (.bool true)))):
 Calls Tryz.prog 105 #[l.val] w (R_ w (.bool true)):=by
 exact m249_
theorem uf_(_k1:decide ((8:Int)<(l.s.length:Int))=false)(_k2:decide (l.n - 1<(l.s.length:Int))=false)(_k3:decide (0<l.q.length)=true)(_k4:((l.s.length:Int) !=8)=false)(k5:l.e=0)(_k6:decide (0<l.s.length)=false)(_k7:decide (0<l.h)=false)(HT:Hid (Tabs w))(HI:Hid (l.In w))(h1:Hid (∀W,Tabs W→FramesIn W l.sA l.s→Calls Tryz.prog 129 #[.slice l.sA l.s.length l.sc] W (R_ W (.bool true))))(h2:Hid (∀W,Tabs W→FramesIn W l.qA l.q→Calls Tryz.prog 129 #[.slice l.qA l.q.length l.qc] W (R_ W (.bool true)))):
 Calls Tryz.prog 105 #[l.val] w (R_ w (.bool true)):=by
 exact m228_
end
theorem zk_(hn:linkNums l)(hl:linkLens l)(hno:linkNone l)(hT:Tabs w)(hi:l.In w)(h1:Hid (∀W,Tabs W→FramesIn W l.sA l.s→Calls Tryz.prog 129 #[.slice l.sA l.s.length l.sc] W (R_ W (.bool true))))(h2:Hid (∀W,Tabs W→FramesIn W l.qA l.q→Calls Tryz.prog 129 #[.slice l.qA l.q.length l.qc] W (R_ W (.bool true)))):
 Calls Tryz.prog 105 #[l.val] w (R_ w (.bool true)):=by
 have vBZ:=h_ trivial;exact m127_
theorem ch_(hT:Tabs w)(hi:l.In w)(hm:l.Small):
 Calls Tryz.prog 105 #[l.val] w (R_ w (.bool (decide (linkMay l)))):=by
 have g1:=fun W hT hs=>lq_ W l.sA l.sc l.s hT hs hm.sl hm.s;have g2:=fun W hT hs=>lq_ W l.qA l.qc l.q hT hs hm.ql hm.q;by_cases hn:linkNums l
 ·by_cases hl:linkLens l
  ·by_cases hno:linkNone l
   ·by_cases f1:framesOk l.s
    ·rw [decide_eq_true f1]at g1;by_cases f2:framesOk l.q
     ·rw [decide_eq_true f2]at g2;rw [decide_eq_true (show linkMay l from⟨hn,hl,⟨f1,f2⟩,hno⟩)];exact zk_ w l hn hl hno hT hi g1 g2
     ·rw [decide_eq_false f2]at g2;rw [decide_eq_false (show¬linkMay l from fun q=>f2 q.2.2.1.2)];exact zj_ w l hn hl hno hT hi g1 g2
    ·rw [decide_eq_false f1]at g1;rw [decide_eq_false (show¬linkMay l from fun q=>f1 q.2.2.1.1)];exact zi_ w l hn hl hno hT hi g1
   ·rw [decide_eq_false (show¬linkMay l from fun q=>hno q.2.2.2)];exact uh_ w l hn hl hno
  ·rw [decide_eq_false (show¬linkMay l from fun q=>hl q.2.1)];exact ug_ w l hn hl
 ·rw [decide_eq_false (show¬linkMay l from fun q=>hn q.1)];by_cases q1:l.e<0∨1048576<l.e
  ·exact zl_ w l q1
  ·by_cases q2:l.n<1∨1048576<l.n
   ·exact zm_ w l (by omega) (by omega) q2
   ·exact zn_ w l (by omega) (by omega) (by omega) (by omega) (h_ (by unfold linkNums at hn;omega))
end
end Go.Proofs.YtacacoklddogmaaGreatDoor
