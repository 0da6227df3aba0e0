/- Lemmas. -/
import Derived.Test.YtacacoklddogmaaGreatDoorKBC
namespace Go.Proofs.YtacacoklddogmaaGreatDoor
set_option maxHeartbeats 4000000
open Go.ChangeShapes Go.WideShapes Go.ChangeAt Go.RowKit
set_option maxRecDepth 100000
theorem m107_{P:Prop}(h:P:=by
 obtain⟨⟨a1,a2⟩,⟨a3,a4⟩,⟨a5,a6⟩⟩:=hn;have l1:=hl.1;have H:=h_ hl;unfold linkLens at H;have HI:=h_ hi;have HT:=h_ hT;clear hi hT hl;have HN:=h_ hno;unfold linkNone at HN;clear hno;obtain⟨e,n,sA,sc,s,qA,qc,q,h⟩:=l;dsimp only at*;go_enter Tryz.func110,Tryz.ntmps110
 go_wp2_with fail
 all_goals(first | (exfalso;have:=H.o;omega) | skip)
 all_goals
  refine(h1.o _ (HT.o.la bz_) (HI.o.s.la bz_)).mono ?_;rintro r w1 ⟨rfl,hb1⟩;have x3:=ct_ hb1 3;simp at x3;go_wp2_with fail
  refine(h2.o _ (HT.o.la (y_ hb1)) (HI.o.q.la (y_ hb1))).mono ?_;rintro r w2 ⟨rfl,hb2⟩;have hlt1:w.heap.size<w1.heap.size:=by have:=hb1.size;simp at this;omega
  have y0:=(hb2.cell (p:=⟨w.heap.size,0,none⟩) hlt1).trans (ct_ hb1 0);have y2:=(hb2.cell (p:=⟨w.heap.size,2,none⟩) hlt1).trans (ct_ hb1 2);have y4:=(hb2.cell (p:=⟨w.heap.size,4,none⟩) hlt1).trans (ct_ hb1 4);simp at y0 y2 y4;have HB:=h_ (bThen (y_ hb1) hb2);clear hb1 hb2 x3;go_wp2_with fail
  all_goals(first | (exfalso;have:=HN.o;omega) | (go_ret;exact⟨rfl,HB.o⟩))):P:=h
section
variable(w:World) (l:LinkV) (hn:linkNums l) (hl:linkLens l)
include w l hn hl
theorem tq_(hT:Tabs w)(hi:l.In w)(h1:Hid (∀W,Tabs W→FramesIn W l.sA l.s→Calls Tryz.prog 130 #[.slice l.sA l.s.length l.sc] W (R_ W (.bool false)))):
 Calls Tryz.prog 110 #[l.val] w (R_ w (.int .i64 9)):=by
 obtain⟨⟨a1,a2⟩,⟨a3,a4⟩,⟨a5,a6⟩⟩:=hn;have H:=h_ hl;unfold linkLens at H;have HI:=h_ hi;have HT:=h_ hT;clear hi hT hl;obtain⟨e,n,sA,sc,s,qA,qc,q,h⟩:=l;dsimp only at*;go_enter Tryz.func110,Tryz.ntmps110
 go_wp2_with fail
 all_goals(first | (exfalso;have:=H.o;omega) | skip)
 all_goals
  refine(h1.o _ (HT.o.la bz_) (HI.o.s.la bz_)).mono ?_;rintro r w1 ⟨rfl,hb1⟩;go_wp2_with fail
  go_ret
  exact⟨rfl,y_ hb1⟩
theorem tr_(hT:Tabs w)(hi:l.In w)(h1:Hid (∀W,Tabs W→FramesIn W l.sA l.s→Calls Tryz.prog 130 #[.slice l.sA l.s.length l.sc] W (R_ W (.bool true))))(h2:Hid (∀W,Tabs W→FramesIn W l.qA l.q→Calls Tryz.prog 130 #[.slice l.qA l.q.length l.qc] W (R_ W (.bool false)))):
 Calls Tryz.prog 110 #[l.val] w (R_ w (.int .i64 9)):=by
 obtain⟨⟨a1,a2⟩,⟨a3,a4⟩,⟨a5,a6⟩⟩:=hn;have l1:=hl.1;have H:=h_ hl;unfold linkLens at H;have HI:=h_ hi;have HT:=h_ hT;clear hi hT hl;obtain⟨e,n,sA,sc,s,qA,qc,q,h⟩:=l;dsimp only at*;go_enter Tryz.func110,Tryz.ntmps110
 go_wp2_with fail
 all_goals(first | (exfalso;have:=H.o;omega) | skip)
 all_goals
  refine(h1.o _ (HT.o.la bz_) (HI.o.s.la bz_)).mono ?_;rintro r w1 ⟨rfl,hb1⟩;have x3:=ct_ hb1 3;simp at x3;go_wp2_with fail
  refine(h2.o _ (HT.o.la (y_ hb1)) (HI.o.q.la (y_ hb1))).mono ?_;rintro r w2 ⟨rfl,hb2⟩;go_wp2_with fail
  go_ret
  exact⟨rfl,bThen (y_ hb1) hb2⟩
theorem ts_(hno: ¬linkNone l)(hT:Tabs w)(hi:l.In w)(h1:Hid (∀W,Tabs W→FramesIn W l.sA l.s→Calls Tryz.prog 130 #[.slice l.sA l.s.length l.sc] W (R_ W (.bool true))))(h2:Hid (∀W,Tabs W→FramesIn W l.qA l.q→Calls Tryz.prog 130 #[.slice l.qA l.q.length l.qc] W (R_ W (.bool true)))):
 Calls Tryz.prog 110 #[l.val] w (R_ w (.int .i64 9)):=by
 exact m107_
theorem tt_(hno:linkNone l)(hT:Tabs w)(hi:l.In w)(h1:Hid (∀W,Tabs W→FramesIn W l.sA l.s→Calls Tryz.prog 130 #[.slice l.sA l.s.length l.sc] W (R_ W (.bool true))))(h2:Hid (∀W,Tabs W→FramesIn W l.qA l.q→Calls Tryz.prog 130 #[.slice l.qA l.q.length l.qc] W (R_ W (.bool true)))):
 Calls Tryz.prog 110 #[l.val] w (R_ w (.int .i64 0)):=by
 exact m107_
end
theorem bw_(w:World)(l:LinkV)(hT:Tabs w)(hi:l.In w)(hm:l.Small):
 Calls Tryz.prog 110 #[l.val] w (R_ w (.int .i64 (if linkMay l then 0 else 9))):=by
 have g1:=fun W hT hs=>kh_ W l.sA l.sc l.s hT hs hm.sl hm.s;have g2:=fun W hT hs=>kh_ W l.qA l.qc l.q hT hs hm.ql hm.q;by_cases hn:linkNums l
 ·by_cases hl:linkLens l
  ·by_cases f1:framesOk l.s
   ·rw [decide_eq_true f1]at g1;by_cases f2:framesOk l.q
    ·rw [decide_eq_true f2]at g2;by_cases hno:linkNone l
     ·rw [if_pos ⟨hn,hl,⟨f1,f2⟩,hno⟩];exact tt_ w l hn hl hno hT hi g1 g2
     ·rw [if_neg (fun q=>hno q.2.2.2)];exact ts_ w l hn hl hno hT hi g1 g2
    ·rw [decide_eq_false f2]at g2;rw [if_neg (fun q=>f2 q.2.2.1.2)];exact tr_ w l hn hl hT hi g1 g2
   ·rw [decide_eq_false f1]at g1;rw [if_neg (fun q=>f1 q.2.2.1.1)];exact tq_ w l hn hl hT hi g1
  ·rw [if_neg (fun q=>hl q.2.1)];exact qc_ w l hn hl
 ·rw [if_neg (fun q=>hn q.1)];exact qd_ w l hn
end Go.Proofs.YtacacoklddogmaaGreatDoor
