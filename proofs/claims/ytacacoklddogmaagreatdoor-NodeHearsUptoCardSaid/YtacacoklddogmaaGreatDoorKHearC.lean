/- Lemmas. -/
import Derived.Test.YtacacoklddogmaaGreatDoorKNHear
import Derived.Test.YtacacoklddogmaaGreatDoorKNHeardV1
import Derived.Test.YtacacoklddogmaaGreatDoorKNHeardV2
import Derived.Test.YtacacoklddogmaaGreatDoorKNHeardV3
import Derived.Test.YtacacoklddogmaaGreatDoorKNHeardV4
namespace Go.Proofs.YtacacoklddogmaaGreatDoor
set_option maxHeartbeats 4000000
open Go.ChangeShapes Go.WideShapes Go.ChangeAt Go.RowKit
section
variable(w:World) (T:OA_) (N Nc:Nat) (zs:List Int) (n:NodeV) (hT:Tabs w) (hi:n.In w) (hm:n.Small) (hz:Sl (· <w.heap.size) w 1 T N (zs.map (Value.int .i64))) (hN:N<=9223372036854775807) (q:Int) (p:PacketV) (hf:OpIn (· <w.heap.size) w p.f.o.A p.f.o.ps) (hfm:p.f.Small)
include hT hi hm hz hN hf hfm
theorem bgm_:Calls Tryz.prog 14 #[.slice T N Nc,n.val,.int .i64 q,packetV p.ep p.nu p.b p.ak p.f.k p.f.h p.f.e p.f.o.A p.f.o.ps.length p.f.o.c p.f.s] w (RetTurnS w (hnAll zs n q p.d).1 (hnAll zs n q p.d).2):=by
 unfold hnAll;by_cases h0:nodeFault zs n=0
 ·rw [if_pos h0];by_cases h1:packetFault p.d=0
  ·rw [if_pos h1];by_cases h2:hnI n.d q<n.d.S.length
   ·rw [if_pos h2];obtain⟨hlt,hp,hfirst⟩:=ou_ h2;exact(ben_ w T N Nc zs n hT hi hm hz hN q p hf hfm h0 h1 _ hlt hp hfirst).mono fun _ _ h=>h.s
   ·rw [if_neg h2];exact(zo_ w T N Nc zs n hT hi hm hz hN q p hf hfm h0 h1 (bcg_ h2)).mono fun _ _ h=>h.s
  ·rw [if_neg h1];exact(ui_ w T N Nc zs n hT hi hm hz hN q p hf hfm h0 _ rfl (by simpa using h1)).mono fun _ _ h=>h.s
 ·rw [if_neg h0];exact(xc_ w T N Nc zs n hT hi hm hz hN q p hf hfm _ rfl (by simpa using h0)).mono fun _ _ h=>h.s
theorem beo_:Calls Tryz.prog 15 #[.slice T N Nc,n.val,.int .i64 q,packetV p.ep p.nu p.b p.ak p.f.k p.f.h p.f.e p.f.o.A p.f.o.ps.length p.f.o.c p.f.s] w (RetTurnS w (hnAll zs n q p.d).1 (hnAll zs n q p.d).2):=by
 have hs:=bgw_ (zs:=zs) (n:=n) (q:=q) (p:=p.d) rfl;generalize hE:(if nodeFault zs n=0 then packetFault p.d else nodeFault zs n)=E at hs;by_cases h1:E=0-> ∀i:Nat,LastAt n.S q n.S.length i->hnSess n.d i p.d∨(¬hnPar n.d i∧p.d.epoch<=(n.d.S.getD i default).k.e)
 ·exact(bbi_ w T N Nc zs n hT hi hm hz hN q p hf hfm E hE _ _ hs h1).mono fun _ _ h=>h.s
 ·obtain⟨hE0,i,hl,hx⟩:E=0∧ ∃i:Nat,LastAt n.S q n.S.length i∧ ¬(hnSess n.d i p.d∨(¬hnPar n.d i∧p.d.epoch<=(n.d.S.getD i default).k.e)):=by
   apply Classical.byContradiction;intro hc;exact h1 fun e0 i hl=>Classical.byContradiction fun hn=>hc ⟨e0,i,hl,hn⟩
  have hu: ∀a,LastAt n.S q n.S.length a->a=(i:Int):=fun a ha=>by
   rcases hl with⟨e1,_⟩ | ⟨m,hm1,hm2,e1,e2,e3⟩
   ·omega
   ·rcases ha with⟨g1,g2⟩ | ⟨k,hk1,hk2,g1,g2,g3⟩
    ·exact absurd e2 (g2 m hm1 hm2)
    ·have:m=k:=by
      rcases Nat.lt_trichotomy m k with t | t | t
      ·exact absurd g2 (e3 k hk1 t hk2)
      ·exact t
      ·exact absurd e2 (g3 m hm1 t hm2)
     omega
  have hns: ¬hnSess n.d i p.d:=fun k=>hx (.inl k);by_cases hp:hnPar n.d i
  ·exact(bbj_ w T N Nc zs n hT hi hm hz hN q p hf hfm E hE _ _ hs ⟨hE0,fun a ha=>⟨i,hu a ha,hns,hp⟩⟩).mono fun _ _ h=>h.s
  ·have hle: ¬p.d.epoch<=(n.d.S.getD i default).k.e:=fun k=>hx (.inr ⟨hp,k⟩);by_cases hj:hnJoin n.d p.d
   ·exact(bbl_ w T N Nc zs n hT hi hm hz hN q p hf hfm E hE _ _ hs ⟨hE0,fun a ha=>⟨i,hu a ha,hns,hp,hle,hj⟩⟩).mono fun _ _ h=>h.s
   ·exact(bbk_ w T N Nc zs n hT hi hm hz hN q p hf hfm E hE _ _ hs ⟨hE0,fun a ha=>⟨i,hu a ha,hns,hp,hle,hj⟩⟩).mono fun _ _ h=>h.s
end
end Go.Proofs.YtacacoklddogmaaGreatDoor
