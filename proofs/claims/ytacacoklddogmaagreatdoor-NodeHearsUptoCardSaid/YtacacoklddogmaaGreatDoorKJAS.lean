/- Lemmas. -/
import Derived.Test.YtacacoklddogmaaGreatDoorKSendX
import Derived.Test.YtacacoklddogmaaGreatDoorKFramed
import Derived.Test.YtacacoklddogmaaGreatDoorKJBB
import Derived.BigRegion
namespace Go.Proofs.YtacacoklddogmaaGreatDoor
set_option maxHeartbeats 4000000
open Go.ChangeShapes Go.WideShapes Go.ChangeAt Go.RowKit
set_option maxRecDepth 100000
theorem bcm_(w:World)(l:LinkV)(f:FrameV)(hT:Tabs w)(hi:l.In w)(hm:l.Small)(hf:OpIn (· <w.heap.size) w f.o.A f.o.ps)(hfm:f.Small)(her:sendE l f.d≠0):
 Calls Tryz.prog 81 #[l.val,frameV f.k f.h f.e f.o.A f.o.ps.length f.o.c f.s] w (RetSend w zeroL.d [] (sendE l f.d)):=by
 by_cases c1:linkMay l
 ·by_cases c2:l.e=0
  ·rw [show sendE l f.d=12 by unfold sendE;rw [if_neg (by simpa using c1),if_pos c2]];exact bbq_ w l f hT hi hm c1 c2
  ·by_cases c3:frameFault f.d=0
   ·by_cases c4:l.n=1048576
    ·rw [show sendE l f.d=8 by unfold sendE;rw [if_neg (by simpa using c1),if_neg c2,if_neg (by simpa using c3),if_pos c4]];exact bbr_ w l f hT hi hm hf hfm c1 c2 c3 c4
    ·exact absurd (by unfold sendE;rw [if_neg (by simpa using c1),if_neg c2,if_neg (by simpa using c3),if_neg c4]) her
   ·rw [show sendE l f.d=frameFault f.d by unfold sendE;rw [if_neg (by simpa using c1),if_neg c2,if_pos c3]];exact zt_ w l f hT hi hm hf hfm c1 c2 _ rfl c3
 ·rw [show sendE l f.d=9 by unfold sendE;rw [if_pos c1]];exact zu_ w l f hT hi hm c1
theorem oq_(w:World)(base X:Nat)(n:NodeV)(A:OA_)(c:Nat)(L:List PostV)(R:Value)(ex:List (Option Nat))(s:Nat)(hs:s<n.S.length)(f:FrameV)(hT:Tabs w)(h:BusyX 35 w base X n A c L R ex)(hm:n.S[s].k.Small)(hf:OpIn (· <w.heap.size) w f.o.A f.o.ps)(hfm:f.Small)
 (her:sendE n.S[s].k f.d≠0):
 Calls Tryz.prog 41 #[.pointer (some ⟨X,0,none⟩),.int .i64 s,frameV f.k f.h f.e f.o.A f.o.ps.length f.o.c f.s] w (R_ w (.tuple #[])):=by
 have vAK:=h_ trivial;exact m24_
section
variable(w:World) (l:LinkV) (p:PacketV) (hT:Tabs w) (hi:l.In w) (hm:l.Small) (hf:OpIn (· <w.heap.size) w p.f.o.A p.f.o.ps) (hfm:p.f.Small) (hk:linkMay l) (he:packetFault p.d=0) (h0:l.e≠0) (h1:p.ep=l.e)
include w l p hT hi hm hf hfm hk he h0 h1
theorem beg_(hA:p.ak<l.n - l.s.length)(hb:p.b=true):
 Calls Tryz.prog 79 #[l.val,packetV p.ep p.nu p.b p.ak p.f.k p.f.h p.f.e p.f.o.A p.f.o.ps.length p.f.o.c p.f.s] w (RetLHear w (fillL ⟨l.e,l.n,(l.s.map FrameV.d),l.q.map FrameV.d,l.h⟩) zeroF.d false (fillP ⟨l.e,l.n,(l.s.map FrameV.d),l.q.map FrameV.d,l.h⟩) 0):=by
 exact m6_
theorem bek_(hA:l.n - l.s.length≤p.ak∧l.n≤p.ak)(hb:p.b=true):
 Calls Tryz.prog 79 #[l.val,packetV p.ep p.nu p.b p.ak p.f.k p.f.h p.f.e p.f.o.A p.f.o.ps.length p.f.o.c p.f.s] w (RetLHear w (fillL ⟨l.e,l.n,(l.s.map FrameV.d),l.q.map FrameV.d,l.h⟩) zeroF.d false (fillP ⟨l.e,l.n,(l.s.map FrameV.d),l.q.map FrameV.d,l.h⟩) 0):=by
 have vK:=h_ trivial;exact m6_
end
end Go.Proofs.YtacacoklddogmaaGreatDoor
