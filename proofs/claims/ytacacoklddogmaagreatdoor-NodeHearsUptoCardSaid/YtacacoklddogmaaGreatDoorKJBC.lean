/- Lemmas. -/
import Derived.Test.YtacacoklddogmaaGreatDoorKJBB
import Derived.BigRegion
namespace Go.Proofs.YtacacoklddogmaaGreatDoor
set_option maxHeartbeats 4000000
open Go.ChangeShapes Go.WideShapes Go.ChangeAt Go.RowKit
set_option maxRecDepth 100000
theorem m5_{P:Prop}(h:P:=by
 exact m47_):P:=h
section
variable(w:World) (l:LinkV) (p:PacketV) (hT:Tabs w) (hi:l.In w) (hm:l.Small) (hf:OpIn (· <w.heap.size) w p.f.o.A p.f.o.ps) (hfm:p.f.Small) (hk:linkMay l) (he:packetFault p.d=0) (h0:l.e≠0) (h1:p.ep=l.e)
include w l p hT hi hm hf hfm hk he h0 h1
theorem bgc_(K:Nat)(hK:(K:Int)=p.ak - (l.n - l.s.length)+1∧1≤K∧K≤l.s.length)(hb:p.b=true):
 Calls Tryz.prog 73 #[l.val,packetV p.ep p.nu p.b p.ak p.f.k p.f.h p.f.e p.f.o.A p.f.o.ps.length p.f.o.c p.f.s] w (RetLHear w (fillL ⟨l.e,l.n,((l.s.map FrameV.d).drop K),l.q.map FrameV.d,l.h⟩) zeroF.d false (fillP ⟨l.e,l.n,((l.s.map FrameV.d).drop K),l.q.map FrameV.d,l.h⟩) 0):=by
 have vT:=h_ trivial;exact m10_
theorem bgi_(hA:p.ak<l.n - l.s.length)(hb:p.b=false)(hn:p.nu=l.h+1)(hh:l.h<1048576):
 Calls Tryz.prog 73 #[l.val,packetV p.ep p.nu p.b p.ak p.f.k p.f.h p.f.e p.f.o.A p.f.o.ps.length p.f.o.c p.f.s] w (RetLHear w (fillL ⟨l.e,l.n,(l.s.map FrameV.d),l.q.map FrameV.d,(l.h+1)⟩) p.f.d true (fillP ⟨l.e,l.n,(l.s.map FrameV.d),l.q.map FrameV.d,(l.h+1)⟩++ [bareX ⟨l.e,l.n,(l.s.map FrameV.d),l.q.map FrameV.d,(l.h+1)⟩]) 0):=by
 exact m5_
section
variable(hA:l.n - l.s.length≤p.ak∧l.n≤p.ak) (hb:p.b=false)
include hA hb
theorem bgl_(hn:p.nu=l.h+1)(hh:l.h<1048576):
 Calls Tryz.prog 73 #[l.val,packetV p.ep p.nu p.b p.ak p.f.k p.f.h p.f.e p.f.o.A p.f.o.ps.length p.f.o.c p.f.s] w (RetLHear w (fillL ⟨l.e,l.n,(l.s.map FrameV.d),l.q.map FrameV.d,(l.h+1)⟩) p.f.d true (fillP ⟨l.e,l.n,(l.s.map FrameV.d),l.q.map FrameV.d,(l.h+1)⟩++ [bareX ⟨l.e,l.n,(l.s.map FrameV.d),l.q.map FrameV.d,(l.h+1)⟩]) 0):=by
 have vI:=h_ trivial;exact m5_
theorem bel_(hn:p.nu≠l.h+1):
 Calls Tryz.prog 79 #[l.val,packetV p.ep p.nu p.b p.ak p.f.k p.f.h p.f.e p.f.o.A p.f.o.ps.length p.f.o.c p.f.s] w (RetLHear w (fillL ⟨l.e,l.n,(l.s.map FrameV.d),l.q.map FrameV.d,l.h⟩) zeroF.d false (fillP ⟨l.e,l.n,(l.s.map FrameV.d),l.q.map FrameV.d,l.h⟩++ [bareX ⟨l.e,l.n,(l.s.map FrameV.d),l.q.map FrameV.d,l.h⟩]) 0):=by
 exact m3_
end
theorem bej_(hA:p.ak<l.n - l.s.length)(hb:p.b=false)(hn:p.nu=l.h+1)(hh:l.h<1048576):
 Calls Tryz.prog 79 #[l.val,packetV p.ep p.nu p.b p.ak p.f.k p.f.h p.f.e p.f.o.A p.f.o.ps.length p.f.o.c p.f.s] w (RetLHear w (fillL ⟨l.e,l.n,(l.s.map FrameV.d),l.q.map FrameV.d,(l.h+1)⟩) p.f.d true (fillP ⟨l.e,l.n,(l.s.map FrameV.d),l.q.map FrameV.d,(l.h+1)⟩++ [bareX ⟨l.e,l.n,(l.s.map FrameV.d),l.q.map FrameV.d,(l.h+1)⟩]) 0):=by
 exact m1_
theorem bem_(hA:l.n - l.s.length≤p.ak∧l.n≤p.ak)(hb:p.b=false)(hn:p.nu=l.h+1)(hh:l.h<1048576):
 Calls Tryz.prog 79 #[l.val,packetV p.ep p.nu p.b p.ak p.f.k p.f.h p.f.e p.f.o.A p.f.o.ps.length p.f.o.c p.f.s] w (RetLHear w (fillL ⟨l.e,l.n,(l.s.map FrameV.d),l.q.map FrameV.d,(l.h+1)⟩) p.f.d true (fillP ⟨l.e,l.n,(l.s.map FrameV.d),l.q.map FrameV.d,(l.h+1)⟩++ [bareX ⟨l.e,l.n,(l.s.map FrameV.d),l.q.map FrameV.d,(l.h+1)⟩]) 0):=by
 have vC:=h_ trivial;exact m1_
end
end Go.Proofs.YtacacoklddogmaaGreatDoor
