/- Lemmas. -/
import Derived.Test.YtacacoklddogmaaGreatDoorKJBB
import Derived.BigRegion
namespace Go.Proofs.YtacacoklddogmaaGreatDoor
set_option maxHeartbeats 4000000
open Go.ChangeShapes Go.WideShapes Go.ChangeAt Go.RowKit
set_option maxRecDepth 100000
theorem bef_(w:World)(l:LinkV)(p:PacketV)(hT:Tabs w)(hi:l.In w)(hm:l.Small)(hf:OpIn (· <w.heap.size) w p.f.o.A p.f.o.ps)(hfm:p.f.Small)(hk:linkMay l)(he:packetFault p.d=0)(h0:l.e≠0)(h1:p.ep=l.e)(hsc:l.s.length≤l.sc)(K:Nat)(hK:(K:Int)=p.ak - (l.n - l.s.length)+1∧1≤K∧K≤l.s.length)(hb:p.b=false)(hn:p.nu=l.h+1)(hh:l.h<1048576):
 Calls Tryz.prog 79 #[l.val,packetV p.ep p.nu p.b p.ak p.f.k p.f.h p.f.e p.f.o.A p.f.o.ps.length p.f.o.c p.f.s] w (RetLHear w (fillL ⟨l.e,l.n,((l.s.map FrameV.d).drop K),l.q.map FrameV.d,(l.h+1)⟩) p.f.d true (fillP ⟨l.e,l.n,((l.s.map FrameV.d).drop K),l.q.map FrameV.d,(l.h+1)⟩++ [bareX ⟨l.e,l.n,((l.s.map FrameV.d).drop K),l.q.map FrameV.d,(l.h+1)⟩]) 0):=by
 have vD:=h_ trivial;exact m1_
end Go.Proofs.YtacacoklddogmaaGreatDoor
