/- Lemmas. -/
import Derived.Test.YtacacoklddogmaaGreatDoorKJBH
import Derived.Test.YtacacoklddogmaaGreatDoorKHnSessE
import Derived.BigRegion
import Derived.Deep.DeepCutAuto
namespace Go.Proofs.YtacacoklddogmaaGreatDoor
set_option maxHeartbeats 4000000
open Go.ChangeShapes Go.WideShapes Go.ChangeAt Go.RowKit
set_option maxRecDepth 100000
theorem bbi_(w:World)(T:OA_)(N Nc:Nat)(zs:List Int)(n:NodeV)(hT:Tabs w)(hi:n.In w)(hm:n.Small)(hz:Sl (· <w.heap.size) w 1 T N (zs.map (Value.int .i64)))(hN:N<=9223372036854775807)(q:Int)(p:PacketV)(hf:OpIn (· <w.heap.size) w p.f.o.A p.f.o.ps)(hfm:p.f.Small)(E:Int)(hE:(if nodeFault zs n=0 then packetFault p.d else nodeFault zs n)=E)(D:EdD)(er:Int)(hD: ∀a,LastAt n.S q n.S.length a->HdSaid n.d p.d E a D er)(hV:E=0-> ∀i:Nat,LastAt n.S q n.S.length i->hnSess n.d i p.d∨(¬hnPar n.d i∧p.d.epoch<=(n.d.S.getD i default).k.e)):Calls Tryz.prog 15 #[.slice T N Nc,n.val,.int .i64 q,packetV p.ep p.nu p.b p.ak p.f.k p.f.h p.f.e p.f.o.A p.f.o.ps.length p.f.o.c p.f.s] w (RetTurnR w D er):=by
 exact m8_
end Go.Proofs.YtacacoklddogmaaGreatDoor
