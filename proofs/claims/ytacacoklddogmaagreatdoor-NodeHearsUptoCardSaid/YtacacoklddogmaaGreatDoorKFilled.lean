/- Lemmas. -/
import Derived.Test.YtacacoklddogmaaGreatDoorKJAP
namespace Go.Proofs.YtacacoklddogmaaGreatDoor
set_option maxHeartbeats 4000000
open Go.ChangeShapes Go.WideShapes Go.ChangeAt Go.RowKit
set_option maxRecDepth 100000
section
variable {w:World}{P base:Nat}{nb:Option Nat}{e n h:Int}{sA qA A:Option Addr}{sc qc c m:Nat}{s q L:List FrameV}
end
theorem vv_{w:World}{base base' size n:Nat}{e:TypeId}{v:Value}{xs:List Value}(h:w.ownsRow base e size v n xs)(hb:base'≤base):w.ownsRow base' e size v n xs:=
 ⟨h.1,h.2.imp id fun⟨g,cap,cur,e1,hg,rest⟩=>⟨g,cap,cur,e1,Nat.le_trans hb hg,rest⟩⟩
theorem ib_{w w':World}{base size n:Nat}{e:TypeId}{v:Value}{xs:List Value}(h:w.ownsRow base e size v n xs)(hb:Below w.heap.size w w'):w'.ownsRow base e size v n xs:=
 h.kept (row:=none) ⟨hb.os,hb.tape,hb.output,hb.size,fun k hk _=>hb.block k hk⟩ (by cases v.ownBlock <;> simp)
theorem hl_{w:World}{base size n P j:Nat}{e:TypeId}{v x:Value}{xs:List Value}(h:w.ownsRow base e size v n xs)(hP:v.ownBlock≠some P):(w.setCell ⟨P,j,none⟩ x).ownsRow base e size v n xs:=
 h.kept (row:=some P) ⟨rfl,rfl,rfl,by simp [World.setCell],fun k _ hk=>bH_ (fun e1=>hk (by simp [e1]))⟩ (.inr hP)
theorem oy_{L L':List FrameV}(h:L'.map FrameV.d=L.map FrameV.d){N:Nat}(hk: ∀f∈L,f.o.ps.length≤N): ∀f∈L',f.o.ps.length≤N:=by
 intro f hf;have:f.d∈L.map FrameV.d:=by rw [←h];exact List.mem_map.2 ⟨f,hf,rfl⟩
 obtain⟨g,hg,e⟩:=List.mem_map.1 this;have h2:=congrArg (fun x=>x.op.length) e;have h3:=hk g hg;dsimp only at h2;omega
theorem infoInt:(Tryz.prog.info? 3).map (fun i=>(i.zero,i.size,i.bytes))=some (some (.int .i64 0),1,8):=by kernel_rfl
end Go.Proofs.YtacacoklddogmaaGreatDoor
