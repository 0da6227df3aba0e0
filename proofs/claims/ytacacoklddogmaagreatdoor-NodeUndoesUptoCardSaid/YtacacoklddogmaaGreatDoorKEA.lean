/- A part of the proof of NodeUndoes. -/
import Derived.Test.YtacacoklddogmaaGreatDoorKBA
namespace Go.Proofs.YtacacoklddogmaaGreatDoor
set_option maxHeartbeats 4000000
open Go.ChangeShapes Go.WideShapes Go.ChangeAt Go.RowKit
set_option maxRecDepth 100000
theorem infoByte : (Tryz.prog.info? 5).map (fun i => (i.zero, i.size, i.bytes)) = some (some (.int .u8 0), 1, 1) := by kernel_rfl
theorem gm_ {w : World} {base : Nat} {e : TypeId} {size n c : Nat} {A : Option Addr} {xs : List Value} (h : w.ownsRow base e size (.slice A n c) n xs) : n ≤ c ∧ c ≤ 9223372036854775807 := by
 obtain ⟨A', c', h1, h2, h3⟩ := fs_ w h
 injection h1 with _ _ h4
 subst h4
 exact ⟨h2, h3⟩
theorem Sl.take {S : Nat → Prop} {w : World} {A : Option Addr} {bs : List UInt8} {k : Nat} (h : Sl S w 1 A bs.length (bs.map byteV)) (hk : k ≤ bs.length) : Sl S w 1 A k ((bs.take k).map byteV) := by
 refine ⟨by simp [hk], fun hn => ?_⟩
 obtain ⟨b, o, e, hb, hc⟩ := h.2 (by omega)
 refine ⟨b, o, e, hb, fun j u hu => hc j u ?_⟩
 rw [List.map_take, List.getElem?_take] at hu
 split at hu
 · exact hu
 · cases hu

end Go.Proofs.YtacacoklddogmaaGreatDoor
