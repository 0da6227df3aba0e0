/-
  wherrylaw.EdgeChecks returns true for every edge, where what it reads is of bulk at most 1048576, and unicode/utf8's two tables are as their text lays them.
-/
import Derived.Test.YtbmdepbmejnlkaaDoorRows
import Derived.Test.YtbmdepbmejnlkaaDoorDoor
import Derived.Test.YtbmdepbmejnlkaaDoorEdgeOpen
namespace Go.Proofs.YtbmdepbmejnlkaaDoor
open Go.ChangeShapes Go.WideShapes Go.ChangeAt Go.RowKit
set_option maxRecDepth 100000
theorem EdgeCheck_c (w : World) (s h : Int) (A : Option Addr) (c : Nat) (L : List OpV) (hT : Tabs w) (hs : OpsIn w A L) (hm : ∀ o ∈ L, o.Small) :
    Calls Tryd.prog 45 #[edgeV s h A L.length c] w fun r w' => r = .returned (.int .i64 (edgeErr s h L)) ∧ Below w.heap.size w w' := by
  by_cases hg : ((0 ≤ s ∧ s ≤ 1048576) ∧ (0 ≤ h ∧ h ≤ 1048576)) ∧ (L.length : Int) ≤ s
  · exact EdgeCheck_loop w s h A c L hg.1.1.1 hg.1.1.2 hg.1.2.1 hg.1.2.2 hg.2 hT hs hm
  · rw [show edgeErr s h L = 9 from if_neg fun k => hg ⟨k.1, k.2.1⟩]
    by_cases h1 : s < 0
    · exact EdgeCheck_head1 w s h A c L h1
    by_cases h2 : 1048576 < s
    · exact EdgeCheck_head2 w s h A c L h2
    by_cases h3 : h < 0
    · exact EdgeCheck_head3 w s h A c L (by omega) (by omega) h3
    by_cases h4 : 1048576 < h
    · exact EdgeCheck_head4 w s h A c L (by omega) (by omega) h4
    exact EdgeCheck_head5 w s h A c L (by omega) (by omega) (by omega) (by omega) (by omega)
theorem EdgeMay_c (w : World) (s h : Int) (A : Option Addr) (c : Nat) (L : List OpV) (hT : Tabs w) (hs : OpsIn w A L) (hm : ∀ o ∈ L, o.Small) :
    Calls Tryd.prog 50 #[edgeV s h A L.length c] w fun r w' => r = .returned (.bool (edgeB s h L)) ∧ Below w.heap.size w w' := by
  by_cases hg : ((0 ≤ s ∧ s ≤ 1048576) ∧ (0 ≤ h ∧ h ≤ 1048576)) ∧ (L.length : Int) ≤ s
  · exact EdgeMay_loop w s h A c L hg.1.1.1 hg.1.1.2 hg.1.2.1 hg.1.2.2 hg.2 hT hs hm
  · rw [show edgeB s h L = false from decide_eq_false fun k => hg ⟨k.1, k.2.1⟩]
    by_cases h1 : s < 0 ∨ 1048576 < s
    · exact EdgeMay_head1 w s h A c L (Lib.hid h1)
    by_cases h2 : h < 0 ∨ 1048576 < h
    · exact EdgeMay_head2 w s h A c L (by omega) (by omega) (Lib.hid h2)
    exact EdgeMay_head3 w s h A c L (by omega) (by omega) (by omega) (by omega) (by omega)
namespace edgeChecks
end edgeChecks
end Go.Proofs.YtbmdepbmejnlkaaDoor
