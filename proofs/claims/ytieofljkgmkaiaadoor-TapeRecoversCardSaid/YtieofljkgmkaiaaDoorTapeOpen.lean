/-
  A tape that came in, opened.
-/
import Derived.Test.YtieofljkgmkaiaaDoorRows
import Derived.Test.YtieofljkgmkaiaaDoorFrame
import Derived.Test.YtieofljkgmkaiaaDoorTapeA
import Derived.SizedLaws
namespace Go.Proofs.YtieofljkgmkaiaaDoor
open Go.ChangeShapes Go.WideShapes Go.ChangeAt Go.RowKit Go.Joins
set_option maxRecDepth 100000
theorem open_tape {H : Type} {enc : TypeId × Value → H} {W : World} {base : Nat} {v : Value} {d : DataW H} {p : List MemPlace} (hv : Value.okWide Tryd.prog W .any base 49 v)
    (h : DataW.Trod enc Tryd.prog W 0 (fun _ => true) true 49 v d p) (hw : ∀ n ∈ d.weights Tryd.prog 49, n ≤ reachBytes) :
    ∃ (A : Option Addr) (c : Nat) (bs : List UInt8) (sy : Int), v = tapeV A bs.length c sy ∧ Sl (· < W.heap.size) W 1 A bs.length (bs.map byteV) ∧ bs.length ≤ 140737488351232 ∧ (bs.length ≤ c ∧ c ≤ 9223372036854775807 ∧ -9223372036854775808 ≤ sy ∧ sy ≤ 9223372036854775807) := by
  obtain ⟨c0, c1, y0, y1, m, rfl, rfl, rfl, hy0, hy1⟩ := open_agg2 Tryd.underlying49 (by kernel_rfl) cellsTape hv h
  obtain ⟨A, c, bs, rfl, hbc, hcm, hs, hl⟩ := sl_bytes Tryd.underlying47 Tryd.underlying5 (by kernel_rfl) hy0
  obtain ⟨sy, e1, rfl, wa⟩ := DataW.trod_int Tryd.underlying3 hy1
  have e1' : c1 = .int .i64 sy := by simpa using e1
  subst e1'
  refine ⟨A, c, bs, sy, rfl, hs, ?_, hbc, hcm, ?_⟩
  · rcases hl with h0 | ⟨elems, spare, he, hle⟩
    · omega
    · have h1 := hw ((elems.length + spare.length) * 1) (by
        simp only [DataW.weights, Tryd.underlying49, DataW.weightsEach, he, Tryd.underlying47, List.map_cons, List.mem_append]
        left
        simp [show Tryd.prog.bytesOf 5 = 1 by kernel_rfl])
      unfold reachBytes at h1
      omega
  · have : -9223372036854775808 ≤ sy ∧ sy ≤ 9223372036854775807 := by simpa [Lit.wf, IntKind.min, IntKind.max, IntKind.signed, IntKind.bits] using wa
    exact this
end Go.Proofs.YtieofljkgmkaiaaDoor
