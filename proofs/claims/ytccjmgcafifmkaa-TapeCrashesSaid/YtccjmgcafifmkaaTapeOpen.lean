/-
  A tape that came in, opened.
-/
import Derived.Test.YtccjmgcafifmkaaRows
import Derived.Test.YtccjmgcafifmkaaFrame
import Derived.Test.YtccjmgcafifmkaaTapeA
import Derived.SizedLaws
namespace Go.Proofs.Ytccjmgcafifmkaa
open Go.ChangeShapes Go.WideShapes Go.ChangeAt Go.RowKit Go.Joins
set_option maxRecDepth 100000
theorem open_tape {H : Type} {enc : TypeId × Value → H} {W : World} {base : Nat} {v : Value} {d : DataW H} {p : List MemPlace} (hv : Value.okWide Try.prog W .any base 43 v)
    (h : DataW.Trod enc Try.prog W 0 (fun _ => true) true 43 v d p) (hw : ∀ n ∈ d.weights Try.prog 43, n ≤ reachBytes) :
    ∃ (A : Option Addr) (c : Nat) (bs : List UInt8) (sy : Int), v = tapeV A bs.length c sy ∧ Sl (· < W.heap.size) W 1 A bs.length (bs.map byteV) ∧ bs.length ≤ 140737488351232 ∧ (bs.length ≤ c ∧ c ≤ 9223372036854775807 ∧ -9223372036854775808 ≤ sy ∧ sy ≤ 9223372036854775807) := by
  obtain ⟨c0, c1, y0, y1, m, rfl, rfl, rfl, hy0, hy1⟩ := open_agg2 Try.underlying43 (by kernel_rfl) cellsTape hv h
  obtain ⟨A, c, bs, rfl, hbc, hcm, hs, hl⟩ := sl_bytes Try.underlying41 Try.underlying5 (by kernel_rfl) hy0
  obtain ⟨sy, e1, rfl, wa⟩ := DataW.trod_int Try.underlying3 hy1
  have e1' : c1 = .int .i64 sy := by simpa using e1
  subst e1'
  refine ⟨A, c, bs, sy, rfl, hs, ?_, hbc, hcm, ?_⟩
  · rcases hl with h0 | ⟨elems, spare, he, hle⟩
    · omega
    · have h1 := hw ((elems.length + spare.length) * 1) (by
        simp only [DataW.weights, Try.underlying43, DataW.weightsEach, he, Try.underlying41, List.map_cons, List.mem_append]
        left
        simp [show Try.prog.bytesOf 5 = 1 by kernel_rfl])
      unfold reachBytes at h1
      omega
  · have : -9223372036854775808 ≤ sy ∧ sy ≤ 9223372036854775807 := by simpa [Lit.wf, IntKind.min, IntKind.max, IntKind.signed, IntKind.bits] using wa
    exact this
end Go.Proofs.Ytccjmgcafifmkaa
