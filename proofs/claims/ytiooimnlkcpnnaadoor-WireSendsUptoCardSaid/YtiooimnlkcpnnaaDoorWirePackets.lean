/-
  wherrylaw.WirePackets returns true for every packet, where what it reads is of bulk at most 1048576, and unicode/utf8's two tables are as their text lays them.
-/
import Derived.Test.YtiooimnlkcpnnaaDoorRows
import Derived.Test.YtiooimnlkcpnnaaDoorDoor
import Derived.Test.YtiooimnlkcpnnaaDoorOpenB
import Derived.Test.YtiooimnlkcpnnaaDoorPackets
namespace Go.Proofs.YtiooimnlkcpnnaaDoor
open Go.ChangeShapes Go.WideShapes Go.ChangeAt Go.RowKit Go.Joins Go.Deep
set_option maxRecDepth 100000
theorem list9 {α : Type} {l : List α} (h : l.length = 9) : ∃ a b c d e f g i j, l = [a, b, c, d, e, f, g, i, j] := by
  match l, h with
  | [a, b, c, d, e, f, g, i, j], _ => exact ⟨a, b, c, d, e, f, g, i, j, rfl⟩
section
variable {H : Type} {enc : TypeId × Value → H} {w : World} {m : Nat}
theorem open_packet {cs : List Value} {y : DataW H × List MemPlace} (h : DataW.trod enc Tryd.prog w 0 (fun _ => true) true m 58 cs = some y) (hb : Rows.uptoBulk y.1 ≤ 1048576) :
    ∃ (ep nu : Int) (b : Bool) (ak k hd e : Int) (A : Option Addr) (c : Nat) (ps : List PartD) (s : ByteArray), cs = [.int .i64 ep, .int .i64 nu, .bool b, .int .i64 ak, .int .i64 k, .int .i64 hd, .int .i64 e, .slice A ps.length c, .string s] ∧
      (ps.length ≤ c ∧ c ≤ 9223372036854775807 ∧ OpIn (· < w.heap.size) w A ps ∧ ps.length ≤ 1048576 ∧ ∀ p ∈ ps, p.Fit) ∧ s.size ≤ 1048576 := by
  obtain ⟨ys, n, _, hy, hlen, hyl, hf⟩ := DataW.trod_struct Tryd.underlying58 h
  rw [show Tryd.prog.cellsOf 58 = 9 by kernel_rfl] at hlen
  obtain ⟨c0, c1, c2, c3, c4, c5, c6, c7, c8, rfl⟩ := list9 hlen
  obtain ⟨y0, y1, y2, y3, y4, rfl⟩ := list5 hyl
  have h0 : DataW.trod enc Tryd.prog w 0 (fun _ => true) true n 3 ((List.drop 0 [c0, c1, c2, c3, c4, c5, c6, c7, c8]).take (Tryd.prog.cellsOf 3)) = some y0 := hf 0 _ rfl
  have h1 : DataW.trod enc Tryd.prog w 0 (fun _ => true) true n 3 ((List.drop 1 [c0, c1, c2, c3, c4, c5, c6, c7, c8]).take (Tryd.prog.cellsOf 3)) = some y1 := hf 1 _ rfl
  have h2 : DataW.trod enc Tryd.prog w 0 (fun _ => true) true n 4 ((List.drop 2 [c0, c1, c2, c3, c4, c5, c6, c7, c8]).take (Tryd.prog.cellsOf 4)) = some y2 := hf 2 _ rfl
  have h3 : DataW.trod enc Tryd.prog w 0 (fun _ => true) true n 3 ((List.drop 3 [c0, c1, c2, c3, c4, c5, c6, c7, c8]).take (Tryd.prog.cellsOf 3)) = some y3 := hf 3 _ rfl
  have h4 : DataW.trod enc Tryd.prog w 0 (fun _ => true) true n 56 ((List.drop 4 [c0, c1, c2, c3, c4, c5, c6, c7, c8]).take (Tryd.prog.cellsOf 56)) = some y4 := hf 4 _ rfl
  rw [show Tryd.prog.cellsOf 3 = 1 by kernel_rfl] at h0 h1 h3
  rw [show Tryd.prog.cellsOf 4 = 1 by kernel_rfl] at h2
  rw [show Tryd.prog.cellsOf 56 = 5 by kernel_rfl] at h4
  have h0' : DataW.trod enc Tryd.prog w 0 (fun _ => true) true n 3 [c0] = some y0 := h0
  have h1' : DataW.trod enc Tryd.prog w 0 (fun _ => true) true n 3 [c1] = some y1 := h1
  have h2' : DataW.trod enc Tryd.prog w 0 (fun _ => true) true n 4 [c2] = some y2 := h2
  have h3' : DataW.trod enc Tryd.prog w 0 (fun _ => true) true n 3 [c3] = some y3 := h3
  have h4' : DataW.trod enc Tryd.prog w 0 (fun _ => true) true n 56 [c4, c5, c6, c7, c8] = some y4 := h4
  obtain ⟨ep, rfl, _⟩ := open_num Tryd.underlying3 h0'
  obtain ⟨nu, rfl, _⟩ := open_num Tryd.underlying3 h1'
  obtain ⟨b, e2, _⟩ := DataW.trod_bool Tryd.underlying4 h2'
  have e2' : c2 = .bool b := by simpa using e2
  subst e2'
  obtain ⟨ak, rfl, _⟩ := open_num Tryd.underlying3 h3'
  have hb4 : Rows.uptoBulk y4.1 ≤ 1048576 := by
    rw [hy] at hb
    exact bulk_field (ys := [y0, y1, y2, y3, y4]) rfl hb (j := 4) rfl
  obtain ⟨k, hd, e, A, c, ps, s, hcs, _, _, _, h5, h6⟩ := open_frame h4' hb4
  injection hcs with e4 hcs
  injection hcs with e5 hcs
  injection hcs with e6 hcs
  injection hcs with e7 hcs
  injection hcs with e8 hcs
  subst e4 e5 e6 e7 e8
  exact ⟨ep, nu, b, ak, k, hd, e, A, c, ps, s, rfl, h5, h6⟩
end
namespace wirePackets
end wirePackets
end Go.Proofs.YtiooimnlkcpnnaaDoor
