/-
  Contracts of edge.Send and its reference SentOf.
-/
import Derived.Test.YtiooimnlkcpnnaaDoorRows
import Derived.Test.YtiooimnlkcpnnaaDoorSendE
import Derived.Test.YtiooimnlkcpnnaaDoorSentE
namespace Go.Proofs.YtiooimnlkcpnnaaDoor
open Go.ChangeShapes Go.WideShapes Go.ChangeAt Go.RowKit
set_option maxRecDepth 100000
set_option maxHeartbeats 1000000 in
theorem Send_c (w : World) (s h : Int) (A : Option Addr) (c : Nat) (L : List OpV) (hT : Tabs w) (hs : OpsIn w A L) (hm : ∀ o ∈ L, o.Small) (hll : L.length ≤ 1048576) (B : Option Addr) (cc : Nat) (ps : List PartD) (hop : OpIn (· < w.heap.size) w B ps) (hpl : ps.length ≤ 1048576) (htt : ∀ p ∈ ps, p.text.size ≤ 1048576) :
    Calls Tryd.prog 26 #[edgeV s h A L.length c, .slice B ps.length cc] w (RetSent w s h L ps (sendErr s h L ps)) := by
  have HC := Lib.hid (fun W hT hs hm => EdgeCheck_c W s h A c L hT hs hm)
  have HF := Lib.hid (fun W hT hs => Check_c W B cc ps hT hs hpl htt)
  have HL := Lib.hid (fun W hs => Lengths_c W B cc ps hs hpl htt)
  have HO := Lib.hid (fun W hs => own_c W s h A c L hs hll hm)
  have HD := Lib.hid (fun W hs => CloneOp_c W B cc ps hs hpl)
  unfold sendErr
  by_cases h1 : edgeMay s h L
  · rw [if_neg (not_not_intro h1)]
    rw [show edgeErr s h L = 0 from if_pos h1] at HC
    by_cases h2 : opFault ps = 0
    · rw [if_neg (not_not_intro h2)]
      rw [h2] at HF
      have hs0 : 0 ≤ s ∧ s ≤ 1048576 := h1.1.1
      unfold badLast
      rcases hlast : L.getLast? with _ | ⟨qA, qc, qp⟩
      · have hl0 : L.length = 0 := by rw [List.getLast?_eq_none_iff.1 hlast]; rfl
        rw [if_neg (by simp)]
        by_cases h4 : s = 1048576
        · rw [if_pos h4]
          exact Send_full0 w s h A c L hT hs hm B cc ps hop hl0 (by simpa using h4) (by simp; omega) HC HF
        · rw [if_neg h4]
          exact Send_ok0 w s h A c L hT hs hm B cc ps hop hl0 hll hs0.1 (by omega) (by simpa using h4) (by simp; omega) HC HF HO HD
      · have hmem : (⟨qA, qc, qp⟩ : OpV) ∈ L := List.mem_of_getLast? hlast
        have hsm := hm _ hmem
        have HQ := Lib.hid (fun W hs => Lengths_c W qA qc qp hs hsm.len hsm.text)
        dsimp only
        by_cases h3 : (lens ps).1 = (lens qp).2
        · rw [if_neg (by simpa using h3)]
          rw [← h3] at HQ
          by_cases h4 : s = 1048576
          · rw [if_pos h4]
            exact Send_full w s h A c L hT hs hm B cc ps hop qA qc qp hlast _ _ _ hll (by simpa using h4) (by simp; omega) HC HF HL HQ
          · rw [if_neg h4]
            exact Send_ok w s h A c L hT hs hm B cc ps hop qA qc qp hlast _ _ _ hll hs0.1 (by omega) (by simpa using h4) (by simp; omega) HC HF HL HQ HO HD
        · rw [if_pos (by simpa using h3)]
          exact Send_match w s h A c L hT hs hm B cc ps hop qA qc qp hlast _ _ _ _ (by simpa using h3) hll HC HF HL HQ
    · rw [if_pos h2]
      exact Send_fault w s h A c L hT hs hm B cc ps hop _ (by simpa using h2) HC HF
  · rw [if_pos h1]
    rw [show edgeErr s h L = 9 from if_neg h1] at HC
    exact Send_state w s h A c L hT hs hm B cc ps HC
set_option maxHeartbeats 1000000 in
theorem SentOf_c (w : World) (s h : Int) (A : Option Addr) (c : Nat) (L : List OpV) (hT : Tabs w) (hs : OpsIn w A L) (hm : ∀ o ∈ L, o.Small) (hll : L.length ≤ 1048576) (B : Option Addr) (cc : Nat) (ps : List PartD) (hop : OpIn (· < w.heap.size) w B ps) (hpl : ps.length ≤ 1048576) (htt : ∀ p ∈ ps, p.text.size ≤ 1048576) :
    Calls Tryd.prog 28 #[edgeV s h A L.length c, .slice B ps.length cc] w (RetSent w s h L ps (sendErr s h L ps)) := by
  have HC := Lib.hid (fun W hT hs hm => EdgeMay_c W s h A c L hT hs hm)
  have HF := Lib.hid (fun W hT hs => OpFault_c W B cc ps hT hs hpl htt)
  have HL := Lib.hid (fun W hs => LengthsOf_c W B cc ps hs hpl htt)
  have HO := Lib.hid (fun W hs => EdgeCopy_c W s h A c L hs hll hm)
  have HD := Lib.hid (fun W hs => OpCopy_c W B cc ps hs hpl)
  unfold sendErr
  by_cases h1 : edgeMay s h L
  · rw [if_neg (not_not_intro h1)]
    rw [show edgeB s h L = true from decide_eq_true h1] at HC
    by_cases h2 : opFault ps = 0
    · rw [if_neg (not_not_intro h2)]
      rw [h2] at HF
      have hs0 : 0 ≤ s ∧ s ≤ 1048576 := h1.1.1
      unfold badLast
      rcases hlast : L.getLast? with _ | ⟨qA, qc, qp⟩
      · have hl0 : L.length = 0 := by rw [List.getLast?_eq_none_iff.1 hlast]; rfl
        rw [if_neg (by simp)]
        by_cases h4 : s = 1048576
        · rw [if_pos h4]
          exact SentOf_full0 w s h A c L hT hs hm B cc ps hop hl0 (by simpa using h4) (by simp; omega) HC HF
        · rw [if_neg h4]
          exact SentOf_ok0 w s h A c L hT hs hm B cc ps hop hl0 hll hs0.1 (by omega) (by simpa using h4) (by simp; omega) HC HF HO HD
      · have hmem : (⟨qA, qc, qp⟩ : OpV) ∈ L := List.mem_of_getLast? hlast
        have hsm := hm _ hmem
        have HQ := Lib.hid (fun W hs => LengthsOf_c W qA qc qp hs hsm.len hsm.text)
        dsimp only
        by_cases h3 : (lens ps).1 = (lens qp).2
        · rw [if_neg (by simpa using h3)]
          rw [← h3] at HQ
          by_cases h4 : s = 1048576
          · rw [if_pos h4]
            exact SentOf_full w s h A c L hT hs hm B cc ps hop qA qc qp hlast _ _ _ hll (by simpa using h4) (by simp; omega) HC HF HL HQ
          · rw [if_neg h4]
            exact SentOf_ok w s h A c L hT hs hm B cc ps hop qA qc qp hlast _ _ _ hll hs0.1 (by omega) (by simpa using h4) (by simp; omega) HC HF HL HQ HO HD
        · rw [if_pos (by simpa using h3)]
          exact SentOf_match w s h A c L hT hs hm B cc ps hop qA qc qp hlast _ _ _ _ (by simpa using h3) hll HC HF HL HQ
    · rw [if_pos h2]
      exact SentOf_fault w s h A c L hT hs hm B cc ps hop _ (by simpa using h2) HC HF
  · rw [if_pos h1]
    rw [show edgeB s h L = false from decide_eq_false h1] at HC
    exact SentOf_state w s h A c L hT hs hm B cc ps HC
end Go.Proofs.YtiooimnlkcpnnaaDoor
