/-
  Contracts of wire.DecodeRecord and its reference RecordOf, joined.
-/
import Derived.Test.YtieofljkgmkaiaaDoorRows
import Derived.Test.YtieofljkgmkaiaaDoorRecOf
namespace Go.Proofs.YtieofljkgmkaiaaDoor
open Go.ChangeShapes Go.WideShapes Go.ChangeAt Go.RowKit Go.Joins Go.Deep
set_option maxRecDepth 100000
/-- What stands behind a record's epoch. -/
def recRest (x : Int × List UInt8 × Int) : List PartD × List UInt8 × Int := if x.1 = 0 then readOp x.2.1 x.2.2 else ([], x.2.1, x.2.2)
/-- What is wrong with a record's bytes. -/
def recFault (x : Int × List UInt8 × Int) : Int := if endFault (recRest x).2.1 (recRest x).2.2 ≠ 0 then endFault (recRest x).2.1 (recRest x).2.2 else recordFault x.1 (recRest x).1
/-- A record from its bytes, and what is wrong. -/
def readRec (bs : List UInt8) : Int × List PartD × Int :=
  if 50000 < bs.length then (0, [], 1) else if recFault (readNum bs 0) ≠ 0 then (0, [], recFault (readNum bs 0)) else ((readNum bs 0).1, (recRest (readNum bs 0)).1, 0)
theorem readRec_len (bs : List UInt8) : (readRec bs).2.1.length ≤ 1048576 := by
  unfold readRec
  by_cases h : 50000 < bs.length
  · rw [if_pos h]; simp
  rw [if_neg h]
  by_cases h2 : recFault (readNum bs 0) ≠ 0
  · rw [if_pos h2]; simp
  rw [if_neg h2]
  show (recRest (readNum bs 0)).1.length ≤ _
  unfold recRest
  split
  · have := (op_len (readNum bs 0).2.1 (readNum bs 0).2.2).1
    have := (readNum_any bs 0).len
    omega
  · simp
theorem end_zero {l : List UInt8} {f : Int} (h : endFault l f = 0) : f = 0 ∧ l = [] := by
  unfold endFault at h
  by_cases q : f = 0 ∧ l ≠ []
  · rw [if_pos q] at h
    cases h
  · rw [if_neg q] at h
    exact ⟨h, Classical.byContradiction fun z => q ⟨h, z⟩⟩
theorem readRec_of {bs : List UInt8} {ep : Int} {l1 : List UInt8} {f1 : Int} {ps : List PartD} {l2 : List UInt8} {f2 er : Int} (hb : ¬ 50000 < bs.length) (hx : readNum bs 0 = (ep, l1, f1)) (hy : recRest (ep, l1, f1) = (ps, l2, f2)) (he : (if endFault l2 f2 = 0 then recordFault ep ps else endFault l2 f2) = er) :
    readRec bs = if er = 0 then (ep, ps, 0) else (0, [], er) := by
  have hF : recFault (ep, l1, f1) = er := by
    unfold recFault
    rw [hy]
    dsimp only
    rw [← he]
    by_cases q : endFault l2 f2 = 0
    · rw [if_pos q, if_neg (fun z => z q)]
    · rw [if_neg q, if_pos q]
  unfold readRec
  rw [if_neg hb, hx, hF, hy]
  by_cases q : er = 0
  · rw [if_pos q, if_neg (fun z => z q)]
  · rw [if_neg q, if_pos q]
theorem DecodeRecord_c (w : World) (A : Option Addr) (c : Nat) (bs : List UInt8) (hs : Sl (· < w.heap.size) w 1 A bs.length (bs.map byteV)) (hT : Tabs w) :
    Calls Tryd.prog 80 #[.slice A bs.length c] w (RetRec w (readRec bs).1 (readRec bs).2.1 (readRec bs).2.2) := by
  by_cases hb : 50000 < bs.length
  · rw [show readRec bs = (0, [], 1) from if_pos hb]
    exact DecodeRecord_big w A c bs hb
  have hl : bs.length ≤ 50000 := by omega
  have hn := (readNum_any bs 0).len
  obtain ⟨⟨ep, l1, f1⟩, hx⟩ : ∃ x, readNum bs 0 = x := ⟨_, rfl⟩
  rw [hx] at hn
  dsimp only at hn
  by_cases h0 : ep = 0
  · subst h0
    obtain ⟨⟨ps, l2, f2⟩, hy⟩ : ∃ y, readOp l1 f1 = y := ⟨_, rfl⟩
    have ho := op_len l1 f1
    rw [hy] at ho
    obtain ⟨q1, q2, q3⟩ := ho
    dsimp only at q1 q2 q3
    have hP : ps.length ≤ 1048576 ∧ ∀ p ∈ ps, p.text.size ≤ 1048576 := ⟨by omega, fun p hp => by have := q3 p hp; omega⟩
    have hR : recRest (0, l1, f1) = (ps, l2, f2) := by unfold recRest; rw [if_pos rfl]; exact hy
    by_cases hg : endFault l2 f2 = 0
    · by_cases hf : recordFault 0 ps = 0
      · rw [readRec_of hb hx hR (by rw [if_pos hg, hf]), if_pos rfl]
        exact DecodeRecord_zo w A c bs hs hl hT l1 f1 (by omega) ps l2 f2 hx hy hP hg hf
      · rw [readRec_of hb hx hR (by rw [if_pos hg]), if_neg hf]
        exact DecodeRecord_zf w A c bs hs hl hT l1 f1 (by omega) ps l2 f2 hx hy hP hg _ rfl (by simpa using hf)
    · rw [readRec_of hb hx hR (by rw [if_neg hg]), if_neg hg]
      exact DecodeRecord_zg w A c bs hs hl hT l1 f1 (by omega) ps l2 f2 hx hy _ rfl (by simpa using hg)
  · have h0' : (ep == 0) = false := by simpa using h0
    have hR : recRest (ep, l1, f1) = ([], l1, f1) := by unfold recRest; rw [if_neg h0]
    by_cases hg : endFault l1 f1 = 0
    · by_cases hf : recordFault ep [] = 0
      · rw [readRec_of hb hx hR (by rw [if_pos hg, hf]), if_pos rfl]
        exact DecodeRecord_no w A c bs hs hl hT l1 f1 ep h0' hx hg hf
      · rw [readRec_of hb hx hR (by rw [if_pos hg]), if_neg hf]
        exact DecodeRecord_nf w A c bs hs hl hT l1 f1 ep h0' hx hg _ rfl (by simpa using hf)
    · rw [readRec_of hb hx hR (by rw [if_neg hg]), if_neg hg]
      exact DecodeRecord_ng w A c bs hs hl hT l1 f1 ep h0' hx _ rfl (by simpa using hg)
theorem RecordOf_c (w : World) (A : Option Addr) (c : Nat) (bs : List UInt8) (hs : Sl (· < w.heap.size) w 1 A bs.length (bs.map byteV)) (hc : bs.length ≤ c ∧ c ≤ 9223372036854775807) (hT : Tabs w) :
    Calls Tryd.prog 82 #[.slice A bs.length c] w (RetRec w (readRec bs).1 (readRec bs).2.1 (readRec bs).2.2) := by
  by_cases hb : 50000 < bs.length
  · rw [show readRec bs = (0, [], 1) from if_pos hb]
    exact RecordOf_big w A c bs hb
  have hl : bs.length ≤ 50000 := by omega
  have hn := (readNum_any bs 0).len
  obtain ⟨⟨ep, l1, f1⟩, hx⟩ : ∃ x, readNum bs 0 = x := ⟨_, rfl⟩
  rw [hx] at hn
  dsimp only at hn
  by_cases h0 : ep = 0
  · subst h0
    obtain ⟨⟨ps, l2, f2⟩, hy⟩ : ∃ y, readOp l1 f1 = y := ⟨_, rfl⟩
    have ho := op_len l1 f1
    rw [hy] at ho
    obtain ⟨q1, q2, q3⟩ := ho
    dsimp only at q1 q2 q3
    have hP : ps.length ≤ 1048576 ∧ ∀ p ∈ ps, p.text.size ≤ 1048576 := ⟨by omega, fun p hp => by have := q3 p hp; omega⟩
    have hR : recRest (0, l1, f1) = (ps, l2, f2) := by unfold recRest; rw [if_pos rfl]; exact hy
    by_cases hf2 : f2 = 0
    · subst hf2
      cases l2 with
      | nil =>
        by_cases hf : recordFault 0 ps = 0
        · rw [readRec_of hb hx hR (by rw [if_pos (show endFault [] 0 = 0 from rfl), hf]), if_pos rfl]
          exact RecordOf_zo w A c bs hs hc hl hT l1 f1 (by omega) ps hx hy hP hf
        · rw [readRec_of hb hx hR (by rw [if_pos (show endFault [] 0 = 0 from rfl)]), if_neg hf]
          exact RecordOf_zf w A c bs hs hc hl hT l1 f1 (by omega) ps hx hy hP _ rfl (by simpa using hf)
      | cons ch tl =>
        have hg : endFault (ch :: tl) 0 = 4 := if_pos ⟨rfl, by simp⟩
        rw [readRec_of hb hx hR (by rw [hg, if_neg (by decide)]), if_neg (by decide)]
        exact RecordOf_zb w A c bs hs hc hl hT ch tl l1 f1 (by omega) ps hx hy
    · have hg : endFault l2 f2 = f2 := if_neg fun z => hf2 z.1
      rw [readRec_of hb hx hR (by rw [hg, if_neg hf2]), if_neg hf2]
      exact RecordOf_za w A c bs hs hc hl hT f2 (by simpa using hf2) l2 l1 f1 (by omega) ps hx hy
  · have h0' : (ep == 0) = false := by simpa using h0
    have hR : recRest (ep, l1, f1) = ([], l1, f1) := by unfold recRest; rw [if_neg h0]
    by_cases hf2 : f1 = 0
    · subst hf2
      cases l1 with
      | nil =>
        by_cases hf : recordFault ep [] = 0
        · rw [readRec_of hb hx hR (by rw [if_pos (show endFault [] 0 = 0 from rfl), hf]), if_pos rfl]
          exact RecordOf_no w A c bs hs hc hl hT ep h0' hx hf
        · rw [readRec_of hb hx hR (by rw [if_pos (show endFault [] 0 = 0 from rfl)]), if_neg hf]
          exact RecordOf_nf w A c bs hs hc hl hT ep h0' hx _ rfl (by simpa using hf)
      | cons ch tl =>
        have hg : endFault (ch :: tl) 0 = 4 := if_pos ⟨rfl, by simp⟩
        rw [readRec_of hb hx hR (by rw [hg, if_neg (by decide)]), if_neg (by decide)]
        exact RecordOf_nb w A c bs hs hc hl hT ch tl ep h0' hx
    · have hg : endFault l1 f1 = f1 := if_neg fun z => hf2 z.1
      rw [readRec_of hb hx hR (by rw [hg, if_neg hf2]), if_neg hf2]
      exact RecordOf_na w A c bs hs hc hl hT f1 (by simpa using hf2) l1 ep h0' hx
end Go.Proofs.YtieofljkgmkaiaaDoor
