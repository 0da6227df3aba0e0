/-
  Slices of frames, and the contracts of link.frames and its reference framesMay.
-/
import Derived.Test.YtbmdepbmejnlkaaDoorRows
import Derived.Test.YtbmdepbmejnlkaaDoorFrames
import Derived.Test.YtbmdepbmejnlkaaDoorEdgeOpen
import Derived.Test.YtbmdepbmejnlkaaDoorFlat
namespace Go.Proofs.YtbmdepbmejnlkaaDoor
open Go.ChangeShapes Go.WideShapes Go.ChangeAt Go.RowKit
set_option maxRecDepth 100000
/-- A frame as a slice's cells hold it. -/
structure FrameV where
  k : Int
  h : Int
  e : Int
  o : OpV
  s : ByteArray
instance : Inhabited FrameV := ⟨⟨0, 0, 0, ⟨none, 0, []⟩, ⟨#[]⟩⟩⟩
def FrameV.cells (f : FrameV) : List Value := [.int .i64 f.k, .int .i64 f.h, .int .i64 f.e, f.o.val, .string f.s]
theorem FrameV.cells_len (f : FrameV) : f.cells.length = 5 := rfl
abbrev FrameV.d (f : FrameV) : FrameD := ⟨f.k, f.h, f.e, f.o.ps, f.s⟩
structure FrameV.Small (f : FrameV) : Prop where
  op : f.o.Small
  text : f.s.size ≤ 1048576
structure FramesIn (w : World) (A : Option Addr) (L : List FrameV) : Prop where
  row : Sl (· < w.heap.size) w 5 A L.length (L.flatMap FrameV.cells)
  each : ∀ f ∈ L, OpIn (· < w.heap.size) w f.o.A f.o.ps
theorem FramesIn.later {w w' : World} {A : Option Addr} {L : List FrameV} (h : FramesIn w A L) (hb : Below w.heap.size w w') : FramesIn w' A L := ⟨h.row.later hb, fun r hr => Sl.later (h.each r hr) hb⟩
theorem FramesIn.at_ {w : World} {A : Option Addr} {L : List FrameV} (h : FramesIn w A L) {k : Nat} (hk : k < L.length) :
    ∃ b o, A = some ⟨b, o, none⟩ ∧ b < w.heap.size ∧ w.cell? ⟨b, o + k * 5, none⟩ = some (.int .i64 L[k].k) ∧ w.cell? ⟨b, o + k * 5 + 1, none⟩ = some (.int .i64 L[k].h) ∧ w.cell? ⟨b, o + k * 5 + 2, none⟩ = some (.int .i64 L[k].e) ∧
      w.cell? ⟨b, o + k * 5 + 3, none⟩ = some (.slice L[k].o.A L[k].o.ps.length L[k].o.c) ∧ w.cell? ⟨b, o + k * 5 + 4, none⟩ = some (.string L[k].s) ∧ OpIn (· < w.heap.size) w L[k].o.A L[k].o.ps := by
  obtain ⟨b, o, e, hb, hc⟩ := row_at FrameV.cells 5 FrameV.cells_len h.row hk
  exact ⟨b, o, e, hb, hc 0 _ rfl, hc 1 _ rfl, hc 2 _ rfl, hc 3 _ rfl, hc 4 _ rfl, h.each _ (List.getElem_mem hk)⟩
/-- May all these frames be? -/
def framesOk (L : List FrameV) : Prop := ∀ i (h : i < L.length), frameFault L[i].d = 0
instance (L : List FrameV) : Decidable (framesOk L) := by
  unfold framesOk
  exact inferInstance
theorem first_bad (L : List FrameV) (h : ¬ framesOk L) : ∃ k, ∃ hk : k < L.length, frameFault L[k].d ≠ 0 ∧ ∀ i (hi : i < L.length), i < k → frameFault L[i].d = 0 := by
  have hmin : ∀ n (hn : n < L.length), frameFault L[n].d ≠ 0 → ∃ k, ∃ hk : k < L.length, frameFault L[k].d ≠ 0 ∧ ∀ i (hi : i < L.length), i < k → frameFault L[i].d = 0 := by
    intro n
    induction n using Nat.strongRecOn with
    | ind n ih =>
      intro hn hb
      by_cases hall : ∀ i (hi : i < L.length), i < n → frameFault L[i].d = 0
      · exact ⟨n, hn, hb, hall⟩
      · have : ∃ i, ∃ hi : i < L.length, i < n ∧ frameFault L[i].d ≠ 0 := by
          apply Classical.byContradiction
          intro hc
          apply hall
          intro i hi hin
          apply Classical.byContradiction
          intro hq
          exact hc ⟨i, hi, hin, hq⟩
        obtain ⟨i, hi, hin, hq⟩ := this
        exact ih i hin hi hq
  have hex : ∃ n, ∃ hn : n < L.length, frameFault L[n].d ≠ 0 := by
    apply Classical.byContradiction
    intro hn
    apply h
    intro i hi
    apply Classical.byContradiction
    intro hb
    exact hn ⟨i, hi, hb⟩
  obtain ⟨n, hn, hb⟩ := hex
  exact hmin n hn hb
theorem badFrame_c (w : World) (f : FrameV) (hT : Tabs w) (hs : OpIn (· < w.heap.size) w f.o.A f.o.ps) (hm : f.Small) :
    Calls Tryd.prog 103 #[frameV f.k f.h f.e f.o.A f.o.ps.length f.o.c f.s] w fun e w' => e = .returned (.bool (frameFault f.d != 0)) ∧ Below w.heap.size w w' := by
  have H := Lib.hid (fun W hT hs => CheckFrame_c W f.k f.h f.e f.o.A f.o.c f.o.ps f.s hT hs hm.op.len hm.op.text hm.text)
  obtain ⟨k, h, e, ⟨A, c, ps⟩, s⟩ := f
  dsimp only at *
  generalize frameFault ⟨k, h, e, ps, s⟩ = x at *
  go_enter Tryd.func103, Tryd.ntmps103
  go_wp2_with fail
  refine (H.out _ (hT.later (by repeat (first | exact Below.refl _ _ | apply bGrow | apply bAlloc | apply Below.drew | apply bDrewN | apply bIter))) (Sl.later hs (by repeat (first | exact Below.refl _ _ | apply bGrow | apply bAlloc | apply Below.drew | apply bDrewN | apply bIter)))).mono ?_
  rintro r w1 ⟨rfl, hb1⟩
  go_wp2_with fail
  go_ret
  exact ⟨rfl, box_below' hb1⟩
set_option maxHeartbeats 1000000 in
theorem IndexFunc_c (w : World) (A : Option Addr) (c : Nat) (L : List FrameV) (n : Int) (hT : Tabs w) (hs : FramesIn w A L) (hm : L.length ≤ 1048576) (hp : ∀ f ∈ L, f.Small)
    (hn : (n = -1 ∧ framesOk L) ∨ ∃ k : Nat, ∃ hk : k < L.length, n = k ∧ frameFault L[k].d ≠ 0 ∧ ∀ i (hi : i < L.length), i < k → frameFault L[i].d = 0) :
    Calls Tryd.prog 109 #[.slice A L.length c, .func (.func 103) #[] #[]] w fun e w' => e = .returned (.int .i64 n) ∧ Below w.heap.size w w' := by
  have HN := Lib.hid hn
  have HS := Lib.hid hs
  have HT := Lib.hid hT
  have HP := Lib.hid hp
  clear hn hs hT hp
  go_enter Tryd.func109, Tryd.ntmps109
  go_wp2_with fail
  go_loopw [5, 8] (fun _ i wr => ∃ k : Nat, k ≤ L.length ∧ i = .int .i64 k ∧ Hid (∀ i (hi : i < L.length), i < k → frameFault L[i].d = 0) ∧ Below w.heap.size w wr) (fun _ i _ => L.length - (intOf i).toNat)
  case atStart => exact ⟨0, Nat.zero_le _, rfl, fun i hi h => absurd h (by omega), Below.refl _ _⟩
  case round =>
    obtain ⟨k, hk, rfl, hg, hbw⟩ := hrel
    by_cases hlt : k < L.length
    · obtain ⟨b, o, rfl, hbs, g0, g1, g2, g3, g4, hop⟩ := (HS.out.later hbw).at_ hlt
      have HB := Lib.hid (fun (W : World) (hT : Tabs W) (hs : OpIn (· < W.heap.size) W L[k].o.A L[k].o.ps) => badFrame_c W L[k] hT hs (HP.out _ (List.getElem_mem hlt)))
      by_cases hf : frameFault L[k].d = 0
      · have HG := Lib.hid (show ∀ i (hi : i < L.length), i < k + 1 → frameFault L[i].d = 0 by
          intro i hi hik
          rcases Nat.lt_or_ge i k with q | q
          · exact hg.out i hi q
          · obtain rfl : i = k := by omega
            exact hf)
        rw [hf] at HB
        clear hf hg
        generalize L[k] = f at *
        obtain ⟨fk, fh, fe, ⟨fA, fc, fp⟩, fs⟩ := f
        dsimp only at *
        go_wp2_with fail
        refine (HB.out _ (HT.out.later hbw) hop).mono ?_
        rintro r w1 ⟨rfl, hb1⟩
        go_wp2_with fail
        go_roundw
        case rel => exact ⟨k + 1, by omega, by go_num, HG, bThen hbw hb1⟩
        case measure => simp [intOf]; omega
      · have HR := Lib.hid (show n = (k : Int) by
          rcases HN.out with ⟨_, q⟩ | ⟨m, hm2, rfl, h1, h2⟩
          · exact absurd (q k hlt) hf
          · rcases Nat.lt_trichotomy k m with q | q | q
            · exact absurd (h2 k hlt q) hf
            · omega
            · exact absurd (hg.out m hm2 q) h1)
        have hb0 : (frameFault L[k].d != 0) = true := by simpa using hf
        rw [hb0] at HB
        clear hf hg hb0
        generalize L[k] = f at *
        obtain ⟨fk, fh, fe, ⟨fA, fc, fp⟩, fs⟩ := f
        dsimp only at *
        go_wp2_with fail
        refine (HB.out _ (HT.out.later hbw) hop).mono ?_
        rintro r w1 ⟨rfl, hb1⟩
        go_wp2_with fail
        go_ret
        exact ⟨by rw [HR.out]; rfl, bThen hbw hb1⟩
    · obtain rfl : k = L.length := by omega
      have HR := Lib.hid (show n = -1 by
        rcases HN.out with ⟨q, _⟩ | ⟨m, hm2, rfl, h1, h2⟩
        · exact q
        · exact absurd (hg.out m hm2 hm2) h1)
      clear hg
      go_wp2_with fail
      go_ret
      exact ⟨by rw [HR.out]; rfl, hbw⟩
theorem linkFrames_c (w : World) (A : Option Addr) (c : Nat) (L : List FrameV) (hT : Tabs w) (hs : FramesIn w A L) (hm : L.length ≤ 1048576) (hp : ∀ f ∈ L, f.Small) :
    Calls Tryd.prog 91 #[.slice A L.length c] w fun e w' => e = .returned (.bool (decide (framesOk L))) ∧ Below w.heap.size w w' := by
  have key : ∀ (n : Int) (b : Bool), decide (0 ≤ n) = b → (∀ W, Tabs W → FramesIn W A L → Calls Tryd.prog 109 #[.slice A L.length c, .func (.func 103) #[] #[]] W fun e w' => e = .returned (.int .i64 n) ∧ Below W.heap.size W w') →
      Calls Tryd.prog 91 #[.slice A L.length c] w fun e w' => e = .returned (.bool (!b)) ∧ Below w.heap.size w w' := by
    intro n b hd hI
    have hC : Calls Tryd.prog 102 #[.slice A L.length c, .func (.func 103) #[] #[]] w fun e w' => e = .returned (.bool b) ∧ Below w.heap.size w w' := by
      have HI := Lib.hid hI
      clear hI
      go_enter Tryd.func102, Tryd.ntmps102
      go_wp2_with fail
      refine (HI.out _ hT hs).mono ?_
      rintro e w1 ⟨rfl, hb1⟩
      go_wp2_with fail
      go_ret
      exact ⟨by rw [← hd]; rfl, hb1⟩
    have HC := Lib.hid hC
    clear hC hI hd
    go_enter Tryd.func91, Tryd.ntmps91
    go_wp2_with fail
    refine HC.out.mono ?_
    rintro e w1 ⟨rfl, hb1⟩
    go_wp2_with fail
    go_ret
    exact ⟨rfl, hb1⟩
  by_cases hok : framesOk L
  · rw [decide_eq_true hok]
    exact key (-1) false (by decide) fun W hT hs => IndexFunc_c W A c L (-1) hT hs hm hp (.inl ⟨rfl, hok⟩)
  · rw [decide_eq_false hok]
    obtain ⟨k, hk, h1, h2⟩ := first_bad L hok
    exact key (k : Int) true (by simp) fun W hT hs => IndexFunc_c W A c L k hT hs hm hp (.inr ⟨k, hk, rfl, h1, h2⟩)
set_option maxHeartbeats 1000000 in
theorem framesMay_c (w : World) (A : Option Addr) (c : Nat) (L : List FrameV) (hT : Tabs w) (hs : FramesIn w A L) (hm : L.length ≤ 1048576) (hp : ∀ f ∈ L, f.Small) :
    Calls Tryd.prog 92 #[.slice A L.length c] w fun e w' => e = .returned (.bool (decide (framesOk L))) ∧ Below w.heap.size w w' := by
  have HS := Lib.hid hs
  have HT := Lib.hid hT
  have HP := Lib.hid hp
  clear hs hT hp
  go_enter Tryd.func92, Tryd.ntmps92
  go_wp2_with fail
  go_loopw [3] (fun i wr => ∃ k : Nat, k ≤ L.length ∧ i = .int .i64 k ∧ Hid (∀ i (hi : i < L.length), i < k → frameFault L[i].d = 0) ∧ Below w.heap.size w wr) (fun i _ => L.length - (intOf i).toNat)
  case atStart => exact ⟨0, Nat.zero_le _, rfl, fun i hi h => absurd h (by omega), Below.refl _ _⟩
  case round =>
    obtain ⟨k, hk, rfl, hg, hbw⟩ := hrel
    by_cases hlt : k < L.length
    · obtain ⟨b, o, rfl, hbs, g0, g1, g2, g3, g4, hop⟩ := (HS.out.later hbw).at_ hlt
      have hsm := HP.out _ (List.getElem_mem hlt)
      have HB := Lib.hid (fun (W : World) (hT : Tabs W) (hs : OpIn (· < W.heap.size) W L[k].o.A L[k].o.ps) => FrameFault_c W L[k].k L[k].h L[k].e L[k].o.A L[k].o.c L[k].o.ps L[k].s hT hs hsm.op.len hsm.op.text hsm.text)
      clear hsm
      by_cases hf : frameFault L[k].d = 0
      · have HG := Lib.hid (show ∀ i (hi : i < L.length), i < k + 1 → frameFault L[i].d = 0 by
          intro i hi hik
          rcases Nat.lt_or_ge i k with q | q
          · exact hg.out i hi q
          · obtain rfl : i = k := by omega
            exact hf)
        rw [hf] at HB
        clear hf hg
        generalize L[k] = f at *
        obtain ⟨fk, fh, fe, ⟨fA, fc, fp⟩, fs⟩ := f
        dsimp only at *
        go_wp2_with fail
        refine (HB.out _ (HT.out.later hbw) hop).mono ?_
        rintro r w1 ⟨rfl, hb1⟩
        go_wp2_with fail
        go_roundw
        case rel => exact ⟨k + 1, by omega, by go_num, HG, bThen hbw hb1⟩
        case measure => simp [intOf]; omega
      · have HR := Lib.hid (show decide (framesOk L) = false from decide_eq_false fun q => hf (q k hlt))
        have hb0 : (frameFault L[k].d != 0) = true := by simpa using hf
        clear hf hg
        generalize L[k] = f at *
        obtain ⟨fk, fh, fe, ⟨fA, fc, fp⟩, fs⟩ := f
        dsimp only at *
        generalize frameFault ⟨fk, fh, fe, fp, fs⟩ = z at *
        go_wp2_with fail
        refine (HB.out _ (HT.out.later hbw) hop).mono ?_
        rintro r w1 ⟨rfl, hb1⟩
        go_wp2_with fail
        go_ret
        exact ⟨by rw [HR.out]; rfl, bThen hbw hb1⟩
    · obtain rfl : k = L.length := by omega
      have HR := Lib.hid (show decide (framesOk L) = true from decide_eq_true fun i hi => hg.out i hi hi)
      clear hg
      go_wp2_with fail
      go_ret
      exact ⟨by rw [HR.out]; rfl, hbw⟩
end Go.Proofs.YtbmdepbmejnlkaaDoor
