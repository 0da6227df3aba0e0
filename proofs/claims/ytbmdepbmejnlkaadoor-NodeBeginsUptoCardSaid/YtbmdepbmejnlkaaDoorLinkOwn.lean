/-
  Contract of link.own: a link in memory of the call's own.
-/
import Derived.Test.YtbmdepbmejnlkaaDoorRows
import Derived.Test.YtbmdepbmejnlkaaDoorFill
namespace Go.Proofs.YtbmdepbmejnlkaaDoor
open Go.ChangeShapes Go.WideShapes Go.ChangeAt Go.RowKit
set_option maxRecDepth 100000
theorem RowOwn.push2 {α : Type} {t : TypeId} {n : Nat} {f : α → List Value} {op : α → OpV} {wr W2 w3 : World} {base : Nat} {Ao A' : Option Addr} {co c' : Nat} {L : List α} {x : α} (hO : RowOwn t n f op wr base Ao co L) (hbs : base ≤ wr.heap.size) (hW : Below wr.heap.size wr W2)
    (hx : OpIn (fun b => wr.heap.size ≤ b ∧ b < W2.heap.size) W2 (op x).A (op x).ps) (hg : W2.grownBy w3 (Value.slice Ao L.length co).ownBlock)
    (hown : w3.ownsRow base t n (.slice A' (L.length + 1) c') (L.length + 1) (L.flatMap f ++ f x))
    (hat : (Value.slice A' (L.length + 1) c').ownBlock = (Value.slice Ao L.length co).ownBlock ∨ (Value.slice A' (L.length + 1) c').ownBlock = some W2.heap.size) : RowOwn t n f op w3 base A' c' (L ++ [x]) := by
  have hs2 := hW.size
  have hs3 := hg.size
  have hlen : (L ++ [x]).length = L.length + 1 := by simp
  have hold : ∀ b, b < W2.heap.size → (Value.slice Ao L.length co).ownBlock ≠ some b → w3.heap[b]? = W2.heap[b]? := fun b hb hne => hg.block b hb (fun e => hne e.symm)
  have hnew : ∀ b, b < W2.heap.size → (Value.slice Ao L.length co).ownBlock ≠ some b → (Value.slice A' (L.length + 1) c').ownBlock ≠ some b := fun b hb hne e => by
    rcases hat with h | h
    · exact hne (h.symm.trans e)
    · rw [h] at e
      simp at e
      omega
  refine ⟨by rw [hlen]; simpa using hown, fun p hp => ?_⟩
  rw [hlen]
  rcases List.mem_append.1 hp with hp | hp
  · refine (hO.each p hp).moved fun b hb => ⟨⟨⟨hb.1.1, by omega⟩, hnew b (by omega) hb.2⟩, (hold b (by omega) hb.2).trans (hW.block b hb.1.2)⟩
  · obtain rfl : p = x := by simpa using hp
    refine hx.moved fun b hb => ?_
    have hne : (Value.slice Ao L.length co).ownBlock ≠ some b := fun e => by have := (hO.row.lt b e).2; omega
    exact ⟨⟨⟨by omega, by omega⟩, hnew b (by omega) hne⟩, hold b hb.2 hne⟩
theorem fresh_later {wr wr0 w2 W2 : World} {A : Option Addr} {ps : List PartD} (h : OpIn (fun b => wr0.heap.size ≤ b ∧ b < w2.heap.size) w2 A ps) (h0 : wr.heap.size ≤ wr0.heap.size) (hb : Below w2.heap.size w2 W2) : OpIn (fun b => wr.heap.size ≤ b ∧ b < W2.heap.size) W2 A ps :=
  h.moved fun b hx => ⟨⟨Nat.le_trans h0 hx.1, Nat.lt_of_lt_of_le hx.2 hb.size⟩, hb.block b hx.2⟩
abbrev zeroL : LinkV := ⟨0, 0, none, 0, [], none, 0, [], 0⟩
/-- The blocks of the link that came, of the link that goes, and of the one that is made. -/
structure OutAt (w0 w : World) (R X base : Nat) (l lx : LinkV) : Prop where
  p : LinkAt w w0.heap.size l
  r : LinkAt w R zeroL
  x : LinkAt w X lx
  b : Below w0.heap.size w0 w
  s : base ≤ w.heap.size
theorem OutAt.later {w0 w w' : World} {R X base : Nat} {l lx : LinkV} (k : OutAt w0 w R X base l lx) (hb : Below w.heap.size w w') : OutAt w0 w' R X base l lx :=
  ⟨(hb.block _ (five_cell k.p).2.2.2.2.2.2.2.2.2.2).trans k.p, (hb.block _ (five_cell k.r).2.2.2.2.2.2.2.2.2.2).trans k.r, (hb.block _ (five_cell k.x).2.2.2.2.2.2.2.2.2.2).trans k.x, bThen k.b hb, Nat.le_trans k.s hb.size⟩
theorem OutAt.grown {w0 w w3 : World} {R X base : Nat} {l lx : LinkV} {ob : Option Nat} (k : OutAt w0 w R X base l lx) (hP : w0.heap.size < R ∧ R < X ∧ X < base) (hg : w.grownBy w3 ob) (hob : ∀ g, ob = some g → base ≤ g) : OutAt w0 w3 R X base l lx := by
  have hs := k.s
  have hn : ∀ b, b < base → some b ≠ ob := fun b hb e => by have := hob b e.symm; omega
  exact ⟨(hg.block _ (by omega) (hn _ (by omega))).trans k.p, (hg.block _ (by omega) (hn _ (by omega))).trans k.r, (hg.block _ (by omega) (hn _ (by omega))).trans k.x, k.b.grown hg (by omega) (fun g h => by have := hob g h; omega), Nat.le_trans k.s hg.size⟩
theorem OutAt.sent {w0 w : World} {R X base : Nat} {l : LinkV} {e n h : Int} {sA qA A : Option Addr} {sc qc c : Nat} {s q L : List FrameV} (k : OutAt w0 w R X base l ⟨e, n, sA, sc, s, qA, qc, q, h⟩) (hP : w0.heap.size < R ∧ R < X ∧ X < base) {m : Nat} (hm : L.length = m) : OutAt w0 (w.setCell ⟨X, 2, none⟩ (.slice A m c)) R X base l ⟨e, n, A, c, L, qA, qc, q, h⟩ :=
  ⟨(Below.heap_setCell _ _ _ _ (by show w0.heap.size ≠ X; omega)).trans k.p, (Below.heap_setCell _ _ _ _ (by show R ≠ X; omega)).trans k.r, by subst hm; exact any_set 2 _ k.x, bSet k.b (p := ⟨X, 2, none⟩) (by show w0.heap.size ≤ X; omega) _, by simpa [World.setCell] using k.s⟩
theorem OutAt.queue {w0 w : World} {R X base : Nat} {l : LinkV} {e n h : Int} {sA qA A : Option Addr} {sc qc c : Nat} {s q L : List FrameV} (k : OutAt w0 w R X base l ⟨e, n, sA, sc, s, qA, qc, q, h⟩) (hP : w0.heap.size < R ∧ R < X ∧ X < base) {m : Nat} (hm : L.length = m) : OutAt w0 (w.setCell ⟨X, 3, none⟩ (.slice A m c)) R X base l ⟨e, n, sA, sc, s, A, c, L, h⟩ :=
  ⟨(Below.heap_setCell _ _ _ _ (by show w0.heap.size ≠ X; omega)).trans k.p, (Below.heap_setCell _ _ _ _ (by show R ≠ X; omega)).trans k.r, by subst hm; exact any_set 3 _ k.x, bSet k.b (p := ⟨X, 3, none⟩) (by show w0.heap.size ≤ X; omega) _, by simpa [World.setCell] using k.s⟩
/-- A row of frames of the call's own, all its blocks below mid. -/
structure FramesTo (w : World) (base mid : Nat) (A : Option Addr) (c : Nat) (L : List FrameV) : Prop where
  own : FramesOwn w base A c L
  low : ∀ g, (Value.slice A L.length c).ownBlock = some g → g < mid
  ops : ∀ f ∈ L, OpIn (fun b => (base ≤ b ∧ b < mid) ∧ (Value.slice A L.length c).ownBlock ≠ some b) w f.o.A f.o.ps
theorem FramesTo.of {w : World} {base : Nat} {A : Option Addr} {c : Nat} {L : List FrameV} (h : FramesOwn w base A c L) : FramesTo w base w.heap.size A c L := ⟨h, fun g hg => (h.row.lt g hg).2, h.each⟩
theorem FramesTo.kept {w w' : World} {base mid : Nat} {A : Option Addr} {c : Nat} {L : List FrameV} (h : FramesTo w base mid A c L) (hm : mid ≤ w'.heap.size) (hk : ∀ b, base ≤ b → b < mid → w'.heap[b]? = w.heap[b]?) : FramesTo w' base mid A c L := by
  refine ⟨⟨⟨h.own.row.1, ?_⟩, fun f hf => (h.ops f hf).moved fun b hb => ⟨⟨⟨hb.1.1, by omega⟩, hb.2⟩, hk b hb.1.1 hb.1.2⟩⟩, h.low, fun f hf => (h.ops f hf).moved fun b hb => ⟨hb, hk b hb.1.1 hb.1.2⟩⟩
  rcases h.own.row.2 with hn | ⟨g, cap, cur, e, hb, hg, rest⟩
  · exact .inl hn
  · have hlt := h.low g (by rw [e]; rfl)
    exact .inr ⟨g, cap, cur, e, hb, (hk g hb hlt).trans hg, rest⟩
theorem FramesTo.mono {w : World} {base base' mid : Nat} {A : Option Addr} {c : Nat} {L : List FrameV} (h : FramesTo w base mid A c L) (hb : base' ≤ base) : FramesTo w base' mid A c L :=
  ⟨h.own.mono hb, h.low, fun f hf => (h.ops f hf).moved fun _ hx => ⟨⟨⟨Nat.le_trans hb hx.1.1, hx.1.2⟩, hx.2⟩, rfl⟩⟩
/-- A call that hands back a link that says this, in memory of its own. -/
def RetOwn (w : World) (d : LinkD) (e : Ending) (w' : World) : Prop :=
  ∃ (l : LinkV) (mid : Nat), e = .returned l.val ∧ l.d = d ∧ (w.heap.size ≤ mid ∧ mid ≤ w'.heap.size) ∧ FramesTo w' w.heap.size mid l.sA l.sc l.s ∧ FramesOwn w' mid l.qA l.qc l.q ∧ Below w.heap.size w w'
set_option maxHeartbeats 1000000 in
theorem linkOwn_c (w : World) (l : LinkV) (hi : l.In w) (hm : l.Small) : Calls Tryd.prog 106 #[l.val] w (RetOwn w l.d) := by
  obtain ⟨j0, hj0, hy0, hy1, hy2⟩ := info_parts infoFrame
  obtain ⟨e, n, sA, sc, s, qA, qc, q, h⟩ := l
  obtain ⟨W1, hW1⟩ : ∃ W1, W1 = w.alloc (.cells #[.int .i64 e, .int .i64 n, .slice sA s.length sc, .slice qA q.length qc, .int .i64 h] 63) := ⟨_, rfl⟩
  obtain ⟨W2, hW2⟩ : ∃ W2, W2 = W1.alloc (.cells #[.int .i64 0, .int .i64 0, .slice none 0 0, .slice none 0 0, .int .i64 0] 63) := ⟨_, rfl⟩
  obtain ⟨WA, hWA⟩ : ∃ WA, WA = W2.alloc (.cells #[.int .i64 e, .int .i64 n, .slice none 0 0, .slice none 0 0, .int .i64 h] 63) := ⟨_, rfl⟩
  have g1 : W1.heap.size = w.heap.size + 1 := by rw [hW1]; simp
  have g2 : W2.heap.size = W1.heap.size + 1 := by rw [hW2]; simp
  have g3 : WA.heap.size = W2.heap.size + 1 := by rw [hWA]; simp
  have k1 : Below w.heap.size w W1 := by rw [hW1]; exact bAlloc (Below.refl _ _) _
  have k2 : Below W1.heap.size W1 W2 := by rw [hW2]; exact bAlloc (Below.refl _ _) _
  have k3 : Below W2.heap.size W2 WA := by rw [hWA]; exact bAlloc (Below.refl _ _) _
  have HOA := Lib.hid (show OutAt w WA W1.heap.size W2.heap.size WA.heap.size ⟨e, n, sA, sc, s, qA, qc, q, h⟩ ⟨e, n, none, 0, [], none, 0, [], h⟩ from
    ⟨(k3.block _ (by omega)).trans ((k2.block _ (by omega)).trans (by rw [hW1]; exact heap_alloc_new _ _)), (k3.block _ (by omega)).trans (by rw [hW2]; exact heap_alloc_new _ _), by rw [hWA]; exact heap_alloc_new _ _, bThen k1 (bThen k2 k3), Nat.le_refl _⟩)
  have HW := Lib.hid (show ((w.alloc (.cells #[.int .i64 e, .int .i64 n, .slice sA s.length sc, .slice qA q.length qc, .int .i64 h] 63)).alloc (.cells #[.int .i64 0, .int .i64 0, .slice none 0 0, .slice none 0 0, .int .i64 0] 63)).alloc (.cells #[.int .i64 e, .int .i64 n, .slice none 0 0, .slice none 0 0, .int .i64 h] 63) = WA by rw [hWA, hW2, hW1])
  obtain ⟨R, hR⟩ : ∃ R, R = W1.heap.size := ⟨_, rfl⟩
  obtain ⟨X, hX⟩ : ∃ X, X = W2.heap.size := ⟨_, rfl⟩
  have HE1 := Lib.hid (show w.heap.size + 1 + 1 = X by omega)
  have HE2 := Lib.hid (show w.heap.size + 1 = R by omega)
  have hP : w.heap.size < R ∧ R < X ∧ X < WA.heap.size := by omega
  rw [← hR, ← hX] at HOA
  have HI := Lib.hid hi
  have HM := Lib.hid hm
  have hsl := hm.sl
  have hql := hm.ql
  clear hR hX k1 k2 k3 g1 g2 g3 hWA hW2 hW1 hi hm
  go_enter Tryd.func106, Tryd.ntmps106
  go_wp2_with fail
  rw [HW.out, HE1.out, HE2.out]
  go_loopw [18] (fun i wr => ∃ (k : Nat) (L' : List FrameV) (Ao : Option Addr) (co : Nat), i = .int .i64 k ∧ k ≤ s.length ∧ L'.length = k ∧ Hid (L'.map FrameV.d = (s.take k).map FrameV.d) ∧ OutAt w wr R X WA.heap.size ⟨e, n, sA, sc, s, qA, qc, q, h⟩ ⟨e, n, Ao, co, L', none, 0, [], h⟩ ∧ FramesOwn wr WA.heap.size Ao co L') (fun i _ => s.length - (intOf i).toNat)
  case atStart => exact ⟨0, [], none, 0, rfl, Nat.zero_le _, rfl, rfl, HOA.out, RowOwn.nil _ _⟩
  case round =>
    obtain ⟨k, L', Ao, co, rfl, hk, hL', hps, hout, hown⟩ := hrel
    subst hL'
    have HOUT := Lib.hid hout
    have hsz := hout.s
    obtain ⟨x0, x1, x2, x3, x4, f0, f1, f2, f3, f4, hxz⟩ := five_cell hout.x
    have hbw := Lib.hid hout.b
    have HO := Lib.hid hown
    (try dsimp only at x0 x1 x2 x3 x4)
    clear hout hown
    by_cases hlt : L'.length < s.length
    · obtain ⟨b, o, rfl, hbs, g0, g1, g2, g3, g4, hop⟩ := (FramesIn.later HI.out.s hbw.out).at_ hlt
      have hsm := (HM.out.s _ (List.getElem_mem hlt)).op.len
      have HT := Lib.hid (show (s.take (L'.length + 1)).map FrameV.d = (s.take L'.length).map FrameV.d ++ [s[L'.length].d] by rw [List.take_succ_eq_append_getElem hlt, List.map_append]; rfl)
      (try dsimp only at hsm)
      generalize s[L'.length] = f at *
      obtain ⟨fk, fh, fe, ⟨fA, fc, fp⟩, fs⟩ := f
      (try dsimp only at *)
      have HC := Lib.hid (fun W hs => copyFrame_c W fk fh fe fA fc fp fs hs hsm)
      have HOP := Lib.hid hop
      clear hop hsm
      go_wp2_with (refine stop_at ?_)
      refine ⟨?_⟩
      go_region_law (first
        | (refine step_append_sl _ rfl _ _ 61 rfl WA.heap.size 83 j0 (.agg #[.int .i64 0, .int .i64 0, .int .i64 0, .slice none 0 0, .string ⟨#[]⟩]) 5 64 Tryd.underlying61 hj0 hy0 hy1 hy2 rfl (by decide) _ _ _ rfl (HO.out.later (by repeat (first | exact Below.refl _ _ | apply bGrow | apply bAlloc | apply Below.drew | apply bDrewN | apply bIter))).row (fun _ => True) _ _ _ _ rfl (row_top (by rfl) (by simp)) ?_ ?_ ?_ ?_ ?_; (intro u hu; simp at hu; rcases hu with rfl | rfl | rfl | rfl | rfl <;> rfl); (unfold maxLen; omega); omega; (simp; omega); intro A' c' w3 hown' hgrow hat; obtain ⟨y0, y1, y2, y3, y4, z0, z1, z2, z3, z4, yz⟩ := five_cell ((HOUT.out.later (show Below wr.heap.size wr _ from (by repeat (first | exact Below.refl _ _ | apply bGrow | apply bAlloc | apply Below.drew | apply bDrewN | apply bIter)))).grown hP hgrow (fun g hg => (HO.out.row.lt g hg).1)).x)
        | (go_simp; go_at_call 101; refine (HC.out _ ?_).mono ?_; exact Sl.later HOP.out (by repeat (first | exact Below.refl _ _ | apply bGrow | apply bAlloc | apply Below.drew | apply bDrewN | apply bIter)); rintro r w2 ⟨A2, c2, rfl, ho2, hb2⟩; obtain ⟨⟨d2, os2⟩, rfl⟩ := beyond_of hb2))
      all_goals (
        have hll : (L' ++ [(⟨fk, fh, fe, ⟨A2, c2, fp⟩, fs⟩ : FrameV)]).length = L'.length + 1 := by simp
        have hP3 := RowOwn.push2 (x := (⟨fk, fh, fe, ⟨A2, c2, fp⟩, fs⟩ : FrameV)) HO.out (by omega) (show Below wr.heap.size wr _ from (by repeat (first | exact Below.refl _ _ | apply bGrow | apply bAlloc | apply Below.drew | apply bDrewN | apply bIter))) (fresh_later ho2 (by simp) (by repeat (first | exact Below.refl _ _ | apply bGrow | apply bAlloc | apply Below.drew | apply bDrewN | apply bIter))) hgrow hown' hat
        have hO3 := ((HOUT.out.later (show Below wr.heap.size wr _ from (by repeat (first | exact Below.refl _ _ | apply bGrow | apply bAlloc | apply Below.drew | apply bDrewN | apply bIter)))).grown hP hgrow (fun g hg => (HO.out.row.lt g hg).1)).sent (A := A') (c := c') hP hll
        refine post_hide (fun G => OutAt w G R X WA.heap.size ⟨e, n, some ⟨b, o, none⟩, sc, s, qA, qc, q, h⟩ ⟨e, n, A', c', (L' ++ [(⟨fk, fh, fe, ⟨A2, c2, fp⟩, fs⟩ : FrameV)]), none, 0, [], h⟩ ∧ FramesOwn G WA.heap.size A' c' (L' ++ [(⟨fk, fh, fe, ⟨A2, c2, fp⟩, fs⟩ : FrameV)])) ⟨hO3, hP3.kept (by simp [World.setCell]) (fun g hg _ => Below.heap_setCell _ _ _ _ (by show g ≠ X; omega))⟩ ?_
        clear hP3 hO3 hown' hgrow hat ho2 hb2 y0 y1 y2 y3 y4 z0 z1 z2 z3 z4 yz
        rintro G ⟨hO4, hP4⟩
        go_wp2_with fail
        go_roundw
        case rel => exact ⟨L'.length + 1, L' ++ [(⟨fk, fh, fe, ⟨A2, c2, fp⟩, fs⟩ : FrameV)], A', c', by go_num, by omega, hll, by rw [List.map_append, hps.out, HT.out]; rfl, hO4, hP4⟩
        case measure => simp [intOf]; omega)
    · obtain hk' : L'.length = s.length := by omega
      rw [hk', List.take_length] at hps
      have HLS := Lib.hid hk'
      obtain ⟨wm, hwm⟩ : ∃ wm, wm = wr := ⟨_, rfl⟩
      subst hwm
      have hmid := hsz
      have HS1 := Lib.hid (FramesTo.of HO.out)
      have HD1 := Lib.hid hps.out
      have HOM := HOUT
      clear hk' hps
      obtain ⟨p0, p1, p2, p3, p4, _, _, _, _, _, _⟩ := five_cell HOUT.out.p
      (try dsimp only at p0 p1 p2 p3 p4)
      go_wp2_with fail
      go_loopw [33] (fun i wr => ∃ (k : Nat) (Lq : List FrameV) (Bo : Option Addr) (cq : Nat), i = .int .i64 k ∧ k ≤ q.length ∧ Lq.length = k ∧ Hid (Lq.map FrameV.d = (q.take k).map FrameV.d) ∧ OutAt w wr R X WA.heap.size ⟨e, n, sA, sc, s, qA, qc, q, h⟩ ⟨e, n, Ao, co, L', Bo, cq, Lq, h⟩ ∧ FramesOwn wr wm.heap.size Bo cq Lq ∧ Upon wm.heap.size X wm wr) (fun i _ => q.length - (intOf i).toNat)
      case atStart => exact ⟨0, [], none, 0, rfl, Nat.zero_le _, rfl, rfl, HOM.out, RowOwn.nil _ _, Upon.refl _ _ _⟩
      case round =>
        obtain ⟨k, Lq, Bo, cq, rfl, hk, hL', hps, hout, hown, hup⟩ := hrel
        subst hL'
        have HOUT := Lib.hid hout
        have hsz := hout.s
        obtain ⟨x0, x1, x2, x3, x4, f0, f1, f2, f3, f4, hxz⟩ := five_cell hout.x
        have hbw := Lib.hid hout.b
        have hszm := hup.size
        have HUP := Lib.hid hup
        have HO := Lib.hid hown
        (try dsimp only at x0 x1 x2 x3 x4)
        clear hout hown hup
        by_cases hlt : Lq.length < q.length
        · obtain ⟨b, o, rfl, hbs, g0, g1, g2, g3, g4, hop⟩ := (FramesIn.later HI.out.q hbw.out).at_ hlt
          have hsm := (HM.out.q _ (List.getElem_mem hlt)).op.len
          have HT := Lib.hid (show (q.take (Lq.length + 1)).map FrameV.d = (q.take Lq.length).map FrameV.d ++ [q[Lq.length].d] by rw [List.take_succ_eq_append_getElem hlt, List.map_append]; rfl)
          (try dsimp only at hsm)
          generalize q[Lq.length] = f at *
          obtain ⟨fk, fh, fe, ⟨fA, fc, fp⟩, fs⟩ := f
          (try dsimp only at *)
          have HC := Lib.hid (fun W hs => copyFrame_c W fk fh fe fA fc fp fs hs hsm)
          have HOP := Lib.hid hop
          clear hop hsm
          go_wp2_with (refine stop_at ?_)
          refine ⟨?_⟩
          go_region_law (first
            | (refine step_append_sl _ rfl _ _ 61 rfl wm.heap.size 83 j0 (.agg #[.int .i64 0, .int .i64 0, .int .i64 0, .slice none 0 0, .string ⟨#[]⟩]) 5 64 Tryd.underlying61 hj0 hy0 hy1 hy2 rfl (by decide) _ _ _ rfl (HO.out.later (by repeat (first | exact Below.refl _ _ | apply bGrow | apply bAlloc | apply Below.drew | apply bDrewN | apply bIter))).row (fun _ => True) _ _ _ _ rfl (row_top (by rfl) (by simp)) ?_ ?_ ?_ ?_ ?_; (intro u hu; simp at hu; rcases hu with rfl | rfl | rfl | rfl | rfl <;> rfl); (unfold maxLen; omega); omega; (simp; omega); intro A' c' w3 hown' hgrow hat; obtain ⟨y0, y1, y2, y3, y4, z0, z1, z2, z3, z4, yz⟩ := five_cell ((HOUT.out.later (show Below wr.heap.size wr _ from (by repeat (first | exact Below.refl _ _ | apply bGrow | apply bAlloc | apply Below.drew | apply bDrewN | apply bIter)))).grown hP hgrow (fun g hg => Nat.le_trans hmid (HO.out.row.lt g hg).1)).x)
            | (go_simp; go_at_call 101; refine (HC.out _ ?_).mono ?_; exact Sl.later HOP.out (by repeat (first | exact Below.refl _ _ | apply bGrow | apply bAlloc | apply Below.drew | apply bDrewN | apply bIter)); rintro r w2 ⟨A2, c2, rfl, ho2, hb2⟩; obtain ⟨⟨d2, os2⟩, rfl⟩ := beyond_of hb2))
          all_goals (
            have hll : (Lq ++ [(⟨fk, fh, fe, ⟨A2, c2, fp⟩, fs⟩ : FrameV)]).length = Lq.length + 1 := by simp
            have hP3 := RowOwn.push2 (x := (⟨fk, fh, fe, ⟨A2, c2, fp⟩, fs⟩ : FrameV)) HO.out (by omega) (show Below wr.heap.size wr _ from (by repeat (first | exact Below.refl _ _ | apply bGrow | apply bAlloc | apply Below.drew | apply bDrewN | apply bIter))) (fresh_later ho2 (by simp) (by repeat (first | exact Below.refl _ _ | apply bGrow | apply bAlloc | apply Below.drew | apply bDrewN | apply bIter))) hgrow hown' hat
            have hO3 := ((HOUT.out.later (show Below wr.heap.size wr _ from (by repeat (first | exact Below.refl _ _ | apply bGrow | apply bAlloc | apply Below.drew | apply bDrewN | apply bIter)))).grown hP hgrow (fun g hg => Nat.le_trans hmid (HO.out.row.lt g hg).1)).queue (A := A') (c := c') hP hll
            have hU3 := (HUP.out.trans (Upon.of_below (show Below wr.heap.size wr _ from (by repeat (first | exact Below.refl _ _ | apply bGrow | apply bAlloc | apply Below.drew | apply bDrewN | apply bIter))) (by omega))).trans (Upon.grown (X := X) hgrow (by simp; omega) (fun g hg => (HO.out.row.lt g hg).1))
            refine post_hide (fun G => OutAt w G R X WA.heap.size ⟨e, n, sA, sc, s, some ⟨b, o, none⟩, qc, q, h⟩ ⟨e, n, Ao, co, L', A', c', (Lq ++ [(⟨fk, fh, fe, ⟨A2, c2, fp⟩, fs⟩ : FrameV)]), h⟩ ∧ FramesOwn G wm.heap.size A' c' (Lq ++ [(⟨fk, fh, fe, ⟨A2, c2, fp⟩, fs⟩ : FrameV)]) ∧ Upon wm.heap.size X wm G) ⟨hO3, hP3.kept (by simp [World.setCell]) (fun g hg _ => Below.heap_setCell _ _ _ _ (by show g ≠ X; omega)), hU3.trans (Upon.set _ _ _)⟩ ?_
            clear hP3 hO3 hU3 hown' hgrow hat ho2 hb2 y0 y1 y2 y3 y4 z0 z1 z2 z3 z4 yz
            rintro G ⟨hO4, hP4, hU4⟩
            go_wp2_with fail
            go_roundw
            case rel => exact ⟨Lq.length + 1, Lq ++ [(⟨fk, fh, fe, ⟨A2, c2, fp⟩, fs⟩ : FrameV)], A', c', by go_num, by omega, hll, by rw [List.map_append, hps.out, HT.out]; rfl, hO4, hP4, hU4⟩
            case measure => simp [intOf]; omega)
        · obtain hk' : Lq.length = q.length := by omega
          rw [hk', List.take_length] at hps
          have HOUT3 := HOUT
          obtain ⟨r0, r1, r2, r3, r4, s0, s1, s2, s3, s4, hrz⟩ := five_cell HOUT.out.r
          have n1 : ¬ R = X := by omega
          have n2 : ¬ X = R := by omega
          have HDQ := Lib.hid hps.out
          clear hk' hps
          go_wp2_with fail
          obtain ⟨W5, hW5⟩ : ∃ W5, W5 = (((((wr.setCell ⟨R, 0, none⟩ (.int .i64 e)).setCell ⟨R, 1, none⟩ (.int .i64 n)).setCell ⟨R, 2, none⟩ (.slice Ao L'.length co)).setCell ⟨R, 3, none⟩ (.slice Bo Lq.length cq)).setCell ⟨R, 4, none⟩ (.int .i64 h)) := ⟨_, rfl⟩
          rw [← hW5]
          have hO : Only R wr W5 := by rw [hW5]; exact ((((Only.set _ _ _).trans (Only.set _ _ _)).trans (Only.set _ _ _)).trans (Only.set _ _ _)).trans (Only.set _ _ _)
          have hR5 : LinkAt W5 R ⟨e, n, Ao, co, L', Bo, cq, Lq, h⟩ := by
            have h1 := any_set 4 (.int .i64 h) (any_set 3 (.slice Bo Lq.length cq) (any_set 2 (.slice Ao L'.length co) (any_set 1 (.int .i64 n) (any_set 0 (.int .i64 e) HOUT.out.r))))
            show W5.heap[R]? = some (Obj.cells #[.int .i64 e, .int .i64 n, .slice Ao L'.length co, .slice Bo Lq.length cq, .int .i64 h] 63 (0, 0))
            rw [hW5]
            exact h1
          clear hW5
          have hzO := hO.size
          refine post_hide (fun G => LinkAt G R ⟨e, n, Ao, co, L', Bo, cq, Lq, h⟩ ∧ FramesTo G w.heap.size wm.heap.size Ao co L' ∧ FramesOwn G wm.heap.size Bo cq Lq ∧ Below w.heap.size w G ∧ wm.heap.size ≤ G.heap.size) ⟨hR5, ?_, HO.out.kept hO.size (fun b hb hl => hO.block b hl (by omega)), HOUT.out.b.trans (hO.below (by omega) (by omega)), by omega⟩ ?_
          · refine ((HS1.out.kept (w' := wr) hszm (fun b hb hl => HUP.out.block b hl (by omega))).kept (by omega) (fun b hb hl => hO.block b (by omega) (by omega))).mono (by omega)
          rintro G ⟨hR6, hS6, hQ6, hB6, hz6⟩
          have hwm : w.heap.size ≤ wm.heap.size := by omega
          clear hR5 hO hzO r0 r1 r2 r3 r4 s0 s1 s2 s3 s4 hrz
          obtain ⟨r0, r1, r2, r3, r4, _, _, _, _, _, _⟩ := five_cell hR6
          refine bodyPost_ret (v := (⟨e, n, Ao, co, L', Bo, cq, Lq, h⟩ : LinkV).val) (by simp [results, Tryd.results106, go_sem, r0, r1, r2, r3, r4]) rfl ?_
          exact ⟨⟨e, n, Ao, co, L', Bo, cq, Lq, h⟩, wm.heap.size, rfl, by simp only [LinkV.d, HD1.out, HDQ.out], ⟨hwm, hz6⟩, hS6, hQ6, hB6⟩
end Go.Proofs.YtbmdepbmejnlkaaDoor
