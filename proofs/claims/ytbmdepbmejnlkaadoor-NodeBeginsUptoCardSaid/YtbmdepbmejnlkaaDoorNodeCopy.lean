/-
  Contract of the reference's NodeCopy: a node in memory of the call's own.
-/
import Derived.Test.YtbmdepbmejnlkaaDoorRows
import Derived.Test.YtbmdepbmejnlkaaDoorNodeOwn
namespace Go.Proofs.YtbmdepbmejnlkaaDoor
open Go.ChangeShapes Go.WideShapes Go.ChangeAt Go.RowKit
set_option maxRecDepth 100000
theorem opsS_tail {X Y : World} {d base : Nat} {os : Array Obj} {A : Option Addr} {c : Nat} {L : List OpV} (h : OpsOwn (Go.Sort.grow (redrawn X d) os) base A c L) (hz : X.heap.size = Y.heap.size) (hb : X.heap.size ≤ base) : OpsS (fun b => X.heap.size ≤ b ∧ b < (Go.Sort.grow (redrawn Y d) os).heap.size) (Go.Sort.grow (redrawn Y d) os) A L :=
  (OpsS.of h).moved fun b hx => ⟨⟨by omega, by have h1 := hx.2; simp [Go.Sort.grow, redrawn] at h1 ⊢; omega⟩, grow_tail X Y d os hz (by omega)⟩
theorem OwnAt.out {w WA G : World} {R X : Nat} {nv xv : Array Value} (h0 : WA.heap[w.heap.size]? = some (.cells nv 28 (0, 0)) ∧ WA.heap[R]? = some (.cells #[.int .i64 0, .int .i64 0, .int .i64 0, .bool false, .string ⟨#[]⟩, .slice none 0 0, .slice none 0 0, .slice none 0 0] 28 (0, 0))) (hb : Below w.heap.size w WA) (hwR : w.heap.size < R) (hR : R < WA.heap.size) (k : Below WA.heap.size WA G) (hX : WA.heap.size ≤ X) (x : G.heap[X]? = some (.cells xv 28 (0, 0))) : OwnAt w R X nv xv G :=
  ⟨(k.block _ (by omega)).trans h0.1, (k.block _ hR).trans h0.2, x, bThen hb k, hwR, by omega, (Array.getElem?_eq_some_iff.1 x).1⟩
theorem two_blocks (w : World) (nv : Array Value) :
    ((w.alloc (.cells nv 28)).alloc (.cells #[.int .i64 0, .int .i64 0, .int .i64 0, .bool false, .string ⟨#[]⟩, .slice none 0 0, .slice none 0 0, .slice none 0 0] 28)).heap[w.heap.size]? = some (.cells nv 28 (0, 0)) ∧ ((w.alloc (.cells nv 28)).alloc (.cells #[.int .i64 0, .int .i64 0, .int .i64 0, .bool false, .string ⟨#[]⟩, .slice none 0 0, .slice none 0 0, .slice none 0 0] 28)).heap[w.heap.size + 1]? = some (.cells #[.int .i64 0, .int .i64 0, .int .i64 0, .bool false, .string ⟨#[]⟩, .slice none 0 0, .slice none 0 0, .slice none 0 0] 28 (0, 0)) := by
  refine ⟨(heap_alloc_old _ _ _ (by simp)).trans (World.alloc_heap_new _ _), ?_⟩
  have := World.alloc_heap_new (w.alloc (.cells nv 28)) (.cells #[.int .i64 0, .int .i64 0, .int .i64 0, .bool false, .string ⟨#[]⟩, .slice none 0 0, .slice none 0 0, .slice none 0 0] 28)
  rwa [World.size_alloc] at this
theorem OwnAt.grown {w W Z w3 : World} {R X : Nat} {nv xv : Array Value} {ob : Option Nat} (k : OwnAt w R X nv xv W) (hb : Below W.heap.size W Z) (hg : Z.grownBy w3 ob) (hl : ∀ g, ob = some g → X < g) : OwnAt w R X nv xv w3 := by
  have h1 := k.wr
  have h2 := k.rx
  have h3 := k.xz
  have h4 := hb.size
  have h5 := hg.size
  have hk : ∀ b, b < W.heap.size → b ≤ X → w3.heap[b]? = W.heap[b]? := fun b h hx => (hg.block b (by omega) (fun e => by have := hl b e.symm; omega)).trans (hb.block b h)
  exact ⟨(hk _ (by omega) (by omega)).trans k.nd, (hk _ (by omega) (by omega)).trans k.r, (hk _ h3 (Nat.le_refl _)).trans k.x, Below.grown (bThen k.b hb) hg (by have := k.b.size; omega) (fun g e => by have := hl g e; omega), h1, h2, by omega⟩
theorem grown_low {W Z w3 : World} {ob : Option Nat} {B : Nat} (hb : Below W.heap.size W Z) (hg : Z.grownBy w3 ob) (hl : ∀ g, ob = some g → B ≤ g) : W.heap.size ≤ w3.heap.size ∧ ∀ b, b < W.heap.size → b < B → w3.heap[b]? = W.heap[b]? := by
  have h4 := hb.size
  have h5 := hg.size
  exact ⟨by omega, fun b h hx => (hg.block b (by omega) (fun e => by have := hl b e.symm; omega)).trans (hb.block b h)⟩
theorem ownsB {w w' : World} {base size n : Nat} {e : TypeId} {v : Value} {xs : List Value} (h : w.ownsRow base e size v n xs) (hb : Below w.heap.size w w') : w'.ownsRow base e size v n xs :=
  h.kept (row := none) ⟨hb.os, hb.tape, hb.output, hb.size, fun k hk _ => hb.block k hk⟩ (by cases v.ownBlock <;> simp)
theorem ownsSet {w : World} {base size n P j : Nat} {e : TypeId} {v x : Value} {xs : List Value} (h : w.ownsRow base e size v n xs) (hP : v.ownBlock ≠ some P) : (w.setCell ⟨P, j, none⟩ x).ownsRow base e size v n xs :=
  h.kept (row := some P) ⟨rfl, rfl, rfl, by simp [World.setCell], fun k _ hk => Below.heap_setCell _ _ _ _ (fun e1 => hk (by simp [e1]))⟩ (.inr hP)
set_option maxHeartbeats 4000000 in
theorem NodeCopy_c (w : World) (n : NodeV) (hi : n.In w) (hm : n.Small) : Calls Tryd.prog 20 #[n.val] w (RetNodeF w n.d) := by
  obtain ⟨i0, hi0, hz0, hz1, hz2⟩ := info_parts infoSide
  obtain ⟨j0, hj0, hy0, hy1, hy2⟩ := info_parts infoMark
  obtain ⟨me, ep, up, rd, t, sA, sc, S, uA, uc, U, mA, mc, M⟩ := n
  have hSL : S.length ≤ 1048576 := hm.sl
  have hML : M.length ≤ 1048576 := hm.ml
  have HM := Lib.hid hm
  have HI := Lib.hid hi
  have HCU := Lib.hid (fun W hs => opsCopy_c W uA uc U hs hm.ul (fun o ho => (hm.undo o ho).len))
  clear hi hm
  have HA := Lib.hid (two_blocks w #[.int .i64 me, .int .i64 ep, .int .i64 up, .bool rd, .string t, .slice sA S.length sc, .slice uA U.length uc, .slice mA M.length mc])
  obtain ⟨WA, hWA⟩ : ∃ WA, WA = ((w.alloc (.cells #[.int .i64 me, .int .i64 ep, .int .i64 up, .bool rd, .string t, .slice sA S.length sc, .slice uA U.length uc, .slice mA M.length mc] 28)).alloc (.cells #[.int .i64 0, .int .i64 0, .int .i64 0, .bool false, .string ⟨#[]⟩, .slice none 0 0, .slice none 0 0, .slice none 0 0] 28)) := ⟨_, rfl⟩
  rw [← hWA] at HA
  have HBA := Lib.hid (show Below w.heap.size w WA by rw [hWA]; exact bAlloc (bAlloc (Below.refl _ _) _) _)
  have hzA : WA.heap.size = w.heap.size + 1 + 1 := by rw [hWA]; simp
  have HW := Lib.hid hWA.symm
  clear hWA
  obtain ⟨R, hR⟩ : ∃ R, R = w.heap.size + 1 := ⟨_, rfl⟩
  rw [← hR] at HA
  have hwR : w.heap.size < R := by omega
  have hRz : R < WA.heap.size := by omega
  have HRE := Lib.hid hR.symm
  clear hR hzA
  obtain ⟨n0, n1, n2, n3, n4, n5, n6, n7, nz⟩ := eight_cell HA.out.1
  go_enter Tryd.func20, Tryd.ntmps20
  go_wp2_with fail
  rw [HW.out, HRE.out]
  apply cutH
  · intro hΦ
    go_region_held3 (fun w' => w'.cell? ⟨w.heap.size, 0, none⟩ = some (.int .i64 me) ∧ w'.cell? ⟨w.heap.size, 1, none⟩ = some (.int .i64 ep) ∧ w'.cell? ⟨w.heap.size, 2, none⟩ = some (.int .i64 up) ∧ w'.cell? ⟨w.heap.size, 3, none⟩ = some (.bool rd) ∧ w'.cell? ⟨w.heap.size, 4, none⟩ = some (.string t) ∧ w'.cell? ⟨w.heap.size, 6, none⟩ = some (.slice uA U.length uc))
      (go_keep)
      ((go_at_call 54; (with_reducible refine (HCU.out _ ?_).mono ?_); exact (OpsIn.later HI.out.undo HBA.out).later (by repeat (first | exact Below.refl _ _ | apply bGrow | apply bAlloc | apply Below.drew | apply bDrewN | apply bIter)); rintro r w2 ⟨A8, c8, L8, rfl, hd2, ho2, hb2⟩; obtain ⟨⟨d2, os2⟩, rfl⟩ := beyond_of hb2))
    all_goals (
      first
        | (refine post_hide (fun G => OwnAt w R WA.heap.size #[.int .i64 me, .int .i64 ep, .int .i64 up, .bool rd, .string t, .slice sA S.length sc, .slice uA U.length uc, .slice mA M.length mc] #[.int .i64 me, .int .i64 ep, .int .i64 up, .bool rd, .string t, .slice none 0 0, .slice A8 L8.length c8, .slice none 0 0] G ∧ OpsS (fun b => (R < b ∧ b < G.heap.size) ∧ b ≠ WA.heap.size) G A8 L8)
            ⟨OwnAt.out HA.out HBA.out hwR hRz (bThen (bAlloc (Below.refl _ _) _) (below_regrown _ _ _)) (Nat.le_refl _) (((below_regrown _ _ _).block _ (by simp)).trans (World.alloc_heap_new _ _)), ?_⟩ ?_
           · exact (opsS_tail ho2 (by simp) (by simp)).moved fun b hb => ⟨⟨⟨by have := hb.1; simp at this; omega, hb.2⟩, by have := hb.1; simp at this; omega⟩, rfl⟩
           generalize WA.heap.size = X)
        | (refine post_hide (fun G => OwnAt w R (WA.heap.size + os2.size) #[.int .i64 me, .int .i64 ep, .int .i64 up, .bool rd, .string t, .slice sA S.length sc, .slice uA U.length uc, .slice mA M.length mc] #[.int .i64 me, .int .i64 ep, .int .i64 up, .bool rd, .string t, .slice none 0 0, .slice A8 L8.length c8, .slice none 0 0] G ∧ OpsS (fun b => (R < b ∧ b < G.heap.size) ∧ b ≠ WA.heap.size + os2.size) G A8 L8)
            ⟨OwnAt.out HA.out HBA.out hwR hRz (bThen (below_regrown WA d2 os2) (bAlloc (Below.refl _ _) _)) (by omega) (by
              have h1 := World.alloc_heap_new (Go.Sort.grow (redrawn WA d2) os2) (.cells #[.int .i64 me, .int .i64 ep, .int .i64 up, .bool rd, .string t, .slice none 0 0, .slice A8 L8.length c8, .slice none 0 0] 28)
              have h2 : (Go.Sort.grow (redrawn WA d2) os2).heap.size = WA.heap.size + os2.size := by simp [Go.Sort.grow, redrawn]
              rw [h2] at h1
              exact h1), ?_⟩ ?_
           · have h2 : (Go.Sort.grow (redrawn WA d2) os2).heap.size = WA.heap.size + os2.size := by simp [Go.Sort.grow, redrawn]
             exact (opsS_tail (Y := WA) ho2 (by simp) (by simp)).moved fun b hb => ⟨⟨⟨by have := hb.1; simp at this; omega, by have := hb.2; simp at this ⊢; omega⟩, by have := hb.2; omega⟩, heap_alloc_old _ _ b hb.2⟩
           generalize WA.heap.size + os2.size = X)
      clear ho2 hb2
      repeat (rename_i hq; clear hq)
      revert A8 c8 L8 hd2 X
      exact Hid.out hΦ)
  · rintro A8 c8 L8 hd8 X G ⟨hA, hO⟩
    have HA := Lib.hid hA
    have HO8 := Lib.hid hO
    have HD8 := Lib.hid hd8
    clear hA hO hd8
    clear n0 n1 n2 n3 n4 n5 n6 n7 nz
    obtain ⟨B1, hB1⟩ : ∃ B1, B1 = G.heap.size := ⟨_, rfl⟩
    have hwX : w.heap.size < X := by have := HA.out.wr; have := HA.out.rx; omega
    have hneX : ¬ w.heap.size = X := by omega
    have hXB : X < B1 := by have := HA.out.xz; omega
    have HB1 := Lib.hid hB1
    clear hB1
    go_wp2_with fail
    go_loopw [4] (fun i wr => ∃ (k : Nat) (A7 : Option Addr) (c7 : Nat), k ≤ M.length ∧ i = .int .i64 k ∧ Hid (OwnAt w R X #[.int .i64 me, .int .i64 ep, .int .i64 up, .bool rd, .string t, .slice sA S.length sc, .slice uA U.length uc, .slice mA M.length mc] #[.int .i64 me, .int .i64 ep, .int .i64 up, .bool rd, .string t, .slice none 0 0, .slice A8 L8.length c8, .slice A7 k c7] wr) ∧ Hid (wr.ownsRow B1 52 2 (.slice A7 k c7) k ((M.take k).flatMap markCells)) ∧ Hid (B1 ≤ wr.heap.size) ∧ Hid (∀ b, b < B1 → b ≠ X → wr.heap[b]? = G.heap[b]?)) (fun i _ => M.length - (intOf i).toNat)
    case atStart => exact ⟨0, none, 0, Nat.zero_le _, rfl, HA, Lib.hid (World.ownsRow_nil _ _ _ _), Lib.hid (by rw [HB1.out]; exact Nat.le_refl _), fun _ _ _ => rfl⟩
    case round =>
      obtain ⟨k, A7, c7, hk, rfl, HX, HS, hbz, hold⟩ := hrel
      obtain ⟨n0, n1, n2, n3, n4, n5, n6, n7, nz⟩ := eight_cell HX.out.nd
      obtain ⟨x0, x1, x2, x3, x4, x5, x6, x7, xz⟩ := eight_cell HX.out.x
      by_cases hlt : k < M.length
      · obtain ⟨b, o, rfl, hbs, hc⟩ := row_at markCells 2 markCells_len (Sl.later HI.out.marks HX.out.b) hlt
        have ce0 : wr.cell? ⟨b, o + k * 2, none⟩ = some (.int .i64 M[k].1) := hc 0 _ rfl
        have ce1 : wr.cell? ⟨b, o + k * 2 + 1, none⟩ = some (.int .i64 M[k].2) := hc 1 _ rfl
        have hki : (k : Int) < (M.length : Int) := by omega
        have HTK := Lib.hid (show (M.take (k + 1)).flatMap markCells = (M.take k).flatMap markCells ++ [.int .i64 M[k].1, .int .i64 M[k].2] by rw [List.take_succ_eq_append_getElem hlt, List.flatMap_append]; simp [markCells])
        generalize M[k] = m at *
        obtain ⟨m0, m1⟩ := m
        dsimp only at ce0 ce1
        clear hc
        have r7 := tenF HX.out.x 7
        go_wp2_with (refine stop_at ?_)
        refine ⟨?_⟩
        go_region_law (first
          | (refine step_append_sl _ rfl _ _ 26 rfl B1 52 j0 (.agg #[.int .i64 0, .int .i64 0]) 2 16 Tryd.underlying26 hj0 hy0 hy1 hy2 rfl (by decide) _ _ _ rfl (ownsB HS.out (by repeat (first | exact Below.refl _ _ | apply bGrow | apply bAlloc | apply Below.drew | apply bDrewN | apply bIter))) (fun _ => True) _ _ _ _ rfl (row_top (by rfl) (by simp)) ?_ ?_ ?_ ?_ ?_; (intro u hu; simp at hu; rcases hu with rfl | rfl <;> rfl); (unfold maxLen; omega); omega; (have := hbz.out; simp; omega); intro A' c' w3 hown' hgrow hat; (have HX3 := HX.out.grown (show Below wr.heap.size wr _ from (by repeat (first | exact Below.refl _ _ | apply bGrow | apply bAlloc | apply Below.drew | apply bDrewN | apply bIter))) hgrow (fun g hg => by have := (HS.out.lt g hg).1; omega)); have hkp := grown_low (show Below wr.heap.size wr _ from (by repeat (first | exact Below.refl _ _ | apply bGrow | apply bAlloc | apply Below.drew | apply bDrewN | apply bIter))) hgrow (fun g hg => (HS.out.lt g hg).1); obtain ⟨y0, y1, y2, y3, y4, y5, y6, y7, yz⟩ := eight_cell HX3.x; have s7 := tenF HX3.x 7))
        all_goals (
          refine post_hide (fun H => OwnAt w R X #[.int .i64 me, .int .i64 ep, .int .i64 up, .bool rd, .string t, .slice sA S.length sc, .slice uA U.length uc, .slice (some ⟨b, o, none⟩) M.length mc] #[.int .i64 me, .int .i64 ep, .int .i64 up, .bool rd, .string t, .slice none 0 0, .slice A8 L8.length c8, .slice A' (k + 1) c'] H ∧ H.ownsRow B1 52 2 (.slice A' (k + 1) c') (k + 1) ((M.take (k + 1)).flatMap markCells) ∧ B1 ≤ H.heap.size ∧ ∀ b, b < B1 → b ≠ X → H.heap[b]? = G.heap[b]?)
            ⟨HX3.set 7 _, ownsSet (by rw [HTK.out]; exact hown') (fun e => by have := (hown'.lt X e).1; omega), by have := hkp.1; have := hbz.out; simp [World.setCell]; omega, fun b h1 h2 => (Below.heap_setCell _ _ _ _ (by show b ≠ X; omega)).trans ((hkp.2 b (by have := hbz.out; omega) h1).trans (hold.out b h1 h2))⟩ ?_
          clear hown' hgrow hat HX3 hkp y0 y1 y2 y3 y4 y5 y6 y7 yz s7 n0 n1 n2 n3 n4 n5 n6 n7 nz x0 x1 x2 x3 x4 x5 x6 x7 xz r7 ce0 ce1
          rintro H ⟨h1, h2, h3, h4⟩
          have HG4 := Lib.hid h1
          have HG5 := Lib.hid h2
          have HG6 := Lib.hid h3
          have HG7 := Lib.hid h4
          clear h1 h2 h3 h4
          go_wp2_with fail
          go_roundw
          case rel => exact ⟨k + 1, A', c', by omega, by go_num, HG4, HG5, HG6, HG7⟩
          case measure => simp [intOf]; omega)
      · obtain rfl : k = M.length := by omega
        have HS := Lib.hid (show wr.ownsRow B1 52 2 (.slice A7 M.length c7) M.length (M.flatMap markCells) by have := HS.out; rwa [List.take_length] at this)
        obtain ⟨B2, hB2⟩ : ∃ B2, B2 = wr.heap.size := ⟨_, rfl⟩
        have hB12 : B1 ≤ B2 := by have := hbz.out; omega
        have HB2 := Lib.hid hB2
        clear hB2 hk hlt
        obtain ⟨wm, hwm⟩ : ∃ wm, wm = wr := ⟨_, rfl⟩
        subst hwm
        go_wp2_with fail
        go_loopw [5] (fun i wr => ∃ (k : Nat) (L' : List SideV) (Ao : Option Addr) (co : Nat), k ≤ S.length ∧ i = .int .i64 k ∧ Hid (L'.length = k) ∧ Hid (L'.map SideV.d = (S.take k).map SideV.d) ∧ Hid (OwnAt w R X #[.int .i64 me, .int .i64 ep, .int .i64 up, .bool rd, .string t, .slice sA S.length sc, .slice uA U.length uc, .slice mA M.length mc] #[.int .i64 me, .int .i64 ep, .int .i64 up, .bool rd, .string t, .slice Ao L'.length co, .slice A8 L8.length c8, .slice A7 M.length c7] wr) ∧ Hid (SidesOwn wr B2 Ao co L') ∧ Hid (B2 ≤ wr.heap.size) ∧ Hid (∀ b, b < B2 → b ≠ X → wr.heap[b]? = wm.heap[b]?)) (fun i _ => S.length - (intOf i).toNat)
        case atStart => exact ⟨0, [], none, 0, Nat.zero_le _, rfl, rfl, rfl, HX, SidesOwn.nil _ _, Lib.hid (by rw [HB2.out]; exact Nat.le_refl _), fun _ _ _ => rfl⟩
        case round =>
          obtain ⟨k, L', Ao, co, hk, rfl, hL', hps, HX2, HS2, hbz2, hold2⟩ := hrel
          clear n0 n1 n2 n3 n4 n5 n6 n7 nz x0 x1 x2 x3 x4 x5 x6 x7 xz
          obtain ⟨n0, n1, n2, n3, n4, n5, n6, n7, nz⟩ := eight_cell HX2.out.nd
          by_cases hlt : k < S.length
          · obtain ⟨b, o, rfl, hbs, hc⟩ := row_at SideV.cells 10 SideV.cells_len (Sl.later HI.out.sides.row HX2.out.b) hlt
            have ce0 : wr.cell? ⟨b, o + k * 10, none⟩ = some (.int .i64 S[k].p) := hc 0 _ rfl
            have ce1 : wr.cell? ⟨b, o + k * 10 + 1, none⟩ = some (.bool S[k].j) := hc 1 _ rfl
            have ce2 : wr.cell? ⟨b, o + k * 10 + 2, none⟩ = some (.int .i64 S[k].s) := hc 2 _ rfl
            have ce3 : wr.cell? ⟨b, o + k * 10 + 3, none⟩ = some (.int .i64 S[k].h) := hc 3 _ rfl
            have ce4 : wr.cell? ⟨b, o + k * 10 + 4, none⟩ = some (.slice S[k].A S[k].L.length S[k].c) := hc 4 _ rfl
            have ce5 : wr.cell? ⟨b, o + k * 10 + 5, none⟩ = some (.int .i64 S[k].k.e) := hc 5 _ rfl
            have ce6 : wr.cell? ⟨b, o + k * 10 + 6, none⟩ = some (.int .i64 S[k].k.n) := hc 6 _ rfl
            have ce7 : wr.cell? ⟨b, o + k * 10 + 7, none⟩ = some (.slice S[k].k.sA S[k].k.s.length S[k].k.sc) := hc 7 _ rfl
            have ce8 : wr.cell? ⟨b, o + k * 10 + 8, none⟩ = some (.slice S[k].k.qA S[k].k.q.length S[k].k.qc) := hc 8 _ rfl
            have ce9 : wr.cell? ⟨b, o + k * 10 + 9, none⟩ = some (.int .i64 S[k].k.h) := hc 9 _ rfl
            have hki : (k : Int) < (S.length : Int) := by omega
            have HXI := Lib.hid ((HI.out.sides.each _ (List.getElem_mem hlt)).later HX2.out.b)
            have HSM := Lib.hid (HM.out.sides _ (List.getElem_mem hlt))
            have HTK := Lib.hid (show (S.take (k + 1)).map SideV.d = (S.take k).map SideV.d ++ [S[k].d] by rw [List.take_succ_eq_append_getElem hlt, List.map_append]; rfl)
            clear hc
            generalize S[k] = x at *
            obtain ⟨p, j, s, h, A, c, L, ⟨ke, kn, sA2, sc2, ks, qA2, qc2, kq, kh⟩⟩ := x
            dsimp only at ce0 ce1 ce2 ce3 ce4 ce5 ce6 ce7 ce8 ce9
            have HCE := Lib.hid (fun W hs => EdgeCopy_c W s h A c L hs HSM.out.len HSM.out.ops)
            have HCL := Lib.hid (fun W hs => LinkCopy_o W ⟨ke, kn, sA2, sc2, ks, qA2, qc2, kq, kh⟩ hs HSM.out.link)
            obtain ⟨WX, hWX⟩ : ∃ WX, WX = wr.alloc (.cells #[.int .i64 p, .bool j, .int .i64 s, .int .i64 h, .slice A L.length c, .int .i64 ke, .int .i64 kn, .slice sA2 ks.length sc2, .slice qA2 kq.length qc2, .int .i64 kh] 65) := ⟨_, rfl⟩
            have HF0 := Lib.hid (show WX.heap[wr.heap.size]? = some (.cells #[.int .i64 p, .bool j, .int .i64 s, .int .i64 h, .slice A L.length c, .int .i64 ke, .int .i64 kn, .slice sA2 ks.length sc2, .slice qA2 kq.length qc2, .int .i64 kh] 65 (0, 0)) by rw [hWX]; exact World.alloc_heap_new _ _)
            have HBX := Lib.hid (show Below wr.heap.size wr WX by rw [hWX]; exact bAlloc (Below.refl _ _) _)
            have hzX : WX.heap.size = wr.heap.size + 1 := by rw [hWX]; simp
            have HWX := Lib.hid hWX.symm
            obtain ⟨F, hF⟩ : ∃ F, F = wr.heap.size := ⟨_, rfl⟩
            rw [← hF] at HF0
            have HFE := Lib.hid hF
            have hFz : F < WX.heap.size := by omega
            clear hWX hF
            go_wp2_with fail
            rw [HWX.out, ← HFE.out]
            refine (HCE.out WX (HXI.out.ops.later HBX.out)).mono ?_
            rintro e w2 ⟨A1, c1', L1, rfl, hd1, ho1, hb2⟩
            have HF2 := (hb2.block F hFz).trans HF0.out
            obtain ⟨y0, y1, y2, y3, y4, y5, y6, y7, y8, y9, yz⟩ := ten_cell HF2
            have q2 := tenF HF2 2
            have q3 := tenF HF2 3
            have q4 := tenF HF2 4
            obtain ⟨W3, hW3⟩ : ∃ W3, W3 = ((w2.setCell ⟨F, 2, none⟩ (.int .i64 s)).setCell ⟨F, 3, none⟩ (.int .i64 h)).setCell ⟨F, 4, none⟩ (.slice A1 L1.length c1') := ⟨_, rfl⟩
            have hO3 : Only F w2 W3 := by rw [hW3]; exact ((Only.set _ _ _).trans (Only.set _ _ _)).trans (Only.set _ _ _)
            have HF3 := Lib.hid (show W3.heap[F]? = some (.cells #[.int .i64 p, .bool j, .int .i64 s, .int .i64 h, .slice A1 L1.length c1', .int .i64 ke, .int .i64 kn, .slice sA2 ks.length sc2, .slice qA2 kq.length qc2, .int .i64 kh] 65 (0, 0)) by rw [hW3]; exact any_set 4 _ (any_set 3 _ (any_set 2 _ HF2)))
            have hfe := HFE.out
            have hz2 := hb2.size
            have hz3 := hO3.size
            have HB3 := Lib.hid (show Below wr.heap.size wr W3 from bThen HBX.out (bThen hb2 (Below.refl _ _)) |>.trans (hO3.below (by omega) (by omega)))
            have HO3 := Lib.hid (show OpsOwn W3 WX.heap.size A1 c1' L1 from ho1.kept hO3.size (fun b hb hl => hO3.block b hl (by omega)))
            have HD1 := Lib.hid hd1
            have HWS := Lib.hid hW3.symm
            have hFz3 : F < W3.heap.size := by omega
            clear hd1 ho1 hb2 HF2 hW3 hO3 hfe hz2 hz3
            go_wp2_with fail
            rw [HWS.out]
            clear y0 y1 y2 y3 y4 y5 y6 y7 y8 y9 yz q2 q3 q4
            refine (HCL.out W3 (HXI.out.link.later HB3.out)).mono ?_
            rintro e w4 ⟨⟨le, ln, A2, c2, L2, A3, c3, L3, lh⟩, rfl, hld, hls, hb4⟩
            simp only [LinkV.d, LinkD.mk.injEq] at hld
            obtain ⟨e1, e2, hd2, hd3, e5⟩ := hld
            subst e1 e2 e5
            have HF4 := (hb4.block F hFz3).trans HF3.out
            obtain ⟨y0, y1, y2, y3, y4, y5, y6, y7, y8, y9, yz⟩ := ten_cell HF4
            have q5 := tenF HF4 5
            have q6 := tenF HF4 6
            have q7 := tenF HF4 7
            have q8 := tenF HF4 8
            have q9 := tenF HF4 9
            obtain ⟨G2, hG2⟩ : ∃ G2, G2 = ((((w4.setCell ⟨F, 5, none⟩ (.int .i64 le)).setCell ⟨F, 6, none⟩ (.int .i64 ln)).setCell ⟨F, 7, none⟩ (.slice A2 L2.length c2)).setCell ⟨F, 8, none⟩ (.slice A3 L3.length c3)).setCell ⟨F, 9, none⟩ (.int .i64 lh) := ⟨_, rfl⟩
            have hO5 : Only F w4 G2 := by rw [hG2]; exact ((((Only.set _ _ _).trans (Only.set _ _ _)).trans (Only.set _ _ _)).trans (Only.set _ _ _)).trans (Only.set _ _ _)
            have HG1 := Lib.hid (show G2.heap[F]? = some (.cells #[.int .i64 p, .bool j, .int .i64 s, .int .i64 h, .slice A1 L1.length c1', .int .i64 le, .int .i64 ln, .slice A2 L2.length c2, .slice A3 L3.length c3, .int .i64 lh] 65 (0, 0)) by rw [hG2]; exact any_set 9 _ (any_set 8 _ (any_set 7 _ (any_set 6 _ (any_set 5 _ HF4)))))
            have hfe := HFE.out
            have hz4 := hb4.size
            have hz5 := hO5.size
            have HG2 := Lib.hid (show Below wr.heap.size wr G2 from bThen HB3.out hb4 |>.trans (hO5.below (by omega) (by omega)))
            have HG3 := Lib.hid (show (⟨p, j, s, h, A1, c1', L1, ⟨le, ln, A2, c2, L2, A3, c3, L3, lh⟩⟩ : SideV).InS (fun b => wr.heap.size ≤ b ∧ b < G2.heap.size) G2 from by
              have k1 := OpsS.of (HO3.out.kept (w' := G2) (by omega) (fun b hb hl => (hO5.block b (by omega) (by omega)).trans (hb4.block b hl)))
              have k2 := hls.moved (w' := G2) (S' := fun b => wr.heap.size ≤ b ∧ b < G2.heap.size) (fun b hb => by
                have t1 := hb.1
                have t2 := hb.2
                exact ⟨⟨by omega, by omega⟩, hO5.block b t2 (by omega)⟩)
              have k3 := k1.moved (S' := fun b => wr.heap.size ≤ b ∧ b < G2.heap.size) (fun b hb => by
                have t1 := hb.1
                have t2 := hb.2
                exact ⟨⟨by omega, t2⟩, rfl⟩)
              exact ⟨k3.row, k3.each, k2.s, k2.so, k2.q, k2.qo⟩)
            have HD2 := Lib.hid hd2
            have HD3 := Lib.hid hd3
            have HGE := Lib.hid hG2.symm
            have HGZ := Lib.hid (show w4.heap.size = G2.heap.size by rw [hG2]; simp [World.setCell])
            have HXG := Lib.hid (HX2.out.later HG2.out)
            have HX4 := Lib.hid (HX2.out.later (bThen HB3.out hb4))
            have hzG := HG2.out.size
            clear hd2 hd3 hls hb4 hO5 hfe hz4 hz5 HF4 hG2
            have hFX : ¬ F = X := by have := HFE.out; have := hbz2.out; omega
            have hXF : ¬ X = F := fun e => hFX e.symm
            obtain ⟨x0, x1, x2, x3, x4, x5, x6, x7, xz⟩ := eight_cell HX4.out.x
            go_wp2_with (refine stop_append rfl ?_)
            refine ⟨?_⟩
            rw [HGE.out]
            clear x0 x1 x2 x3 x4 x5 x6 x7 xz
            clear y0 y1 y2 y3 y4 y5 y6 y7 y8 y9 yz q5 q6 q7 q8 q9 n0 n1 n2 n3 n4 n5 n6 n7 nz ce0 ce1 ce2 ce3 ce4 ce5 ce6 ce7 ce8 ce9
            obtain ⟨y0, y1, y2, y3, y4, y5, y6, y7, y8, y9, yz⟩ := ten_cell HG1.out
            obtain ⟨x0, x1, x2, x3, x4, x5, x6, x7, xz⟩ := eight_cell HXG.out.x
            have HRX := Lib.hid ((SidesOwn.kept HS2.out HG2.out.size (fun b _ hl => HG2.out.block b hl)).row.alloc (.cells #[.int .i64 p, .bool j, .int .i64 s, .int .i64 h, .slice A1 L1.length c1', .int .i64 le, .int .i64 ln, .slice A2 L2.length c2, .slice A3 L3.length c3, .int .i64 lh] 65))
            refine wpList_append_sl _ rfl _ _ 24 rfl B2 65 i0 (.agg #[.int .i64 0, .bool false, .int .i64 0, .int .i64 0, .slice none 0 0, .int .i64 0, .int .i64 0, .slice none 0 0, .slice none 0 0, .int .i64 0]) 10 128 Tryd.underlying24 hi0 hz0 hz1 hz2 rfl (by decide) _ _ _ rfl HRX.out (fun _ => True) _ _ _ _ rfl (row_top (by rfl) (by simp [HGZ.out])) ?c1 ?c2 ?c3 ?c4 ?_
            case c1 => intro u hu; simp at hu; rcases hu with rfl | rfl | rfl | rfl | rfl | rfl | rfl | rfl | rfl | rfl <;> rfl
            case c2 => have := hL'.out; unfold maxLen; omega
            case c3 => have := hL'.out; omega
            case c4 => have := hbz2.out; simp; omega
            intro A' c' w3 hown' hgrow hat
            have HLN := Lib.hid (show (L' ++ [(⟨p, j, s, h, A1, c1', L1, ⟨le, ln, A2, c2, L2, A3, c3, L3, lh⟩⟩ : SideV)]).length = L'.length + 1 by simp)
            have hP := SidesOwn.push (x := (⟨p, j, s, h, A1, c1', L1, ⟨le, ln, A2, c2, L2, A3, c3, L3, lh⟩⟩ : SideV)) HS2.out hbz2.out (fun b _ hl => HG2.out.block b hl) HG2.out.size HG3.out hgrow hown' hat
            have hBG := bAlloc HG2.out (.cells #[.int .i64 p, .bool j, .int .i64 s, .int .i64 h, .slice A1 L1.length c1', .int .i64 le, .int .i64 ln, .slice A2 L2.length c2, .slice A3 L3.length c3, .int .i64 lh] 65)
            have hlow : ∀ g, (Value.slice Ao L'.length co).ownBlock = some g → B2 ≤ g := fun g hg => (HS2.out.row.lt g hg).1
            have hkp := grown_low (B := B2) hBG hgrow hlow
            have HX3 := Lib.hid (HX2.out.grown hBG hgrow (fun g hg => by have := hlow g hg; omega))
            have HOL3 := Lib.hid (show ∀ b, b < B2 → b ≠ X → w3.heap[b]? = wm.heap[b]? from fun b h1 h2 => (hkp.2 b (by have := hbz2.out; omega) h1).trans (hold2.out b h1 h2))
            have HZ3 := Lib.hid (show B2 ≤ w3.heap.size by have := hbz2.out; have := hkp.1; omega)
            have HP := Lib.hid hP
            clear hown' hgrow hat hP hlow hkp hBG y0 y1 y2 y3 y4 y5 y6 y7 y8 y9 yz x0 x1 x2 x3 x4 x5 x6 x7 xz
            obtain ⟨x0, x1, x2, x3, x4, x5, x6, x7, xz⟩ := eight_cell HX3.out.x
            have r5 := tenF HX3.out.x 5
            obtain ⟨n0, n1, n2, n3, n4, n5, n6, n7, nz⟩ := eight_cell HX3.out.nd
            go_wp2_with fail
            have HG4 := Lib.hid (HX3.out.set 5 (.slice A' (L'.length + 1) c'))
            have HG5 := Lib.hid (HP.out.kept (w' := w3.setCell ⟨X, 5, none⟩ (.slice A' (L'.length + 1) c')) (by simp [World.setCell]) (fun b hb hl => Below.heap_setCell _ _ _ _ (by show b ≠ X; omega)))
            have HG6 := Lib.hid (show B2 ≤ (w3.setCell ⟨X, 5, none⟩ (.slice A' (L'.length + 1) c')).heap.size by simpa [World.setCell] using HZ3.out)
            have HG7 := Lib.hid (show ∀ b, b < B2 → b ≠ X → (w3.setCell ⟨X, 5, none⟩ (.slice A' (L'.length + 1) c')).heap[b]? = wm.heap[b]? from fun b h1 h2 => (Below.heap_setCell _ _ _ _ (by show b ≠ X; omega)).trans (HOL3.out b h1 h2))
            clear x0 x1 x2 x3 x4 x5 x6 x7 xz r5 n0 n1 n2 n3 n4 n5 n6 n7 nz
            go_roundw
            case rel => exact ⟨k + 1, L' ++ [(⟨p, j, s, h, A1, c1', L1, ⟨le, ln, A2, c2, L2, A3, c3, L3, lh⟩⟩ : SideV)], A', c', by omega, by go_num, Lib.hid (by rw [HLN.out, hL'.out]), Lib.hid (by rw [List.map_append, hps.out, HTK.out]; show _ ++ [(⟨p, j, s, h, L1.map OpV.ps, ⟨le, ln, L2.map FrameV.d, L3.map FrameV.d, lh⟩⟩ : SideD)] = _; rw [HD1.out, HD2.out, HD3.out]), Lib.hid (by rw [HLN.out]; exact HG4.out), HG5, HG6, HG7⟩
            case measure => simp [intOf]; omega
          · obtain rfl : k = S.length := by omega
            have HPP := Lib.hid (show L'.map SideV.d = S.map SideV.d by rw [hps.out, List.take_length])
            obtain ⟨x0, x1, x2, x3, x4, x5, x6, x7, xz⟩ := eight_cell HX2.out.x
            obtain ⟨r0, r1, r2, r3, r4, r5, r6, r7, rz⟩ := eight_cell HX2.out.r
            obtain ⟨s0, s1, s2, s3, s4, s5, s6, s7⟩ := eight_cellF HX2.out.r
            have hwR' : w.heap.size < R := HX2.out.wr
            have hRX : R < X := HX2.out.rx
            have hn1 : ¬ R = X := by omega
            have hn2 : ¬ X = R := by omega
            go_wp2_with fail
            obtain ⟨W9, hW9⟩ : ∃ W9, W9 = (((((((wr.setCell ⟨R, 0, none⟩ (.int .i64 me)).setCell ⟨R, 1, none⟩ (.int .i64 ep)).setCell ⟨R, 2, none⟩ (.int .i64 up)).setCell ⟨R, 3, none⟩ (.bool rd)).setCell ⟨R, 4, none⟩ (.string t)).setCell ⟨R, 5, none⟩ (.slice Ao L'.length co)).setCell ⟨R, 6, none⟩ (.slice A8 L8.length c8)).setCell ⟨R, 7, none⟩ (.slice A7 M.length c7) := ⟨_, rfl⟩
            rw [← hW9]
            have hO2 : Only R wr W9 := by rw [hW9]; exact (((((((Only.set _ _ _).trans (Only.set _ _ _)).trans (Only.set _ _ _)).trans (Only.set _ _ _)).trans (Only.set _ _ _)).trans (Only.set _ _ _)).trans (Only.set _ _ _)).trans (Only.set _ _ _)
            have hR9 : W9.heap[R]? = some (.cells #[.int .i64 me, .int .i64 ep, .int .i64 up, .bool rd, .string t, .slice Ao L'.length co, .slice A8 L8.length c8, .slice A7 M.length c7] 28 (0, 0)) := by
              rw [hW9]
              exact any_set 7 _ (any_set 6 _ (any_set 5 _ (any_set 4 _ (any_set 3 _ (any_set 2 _ (any_set 1 _ (any_set 0 _ HX2.out.r)))))))
            clear hW9
            have z2 := hO2.size
            have z4 := hbz2.out
            have z5 := HB2.out
            have z6 := HB1.out
            have hkp : ∀ b, b ≠ R → b < wr.heap.size → W9.heap[b]? = wr.heap[b]? := fun b h1 h2 => hO2.block b h2 h1
            have k1 := (HS2.out.kept (w' := W9) z2 (fun b hb hl => hkp b (by omega) hl)).inS (B := w.heap.size) (by omega)
            have k2 := HO8.out.moved (w' := W9) (S' := fun b => w.heap.size ≤ b ∧ b < W9.heap.size) (fun b hb => by
              have q1 := hb.1.1
              have q2 := hb.1.2
              have q3 := hb.2
              exact ⟨⟨by omega, by omega⟩, (hkp b (by omega) (by omega)).trans ((hold2.out b (by omega) q3).trans (hold.out b (by omega) q3))⟩)
            have k3 : Sl (fun b => w.heap.size ≤ b ∧ b < W9.heap.size) W9 2 A7 M.length (M.flatMap markCells) := (Sl.of_own _ HS.out).moved fun b hb => by
              have q1 := hb.1
              have q2 := hb.2
              exact ⟨⟨by omega, by omega⟩, (hkp b (by omega) (by omega)).trans (hold2.out b (by omega) (by omega))⟩
            have k4 : Below w.heap.size w W9 := HX2.out.b.trans (hO2.below (by omega) (by omega))
            refine post_hide (fun G => G.heap[R]? = some (.cells #[.int .i64 me, .int .i64 ep, .int .i64 up, .bool rd, .string t, .slice Ao L'.length co, .slice A8 L8.length c8, .slice A7 M.length c7] 28 (0, 0)) ∧ (⟨me, ep, up, rd, t, Ao, co, L', A8, c8, L8, A7, c7, M⟩ : NodeV).InS (fun b => w.heap.size ≤ b ∧ b < G.heap.size) G ∧ Below w.heap.size w G) ⟨hR9, ⟨k1.1, k1.2, k2, k3⟩, k4⟩ ?_
            rintro G9 ⟨j1, j2, j5⟩
            clear r0 r1 r2 r3 r4 r5 r6 r7 rz s0 s1 s2 s3 s4 s5 s6 s7 x0 x1 x2 x3 x4 x5 x6 x7 xz
            obtain ⟨r0, r1, r2, r3, r4, r5, r6, r7, rz⟩ := eight_cell j1
            refine bodyPost_ret (v := (⟨me, ep, up, rd, t, Ao, co, L', A8, c8, L8, A7, c7, M⟩ : NodeV).val) (by simp [results, Tryd.results20, go_sem, r0, r1, r2, r3, r4, r5, r6, r7]) rfl ?_
            exact ⟨⟨me, ep, up, rd, t, Ao, co, L', A8, c8, L8, A7, c7, M⟩, rfl, by simp only [NodeV.d, HPP.out, HD8.out], j2, j5⟩
end Go.Proofs.YtbmdepbmejnlkaaDoor
