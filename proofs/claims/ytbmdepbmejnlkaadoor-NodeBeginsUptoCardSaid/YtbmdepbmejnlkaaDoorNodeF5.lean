/-
  Contract of the reference's NodeFault: what would be undone, sides, parent, marks.
-/
import Derived.Test.YtbmdepbmejnlkaaDoorRows
import Derived.Test.YtbmdepbmejnlkaaDoorBK
import Derived.Test.YtbmdepbmejnlkaaDoorBH
import Derived.Test.YtbmdepbmejnlkaaDoorNodeF3
namespace Go.Proofs.YtbmdepbmejnlkaaDoor
open Go.ChangeShapes Go.WideShapes Go.ChangeAt Go.RowKit
set_option maxRecDepth 100000
set_option maxHeartbeats 4000000 in
theorem NodeFault_go_pf (w : World) (T : Option Addr) (N Nc : Nat) (n : NodeV) (HT : Hid (Tabs w)) (HI : Hid (n.In w)) (hN0 : 0 < N) (hN : N ≤ 7) (pl : List Int) (Hme : Hid (0 ≤ n.me ∧ n.me ≤ (N : Int) - 1)) (Hep : Hid (1 ≤ n.ep ∧ n.ep ≤ 1048575)) (Hup : Hid (0 ≤ n.up ∧ n.up ≤ 1048576)) (_z0 : (n.me == 0) = false) (_zp : decide (0 < n.me) = true) (hrd : n.rd = false) (_ht : n.t.toList = []) (hpl : pl.length = n.S.length) (hM : n.M.length ≤ 1) (hU : n.U.length ≤ 12) (HUM : Hid (n.U.length = 0 ∧ n.M.length = 0)) (hS : n.S.length ≤ 8) (hpp : 0 < n.S.length) (res : Int) (H9 : Hid (¬ (undoOk (runesI n.t) (n.U.map OpV.ps).reverse ∧ (∀ i (h : i < n.S.length), n.S[i].p = pl.getD i 0 ∧ sideMay n.rd (runesI n.t) n.S[i]) ∧ (0 < n.me → ∀ x, n.S.head? = some x → x.j = n.rd) ∧ ∀ m ∈ n.M, markOk (runesI n.t) m) → res = 9)) (H0 : Hid ((undoOk (runesI n.t) (n.U.map OpV.ps).reverse ∧ (∀ i (h : i < n.S.length), n.S[i].p = pl.getD i 0 ∧ sideMay n.rd (runesI n.t) n.S[i]) ∧ (0 < n.me → ∀ x, n.S.head? = some x → x.j = n.rd) ∧ ∀ m ∈ n.M, markOk (runesI n.t) m) → res = 0)) (HC : Hid (∀ W, Below w.heap.size w W → Calls Tryd.prog 30 #[.slice T N Nc] W fun e w' => e = .returned (.int .i64 0) ∧ W = w')) (HX : Hid (∀ W, Tabs W → Calls Tryd.prog 32 #[.string n.t] W fun e w' => e = .returned (.int .i64 0) ∧ Below W.heap.size W w')) (HL : Hid (∀ W, Below w.heap.size w W → Calls Tryd.prog 33 #[.slice T N Nc, .int .i64 n.me] W (RetInts W pl))) (HSD : Hid (∀ W x, Tabs W → x ∈ n.S → x.In W → Calls Tryd.prog 37 #[n.val, x.val] W fun r w' => (∃ b : Bool, r = .returned (.bool b) ∧ (b = true ↔ sideMay n.rd (runesI n.t) x)) ∧ Below W.heap.size W w')) (HRC : Hid (∀ W, Calls Tryd.prog 34 #[.string n.t] W fun e w' => e = .returned (.int .i64 (runesI n.t)) ∧ Below W.heap.size W w')) (HMK : Hid (∀ W m, Calls Tryd.prog 38 #[.string n.t, markV m] W fun r w' => (∃ b : Bool, r = .returned (.bool b) ∧ (b = true ↔ markOk (runesI n.t) m)) ∧ Below W.heap.size W w')) (HLO : Hid (∀ W (q : OpV), q ∈ n.U → OpIn (· < W.heap.size) W q.A q.ps → Calls Tryd.prog 35 #[.slice q.A q.ps.length q.c] W fun e w' => e = .returned (.tuple #[.int .i64 (lens q.ps).1, .int .i64 (lens q.ps).2]) ∧ Below W.heap.size W w')) (HOF : Hid (∀ W (q : OpV), Tabs W → q ∈ n.U → OpIn (· < W.heap.size) W q.A q.ps → Calls Tryd.prog 36 #[.slice q.A q.ps.length q.c] W fun r w' => r = .returned (.int .i64 (opFault q.ps)) ∧ Below W.heap.size W w')) :
    Calls Tryd.prog 9 #[.slice T N Nc, n.val] w fun r w' => r = .returned (.int .i64 res) ∧ Below w.heap.size w w' := by
  have HPLL := Lib.hid hpl
  have q1 : ((pl.length : Int) != (n.S.length : Int)) = false := by simp [hpl]
  have q2 : decide (1 < (n.M.length : Int)) = false := by simp; omega
  have q3 : decide (12 < (n.U.length : Int)) = false := by simp; omega
  have HM1 := Lib.hid hM
  have _q4 : decide (0 < n.U.length) = false := by rw [HUM.out.1]; rfl
  have _q5 : decide (0 < n.M.length) = false := by rw [HUM.out.2]; rfl
  clear hpl hM
  obtain ⟨me, ep, up, rd, t, sA, sc, S, uA, uc, U, mA, mc, M⟩ := n
  dsimp only at *
  subst hrd
  have HA := Lib.hid (OneAt.new w ⟨me, ep, up, false, t, sA, sc, S, uA, uc, U, mA, mc, M⟩)
  obtain ⟨WA, hWA⟩ : ∃ WA, WA = w.alloc (.cells #[.int .i64 me, .int .i64 ep, .int .i64 up, .bool false, .string t, .slice sA S.length sc, .slice uA U.length uc, .slice mA M.length mc] 28) := ⟨_, rfl⟩
  dsimp only at HA
  rw [← hWA] at HA
  have HW := Lib.hid hWA.symm
  clear hWA
  go_enter Tryd.func9, Tryd.ntmps9
  go_wp2_with fail
  rw [HW.out]
  refine (HC.out _ HA.out.b).mono ?_
  rintro e w1 ⟨rfl, rfl⟩
  obtain ⟨n0, n1, n2, n3, n4, n5, n6, n7, nz⟩ := node_cell HA.out.nd
  have hw1 : wrap64 ((N : Int) - 1) = (N : Int) - 1 := wrap_pred hN0 hN
  go_wp2_with fail
  refine (In_yes me 0 ((N : Int) - 1) _ Hme.out.1 Hme.out.2).mono ?_
  rintro e wi ⟨rfl, rfl⟩
  go_wp2_with fail
  refine (In_yes ep 1 1048575 _ Hep.out.1 Hep.out.2).mono ?_
  rintro e wi ⟨rfl, rfl⟩
  go_wp2_with fail
  refine (In_yes up 0 1048576 _ Hup.out.1 Hup.out.2).mono ?_
  rintro e wi ⟨rfl, rfl⟩
  go_wp2_with fail
  refine (HX.out _ (HT.out.later HA.out.b)).mono ?_
  rintro e w2 ⟨rfl, hb2⟩
  have H2 := Lib.hid (HA.out.later hb2)
  clear n0 n1 n2 n3 n4 n5 n6 n7 nz
  obtain ⟨n0, n1, n2, n3, n4, n5, n6, n7, nz⟩ := node_cell H2.out.nd
  clear hb2
  go_wp2_with fail
  refine (HL.out _ H2.out.b).mono ?_
  rintro e w3 ⟨Aa, ca, rfl, hpl, hb3⟩
  have H3 := Lib.hid (H2.out.later hb3)
  have HPL := Lib.hid hpl
  clear n0 n1 n2 n3 n4 n5 n6 n7 nz
  obtain ⟨n0, n1, n2, n3, n4, n5, n6, n7, nz⟩ := node_cell H3.out.nd
  clear hb3 hpl
  go_wp2_with fail
  have HWU := Lib.hid (show wrap64 ((U.length : Int) - 1) = (U.length : Int) - 1 from wrap_u hU)
  refine (HRC.out _).mono ?_
  rintro e w4 ⟨rfl, hb4⟩
  have H4 := Lib.hid (H3.out.later hb4)
  have HAL := Lib.hid (show Sl (· < w4.heap.size) w4 1 Aa pl.length (pl.map (Value.int .i64)) from Sl.later ((Sl.of_own _ HPL.out).moved fun _ hx => ⟨hx.2, rfl⟩) hb4)
  clear n0 n1 n2 n3 n4 n5 n6 n7 nz
  obtain ⟨n0, n1, n2, n3, n4, n5, n6, n7, nz⟩ := node_cell H4.out.nd
  clear hb4 q1 q2 q3 hw1
  (try clear _ht _q4 _q5)
  have hwu := HWU.out
  go_wp2_with fail
  clear n0 n1 n2 n3 n4 n5 n6 n7 nz hwu
  all_goals (
    have HBL := Lib.hid (show (U.map OpV.ps).reverse.length = U.length by simp)
    obtain ⟨BB, hBB⟩ : ∃ BB, BB = (U.map OpV.ps).reverse := ⟨_, rfl⟩
    rw [← hBB] at HBL
    have HBB := Lib.hid hBB
    clear hBB
    go_loopw [7, 8] (fun av i wr => ∃ k : Nat, k ≤ U.length ∧ i = .int .i64 ((U.length : Int) - 1 - k) ∧ av = .int .i64 (atOf (runesI t) (BB.take k)) ∧ Hid (undoOk (runesI t) (BB.take k)) ∧ Hid (OneAt w ⟨me, ep, up, false, t, sA, sc, S, uA, uc, U, mA, mc, M⟩ wr) ∧ Hid (Sl (· < wr.heap.size) wr 1 Aa pl.length (pl.map (Value.int .i64)))) (fun _ i _ => (intOf i + 1).toNat)
    case atStart => exact ⟨0, Nat.zero_le _, by simp, rfl, trivial, H4, HAL⟩
    case round =>
      obtain ⟨k, hk, rfl, rfl, HUO, HO, HA2⟩ := hrel
      obtain ⟨n0, n1, n2, n3, n4, n5, n6, n7, nz⟩ := node_cell HO.out.nd
      (try dsimp only at n0 n1 n2 n3 n4 n5 n6 n7)
      by_cases hlt : k < U.length
      · obtain ⟨m, hm⟩ : ∃ m : Nat, U.length - 1 - k = m := ⟨_, rfl⟩
        have hmi : (U.length : Int) - 1 - k = m := by omega
        have hml : m < U.length := by omega
        have hml2 : (m : Int) < (U.length : Int) := by omega
        rw [hmi]
        obtain ⟨ub, uo, hua, hbs, c0, hop⟩ := (HI.out.undo.later HO.out.b).at_ (k := m) hml
        (try dsimp only at hua c0 hop)
        rw [hua] at n6
        have HUA := Lib.hid hua
        have HTK := Lib.hid (show BB.take (k + 1) = BB.take k ++ [U[m].ps] by rw [HBB.out, back_at hlt]; simp only [hm])
        have HKN := Lib.hid hm
        have HKI := Lib.hid hmi
        have HQM := Lib.hid (List.getElem_mem hml)
        clear hm hmi hua
        generalize U[m] = q at *
        obtain ⟨qA, qc, qp⟩ := q
        (try dsimp only at c0 hop)
        have HLN := Lib.hid (fun W hs => HLO.out W (⟨qA, qc, qp⟩ : OpV) HQM.out hs)
        have HCK := Lib.hid (fun W hT hs => HOF.out W (⟨qA, qc, qp⟩ : OpV) hT HQM.out hs)
        have HSN := Lib.hid (undoOk_snoc (runesI t) (BB.take k) qp)
        have HAS := Lib.hid (atOf_snoc (runesI t) (BB.take k) qp)
        have HOP := Lib.hid hop
        (try dsimp only at HTK HLN HCK)
        generalize atOf (runesI t) (BB.take k) = ag at *
        generalize lens qp = ln at *
        obtain ⟨l1, l2⟩ := ln
        (try dsimp only at HLN HSN HAS)
        clear hop
        go_wp2_with fail
        refine (HLN.out wr HOP.out).mono ?_
        rintro e w5 ⟨rfl, hb5⟩
        have HO5 := Lib.hid (HO.out.later hb5)
        have HOP5 := Lib.hid (Sl.later HOP.out hb5)
        have HA5 := Lib.hid (Sl.later HA2.out hb5)
        have d0 := (hb5.cell (p := ⟨ub, uo + m, none⟩) hbs).trans c0
        have hbs5 : ub < w5.heap.size := Nat.lt_of_lt_of_le hbs hb5.size
        clear n0 n1 n2 n3 n4 n5 n6 n7 nz hb5 c0
        obtain ⟨n0, n1, n2, n3, n4, n5, n6, n7, nz⟩ := node_cell HO5.out.nd
        (try dsimp only at n0 n1 n2 n3 n4 n5 n6 n7)
        rw [HUA.out] at n6
        go_wp2_with fail
        refine (HCK.out w5 (HT.out.later HO5.out.b) HOP5.out).mono ?_
        rintro e w6 ⟨rfl, hb6⟩
        have HO6 := Lib.hid (HO5.out.later hb6)
        have HA6 := Lib.hid (Sl.later HA5.out hb6)
        clear n0 n1 n2 n3 n4 n5 n6 n7 nz hb6 d0
        by_cases hf : opFault qp = 0
        · rw [hf]
          by_cases ha : l1 = ag
          · have HNW := Lib.hid (show undoOk (runesI t) (BB.take (k + 1)) by rw [HTK.out]; exact HSN.out.2 ⟨HUO.out, hf, ha⟩)
            have ha2 : (l1 != ag) = false := by simpa using ha
            clear ha hf
            go_wp2_with fail
            go_roundw
            case rel => exact ⟨k + 1, by omega, by have := HKI.out; go_num, by rw [HTK.out, HAS.out], HNW, HO6, HA6⟩
            case measure => simp [intOf]
          · have HR9 := Lib.hid (H9.out fun g => ha (HSN.out.1 (by
              have := undoOk_pre (a := BB.take (k + 1)) (b := BB.drop (k + 1)) (by rw [List.take_append_drop, HBB.out]; exact g.1)
              rwa [HTK.out] at this)).2.2)
            have ha2 : (l1 != ag) = true := by simpa using ha
            clear ha hf
            go_wp2_with fail
            go_ret
            exact ⟨by rw [HR9.out]; rfl, HO6.out.b⟩
        · have HR9 := Lib.hid (H9.out fun g => hf (HSN.out.1 (by
            have := undoOk_pre (a := BB.take (k + 1)) (b := BB.drop (k + 1)) (by rw [List.take_append_drop, HBB.out]; exact g.1)
            rwa [HTK.out] at this)).2.1)
          have hf2 : (opFault qp != 0) = true := by simpa using hf
          generalize opFault qp = er at *
          clear hf
          go_wp2_with fail
          go_ret
          exact ⟨by rw [HR9.out]; rfl, HO6.out.b⟩
      · obtain rfl : k = U.length := by omega
        have HUN := Lib.hid (show undoOk (runesI t) (U.map OpV.ps).reverse by rw [← HBB.out, ← List.take_length (l := BB), HBL.out]; exact HUO.out)
        rw [show ((U.length : Int) - 1 - U.length) = -1 by omega]
        clear HUO
        go_wp2_with fail
        clear n0 n1 n2 n3 n4 n5 n6 n7 nz
        go_loopw [11] (fun i wr => ∃ k : Nat, k ≤ S.length ∧ i = .int .i64 k ∧ Hid (∀ i (h : i < S.length), i < k → S[i].p = pl.getD i 0 ∧ sideMay false (runesI t) S[i]) ∧ Hid (OneAt w ⟨me, ep, up, false, t, sA, sc, S, uA, uc, U, mA, mc, M⟩ wr) ∧ Hid (Sl (· < wr.heap.size) wr 1 Aa pl.length (pl.map (Value.int .i64)))) (fun i _ => S.length - (intOf i).toNat)
        case atStart => exact ⟨0, Nat.zero_le _, rfl, fun i hi h => absurd h (by omega), HO, HA2⟩
        case round =>
        obtain ⟨k, hk, rfl, HG, HO, HA2⟩ := hrel
        obtain ⟨n0, n1, n2, n3, n4, n5, n6, n7, nz⟩ := node_cell HO.out.nd
        (try dsimp only at n0 n1 n2 n3 n4 n5 n6 n7)
        have hpe := HPLL.out
        by_cases hlt : k < S.length
        · obtain ⟨b, o, rfl, hbs, hc⟩ := row_at SideV.cells 10 SideV.cells_len (Sl.later HI.out.sides.row HO.out.b) hlt
          have c0 : wr.cell? ⟨b, o + k * 10, none⟩ = some (.int .i64 S[k].p) := hc 0 _ rfl
          have c1 : wr.cell? ⟨b, o + k * 10 + 1, none⟩ = some (.bool S[k].j) := hc 1 _ rfl
          have c2 : wr.cell? ⟨b, o + k * 10 + 2, none⟩ = some (.int .i64 S[k].s) := hc 2 _ rfl
          have c3 : wr.cell? ⟨b, o + k * 10 + 3, none⟩ = some (.int .i64 S[k].h) := hc 3 _ rfl
          have c4 : wr.cell? ⟨b, o + k * 10 + 4, none⟩ = some (.slice S[k].A S[k].L.length S[k].c) := hc 4 _ rfl
          have c5 : wr.cell? ⟨b, o + k * 10 + 5, none⟩ = some (.int .i64 S[k].k.e) := hc 5 _ rfl
          have c6 : wr.cell? ⟨b, o + k * 10 + 6, none⟩ = some (.int .i64 S[k].k.n) := hc 6 _ rfl
          have c7 : wr.cell? ⟨b, o + k * 10 + 7, none⟩ = some (.slice S[k].k.sA S[k].k.s.length S[k].k.sc) := hc 7 _ rfl
          have c8 : wr.cell? ⟨b, o + k * 10 + 8, none⟩ = some (.slice S[k].k.qA S[k].k.q.length S[k].k.qc) := hc 8 _ rfl
          have c9 : wr.cell? ⟨b, o + k * 10 + 9, none⟩ = some (.int .i64 S[k].k.h) := hc 9 _ rfl
          obtain ⟨ab, ao, rfl, habs, hac⟩ := HA2.out.open_ (by omega)
          have a0 := hac k _ (ints_getD pl k (by omega))
          have hkp : k < pl.length := by omega
          have hkp2 : (k : Int) < (pl.length : Int) := by omega
          have hkp3 : (k : Int) < (S.length : Int) := by omega
          clear hpe
          have HSK := Lib.hid (fun (W : World) (hb : Below wr.heap.size wr W) => HSD.out W S[k] (HT.out.later (bThen HO.out.b hb)) (List.getElem_mem hlt) ((HI.out.sides.each _ (List.getElem_mem hlt)).later (bThen HO.out.b hb)))
          clear hc hac
          by_cases hp : S[k].p = pl.getD k 0
          · have hpk := hp
            have hne : (S[k].p != pl.getD k 0) = false := by simp [hp]
            by_cases hsm : sideMay false (runesI t) S[k]
            · have HS2 := Lib.hid (show ∀ W, Below wr.heap.size wr W → Calls Tryd.prog 37 #[NodeV.val ⟨me, ep, up, false, t, some ⟨b, o, none⟩, sc, S, uA, uc, U, mA, mc, M⟩, S[k].val] W fun r w' => r = .returned (.bool true) ∧ Below W.heap.size W w' from fun W hb => (HSK.out W hb).mono fun r w' ⟨⟨b, e, q⟩, h⟩ => ⟨by rw [e]; cases b <;> simp_all, h⟩)
              have HGN := Lib.hid (show ∀ i (h : i < S.length), i < k + 1 → S[i].p = pl.getD i 0 ∧ sideMay false (runesI t) S[i] from fun i h hi => by
                rcases Nat.lt_or_ge i k with q | q
                · exact HG.out i h q
                · obtain rfl : i = k := by omega
                  exact ⟨hp, hsm⟩)
              clear hp hsm HSK
              generalize S[k] = x at *
              generalize pl.getD k 0 = pk at *
              obtain ⟨p, j, s, h, A, c, L, kk⟩ := x
              dsimp only [SideV.p] at hne
              subst hpk
              dsimp only at c0 c1 c2 c3 c4 c5 c6 c7 c8 c9 HS2
              go_wp2_with (refine stop_at ?_)
              refine ⟨?_⟩
              go_region_held3 (fun w' => w'.cell? ⟨w.heap.size, 0, none⟩ = some (.int .i64 me) ∧ w'.cell? ⟨w.heap.size, 1, none⟩ = some (.int .i64 ep) ∧ w'.cell? ⟨w.heap.size, 2, none⟩ = some (.int .i64 up) ∧ w'.cell? ⟨w.heap.size, 3, none⟩ = some (.bool false) ∧ w'.cell? ⟨w.heap.size, 4, none⟩ = some (.string t) ∧ w'.cell? ⟨w.heap.size, 5, none⟩ = some (.slice (some ⟨b, o, none⟩) S.length sc) ∧ w'.cell? ⟨w.heap.size, 6, none⟩ = some (.slice uA U.length uc) ∧ w'.cell? ⟨w.heap.size, 7, none⟩ = some (.slice mA M.length mc) ∧ w'.cell? ⟨b, o + k * 10, none⟩ = some (.int .i64 p) ∧ w'.cell? ⟨b, o + k * 10 + 1, none⟩ = some (.bool j) ∧ w'.cell? ⟨b, o + k * 10 + 2, none⟩ = some (.int .i64 s) ∧ w'.cell? ⟨b, o + k * 10 + 3, none⟩ = some (.int .i64 h) ∧ w'.cell? ⟨b, o + k * 10 + 4, none⟩ = some (.slice A L.length c) ∧ w'.cell? ⟨b, o + k * 10 + 5, none⟩ = some (.int .i64 kk.e) ∧ w'.cell? ⟨b, o + k * 10 + 6, none⟩ = some (.int .i64 kk.n) ∧ w'.cell? ⟨b, o + k * 10 + 7, none⟩ = some (.slice kk.sA kk.s.length kk.sc) ∧ w'.cell? ⟨b, o + k * 10 + 8, none⟩ = some (.slice kk.qA kk.q.length kk.qc) ∧ w'.cell? ⟨b, o + k * 10 + 9, none⟩ = some (.int .i64 kk.h) ∧ w'.cell? ⟨ab, ao + k, none⟩ = some (.int .i64 p))
                (go_keep)
                ((go_at_call 37; refine (HS2.out _ (by repeat (first | exact Below.refl _ _ | apply bGrow | apply bAlloc | apply Below.drew | apply bDrewN | apply bIter))).mono ?_; rintro r w6 ⟨rfl, hb6⟩; obtain ⟨⟨d6, os6⟩, rfl⟩ := beyond_of hb6))
              all_goals (
                go_wp2_with fail
                go_roundw
                case rel => exact ⟨k + 1, by omega, by go_num, HGN, Lib.hid (HO.out.later (by repeat (first | exact Below.refl _ _ | apply bGrow | apply bAlloc | apply Below.drew | apply bDrewN | apply bIter))), Lib.hid (Sl.later HA2.out (by repeat (first | exact Below.refl _ _ | apply bGrow | apply bAlloc | apply Below.drew | apply bDrewN | apply bIter)))⟩
                case measure => simp [intOf]; omega)
            · have HS2 := Lib.hid (show ∀ W, Below wr.heap.size wr W → Calls Tryd.prog 37 #[NodeV.val ⟨me, ep, up, false, t, some ⟨b, o, none⟩, sc, S, uA, uc, U, mA, mc, M⟩, S[k].val] W fun r w' => r = .returned (.bool false) ∧ Below W.heap.size W w' from fun W hb => (HSK.out W hb).mono fun r w' ⟨⟨b, e, q⟩, h⟩ => ⟨by rw [e]; cases b <;> simp_all, h⟩)
              have HR9 := Lib.hid (H9.out fun q => hsm (q.2.1 k hlt).2)
              clear hp hsm HSK
              generalize S[k] = x at *
              generalize pl.getD k 0 = pk at *
              obtain ⟨p, j, s, h, A, c, L, kk⟩ := x
              dsimp only [SideV.p] at hne
              subst hpk
              dsimp only at c0 c1 c2 c3 c4 c5 c6 c7 c8 c9 HS2
              go_wp2_with (refine stop_at ?_)
              refine ⟨?_⟩
              go_region_held3 (fun w' => w'.cell? ⟨w.heap.size, 0, none⟩ = some (.int .i64 me) ∧ w'.cell? ⟨w.heap.size, 1, none⟩ = some (.int .i64 ep) ∧ w'.cell? ⟨w.heap.size, 2, none⟩ = some (.int .i64 up) ∧ w'.cell? ⟨w.heap.size, 3, none⟩ = some (.bool false) ∧ w'.cell? ⟨w.heap.size, 4, none⟩ = some (.string t) ∧ w'.cell? ⟨w.heap.size, 5, none⟩ = some (.slice (some ⟨b, o, none⟩) S.length sc) ∧ w'.cell? ⟨w.heap.size, 6, none⟩ = some (.slice uA U.length uc) ∧ w'.cell? ⟨w.heap.size, 7, none⟩ = some (.slice mA M.length mc) ∧ w'.cell? ⟨b, o + k * 10, none⟩ = some (.int .i64 p) ∧ w'.cell? ⟨b, o + k * 10 + 1, none⟩ = some (.bool j) ∧ w'.cell? ⟨b, o + k * 10 + 2, none⟩ = some (.int .i64 s) ∧ w'.cell? ⟨b, o + k * 10 + 3, none⟩ = some (.int .i64 h) ∧ w'.cell? ⟨b, o + k * 10 + 4, none⟩ = some (.slice A L.length c) ∧ w'.cell? ⟨b, o + k * 10 + 5, none⟩ = some (.int .i64 kk.e) ∧ w'.cell? ⟨b, o + k * 10 + 6, none⟩ = some (.int .i64 kk.n) ∧ w'.cell? ⟨b, o + k * 10 + 7, none⟩ = some (.slice kk.sA kk.s.length kk.sc) ∧ w'.cell? ⟨b, o + k * 10 + 8, none⟩ = some (.slice kk.qA kk.q.length kk.qc) ∧ w'.cell? ⟨b, o + k * 10 + 9, none⟩ = some (.int .i64 kk.h) ∧ w'.cell? ⟨ab, ao + k, none⟩ = some (.int .i64 p))
                (go_keep)
                ((go_at_call 37; refine (HS2.out _ (by repeat (first | exact Below.refl _ _ | apply bGrow | apply bAlloc | apply Below.drew | apply bDrewN | apply bIter))).mono ?_; rintro r w6 ⟨rfl, hb6⟩; obtain ⟨⟨d6, os6⟩, rfl⟩ := beyond_of hb6))
              all_goals (
                go_wp2_with fail
                go_ret
                exact ⟨by rw [HR9.out]; rfl, bThen HO.out.b (by repeat (first | exact Below.refl _ _ | apply bGrow | apply bAlloc | apply Below.drew | apply bDrewN | apply bIter))⟩)
          · have hne : (S[k].p != pl.getD k 0) = true := by simpa using hp
            have HR9 := Lib.hid (H9.out fun q => hp (q.2.1 k hlt).1)
            clear hp HSK
            generalize S[k] = x at *
            generalize pl.getD k 0 = pk at *
            obtain ⟨p, j, s, h, A, c, L, kk⟩ := x
            dsimp only [SideV.p] at hne
            dsimp only at c0 c1 c2 c3 c4 c5 c6 c7 c8 c9
            go_wp2_with (refine stop_at ?_)
            refine ⟨?_⟩
            go_region
            all_goals (
              go_wp2_with fail
              go_ret
              exact ⟨by rw [HR9.out]; rfl, bThen HO.out.b (by repeat (first | exact Below.refl _ _ | apply bGrow | apply bAlloc | apply Below.drew | apply bDrewN | apply bIter))⟩)
        · obtain rfl : k = S.length := by omega
          have hnl : decide ((S.length : Int) < (pl.length : Int)) = false := by rw [hpe]; simp
          have hnl2 : decide (S.length < pl.length) = false := by rw [hpe]; simp
          clear hpe
          have HSO := Lib.hid (show ∀ i (h : i < S.length), S[i].p = pl.getD i 0 ∧ sideMay false (runesI t) S[i] from fun i h => HG.out i h h)
          obtain ⟨b, o, rfl, hbs, hc⟩ := row_at SideV.cells 10 SideV.cells_len (Sl.later HI.out.sides.row HO.out.b) (k := 0) hpp
          have c1 : wr.cell? ⟨b, o + 1, none⟩ = some (.bool S[0].j) := by simpa using hc 1 _ rfl
          clear hc
          have HHD := Lib.hid (show S.head? = some S[0] from List.head?_eq_getElem? ▸ List.getElem?_eq_getElem hpp)
          generalize S[0] = x at *
          obtain ⟨p, j, s, h, A, c, L, kk⟩ := x
          dsimp only at c1
          have hpp2 : (0 : Int) < (S.length : Int) := by omega
          by_cases hj : ¬ j = false
          · have hj2 : j = !false := by cases j <;> simp_all
            subst hj2
            have HR9 := Lib.hid (H9.out fun q => by have := q.2.2.1 (by simpa using _zp) _ HHD.out; cases this)
            clear hj
            go_wp2_with (refine stop_at ?_)
            refine ⟨?_⟩
            go_region
            all_goals (
              go_wp2_with fail
              go_ret
              exact ⟨by rw [HR9.out]; rfl, bThen HO.out.b (by repeat (first | exact Below.refl _ _ | apply bGrow | apply bAlloc | apply Below.drew | apply bDrewN | apply bIter))⟩)
          replace hj : j = false := Classical.not_not.1 hj
          subst hj
          have HPAR := Lib.hid (show 0 < me → ∀ x, S.head? = some x → x.j = false from fun _ x hx => by rw [HHD.out] at hx; obtain rfl := Option.some.inj hx; rfl)
          go_wp2_with (refine stop_at ?_)
          refine ⟨?_⟩
          go_region
          all_goals (
            go_wp2_with fail
            clear n0 n1 n2 n3 n4 n5 n6 n7 nz
            go_loopw [12] (fun i wr => ∃ k : Nat, k ≤ M.length ∧ i = .int .i64 k ∧ Hid (∀ i (h : i < M.length), i < k → markOk (runesI t) M[i]) ∧ Hid (OneAt w ⟨me, ep, up, false, t, some ⟨b, o, none⟩, sc, S, uA, uc, U, mA, mc, M⟩ wr)) (fun i _ => M.length - (intOf i).toNat)
            case atStart => exact ⟨0, Nat.zero_le _, rfl, fun i hi h => absurd h (by omega), Lib.hid (HO.out.later (by repeat (first | exact Below.refl _ _ | apply bGrow | apply bAlloc | apply Below.drew | apply bDrewN | apply bIter)))⟩
            case round =>
              obtain ⟨k, hk, rfl, HGM, HO4⟩ := hrel
              have hM2 := HM1.out
              obtain ⟨n0, n1, n2, n3, n4, n5, n6, n7, nz⟩ := node_cell HO4.out.nd
              (try dsimp only at n0 n1 n2 n3 n4 n5 n6 n7)
              by_cases hlt : k < M.length
              · obtain ⟨mb, mo, rfl, hbs, hc⟩ := row_at markCells 2 markCells_len (Sl.later HI.out.marks HO4.out.b) hlt
                have c0 : _root_.Go.World.cell? _ ⟨mb, mo + k * 2, none⟩ = some (.int .i64 M[k].1) := hc 0 _ rfl
                have c1 : _root_.Go.World.cell? _ ⟨mb, mo + k * 2 + 1, none⟩ = some (.int .i64 M[k].2) := hc 1 _ rfl
                have hkm3 : (k : Int) < (M.length : Int) := by omega
                clear hc
                by_cases hm : markOk (runesI t) M[k]
                · have HS2 := Lib.hid (show ∀ W, Calls Tryd.prog 38 #[.string t, markV M[k]] W fun r w' => r = .returned (.bool true) ∧ Below W.heap.size W w' from fun W => (HMK.out W M[k]).mono fun r w' ⟨⟨b, e, q⟩, h⟩ => ⟨by rw [e]; cases b <;> simp_all, h⟩)
                  have HGN := Lib.hid (show ∀ i (h : i < M.length), i < k + 1 → markOk (runesI t) M[i] from fun i h hi => by
                    rcases Nat.lt_or_ge i k with q | q
                    · exact HGM.out i h q
                    · obtain rfl : i = k := by omega
                      exact hm)
                  clear hm
                  generalize M[k] = m at *
                  obtain ⟨ma, mh⟩ := m
                  dsimp only at c0 c1 HS2
                  go_wp2_with (refine stop_at ?_)
                  refine ⟨?_⟩
                  go_region_held3 (fun w' => w'.cell? ⟨w.heap.size, 4, none⟩ = some (.string t) ∧ w'.cell? ⟨w.heap.size, 7, none⟩ = some (.slice (some ⟨mb, mo, none⟩) M.length mc) ∧ w'.cell? ⟨mb, mo + k * 2, none⟩ = some (.int .i64 ma) ∧ w'.cell? ⟨mb, mo + k * 2 + 1, none⟩ = some (.int .i64 mh))
                    (go_keep)
                    ((go_at_call 38; refine (HS2.out _).mono ?_; rintro r w6 ⟨rfl, hb6⟩; obtain ⟨⟨d6, os6⟩, rfl⟩ := beyond_of hb6))
                  all_goals (
                    go_wp2_with fail
                    go_roundw
                    case rel => exact ⟨k + 1, by omega, by go_num, HGN, Lib.hid (HO4.out.later (by repeat (first | exact Below.refl _ _ | apply bGrow | apply bAlloc | apply Below.drew | apply bDrewN | apply bIter)))⟩
                    case measure => simp [intOf]; omega)
                · have HS2 := Lib.hid (show ∀ W, Calls Tryd.prog 38 #[.string t, markV M[k]] W fun r w' => r = .returned (.bool false) ∧ Below W.heap.size W w' from fun W => (HMK.out W M[k]).mono fun r w' ⟨⟨b, e, q⟩, h⟩ => ⟨by rw [e]; cases b <;> simp_all, h⟩)
                  have HR9 := Lib.hid (H9.out fun q => hm (q.2.2.2 _ (List.getElem_mem hlt)))
                  clear hm
                  generalize M[k] = m at *
                  obtain ⟨ma, mh⟩ := m
                  dsimp only at c0 c1 HS2
                  go_wp2_with (refine stop_at ?_)
                  refine ⟨?_⟩
                  go_region_held3 (fun w' => w'.cell? ⟨w.heap.size, 4, none⟩ = some (.string t) ∧ w'.cell? ⟨w.heap.size, 7, none⟩ = some (.slice (some ⟨mb, mo, none⟩) M.length mc) ∧ w'.cell? ⟨mb, mo + k * 2, none⟩ = some (.int .i64 ma) ∧ w'.cell? ⟨mb, mo + k * 2 + 1, none⟩ = some (.int .i64 mh))
                    (go_keep)
                    ((go_at_call 38; refine (HS2.out _).mono ?_; rintro r w6 ⟨rfl, hb6⟩; obtain ⟨⟨d6, os6⟩, rfl⟩ := beyond_of hb6))
                  all_goals (
                    go_wp2_with fail
                    go_ret
                    exact ⟨by rw [HR9.out]; rfl, bThen HO4.out.b (by repeat (first | exact Below.refl _ _ | apply bGrow | apply bAlloc | apply Below.drew | apply bDrewN | apply bIter))⟩)
              · obtain rfl : k = M.length := by omega
                have HR0 := Lib.hid (H0.out ⟨HUN.out, HSO.out, HPAR.out, fun m hm => by obtain ⟨i, hi, rfl⟩ := List.getElem_of_mem hm; exact HGM.out i hi hi⟩)
                go_wp2_with fail
                go_ret
                exact ⟨by rw [HR0.out]; rfl, HO4.out.b⟩))
end Go.Proofs.YtbmdepbmejnlkaaDoor
