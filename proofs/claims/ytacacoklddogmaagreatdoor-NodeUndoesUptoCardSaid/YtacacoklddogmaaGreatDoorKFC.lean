/- A part of the proof of NodeUndoes. -/
import Derived.Test.YtacacoklddogmaaGreatDoorKBK
namespace Go.Proofs.YtacacoklddogmaaGreatDoor
set_option maxHeartbeats 4000000
open Go.ChangeShapes Go.WideShapes Go.ChangeAt Go.RowKit
set_option maxRecDepth 100000
theorem rg_ {n : Nat} (h : n ≤ 12) : wrap64 ((n : Int) - 1) = (n : Int) - 1 := by
 unfold wrap64
 omega
theorem mm_ {U : List OpV} {k : Nat} (hk : k < U.length) : (U.map OpV.ps).reverse.take (k + 1) = (U.map OpV.ps).reverse.take k ++ [(U[U.length - 1 - k]'(by omega)).ps] := by
 rw [List.take_succ_eq_append_getElem (by simpa using hk)]
 simp [List.getElem_reverse]
theorem la_ (w : World) (T : Option Addr) (N Nc : Nat) (n : NodeV) (HT : Hid (Tabs w)) (HI : Hid (n.In w)) (hN0 : 0 < N) (hN : N ≤ 7) (pl : List Int) (Hme : Hid (0 ≤ n.me ∧ n.me ≤ (N : Int) - 1)) (Hep : Hid (1 ≤ n.ep ∧ n.ep ≤ 1048575)) (Hup : Hid (0 ≤ n.up ∧ n.up ≤ 1048576)) (_z0 : (n.me == 0) = false) (_zp : decide (0 < n.me) = true) (hrd : n.rd = true) (hpl : pl.length = n.S.length) (hM : n.M.length ≤ 1) (hU : n.U.length ≤ 12) (hS : n.S.length ≤ 8) (hpp : 0 < n.S.length) (res : Int) (H9 : Hid (¬ (undoOk (runesI n.t) (n.U.map OpV.ps).reverse ∧ (∀ i (h : i < n.S.length), n.S[i].p = pl.getD i 0 ∧ sideMay n.rd (runesI n.t) n.S[i]) ∧ (0 < n.me → ∀ x, n.S.head? = some x → x.j = n.rd) ∧ ∀ m ∈ n.M, markOk (runesI n.t) m) → res = 9)) (H0 : Hid ((undoOk (runesI n.t) (n.U.map OpV.ps).reverse ∧ (∀ i (h : i < n.S.length), n.S[i].p = pl.getD i 0 ∧ sideMay n.rd (runesI n.t) n.S[i]) ∧ (0 < n.me → ∀ x, n.S.head? = some x → x.j = n.rd) ∧ ∀ m ∈ n.M, markOk (runesI n.t) m) → res = 0)) (HC : Hid (∀ W, Below w.heap.size w W → Calls Tryz.prog 54 #[.slice T N Nc] W fun e w' => e = .returned (.int .i64 0) ∧ W = w')) (HX : Hid (∀ W, Tabs W → Calls Tryz.prog 56 #[.string n.t] W (R_ W (.int .i64 0)))) (HL : Hid (∀ W, Below w.heap.size w W → Calls Tryz.prog 57 #[.slice T N Nc, .int .i64 n.me] W (RetInts W pl))) (HSD : Hid (∀ W x, Tabs W → x ∈ n.S → x.In W → Calls Tryz.prog 61 #[n.val, x.val] W fun r w' => (∃ b : Bool, r = .returned (.bool b) ∧ (b = true ↔ sideMay n.rd (runesI n.t) x)) ∧ Below W.heap.size W w')) (HRC : Hid (∀ W, Calls Tryz.prog 58 #[.string n.t] W (R_ W (.int .i64 (runesI n.t))))) (HMK : Hid (∀ W m, Calls Tryz.prog 62 #[.string n.t, markV m] W fun r w' => (∃ b : Bool, r = .returned (.bool b) ∧ (b = true ↔ markOk (runesI n.t) m)) ∧ Below W.heap.size W w')) (HLO : Hid (∀ W (q : OpV), q ∈ n.U → OpIn (· < W.heap.size) W q.A q.ps → Calls Tryz.prog 59 #[.slice q.A q.ps.length q.c] W (R_ W (.tuple #[.int .i64 (lens q.ps).1, .int .i64 (lens q.ps).2])))) (HOF : Hid (∀ W (q : OpV), Tabs W → q ∈ n.U → OpIn (· < W.heap.size) W q.A q.ps → Calls Tryz.prog 60 #[.slice q.A q.ps.length q.c] W (R_ W (.int .i64 (opFault q.ps))))) :
 Calls Tryz.prog 22 #[.slice T N Nc, n.val] w (R_ w (.int .i64 res)) := by
 have HPLL := h_ hpl
 have q1 : ((pl.length : Int) != (n.S.length : Int)) = false := by simp [hpl]
 have q2 : decide (1 < (n.M.length : Int)) = false := by simp; omega
 have q3 : decide (12 < (n.U.length : Int)) = false := by simp; omega
 have HM1 := h_ hM
 clear hpl hM
 obtain ⟨me, ep, up, rd, t, sA, sc, S, uA, uc, U, mA, mc, M⟩ := n
 dsimp only at *
 subst hrd
 have HA := h_ (OneAt.new w ⟨me, ep, up, true, t, sA, sc, S, uA, uc, U, mA, mc, M⟩)
 obtain ⟨WA, hWA⟩ : ∃ WA, WA = w.alloc (.cells #[.int .i64 me, .int .i64 ep, .int .i64 up, .bool true, .string t, .slice sA S.length sc, .slice uA U.length uc, .slice mA M.length mc] 28) := ⟨_, rfl⟩
 dsimp only at HA
 rw [← hWA] at HA
 have HW := h_ hWA.symm
 clear hWA
 go_enter Tryz.func22, Tryz.ntmps22
 go_wp2_with fail
 rw [HW.out]
 refine (HC.out _ HA.out.b).mono ?_
 rintro e w1 ⟨rfl, rfl⟩
 obtain ⟨n0, n1, n2, n3, n4, n5, n6, n7, nz⟩ := d_ HA.out.nd
 have hw1 : wrap64 ((N : Int) - 1) = (N : Int) - 1 := cd_ hN0 hN
 go_wp2_with fail
 refine (c_ me 0 ((N : Int) - 1) _ Hme.out.1 Hme.out.2).mono ?_
 rintro e wi ⟨rfl, rfl⟩
 go_wp2_with fail
 refine (c_ ep 1 1048575 _ Hep.out.1 Hep.out.2).mono ?_
 rintro e wi ⟨rfl, rfl⟩
 go_wp2_with fail
 refine (c_ up 0 1048576 _ Hup.out.1 Hup.out.2).mono ?_
 rintro e wi ⟨rfl, rfl⟩
 go_wp2_with fail
 refine (HX.out _ (HT.out.later HA.out.b)).mono ?_
 rintro e w2 ⟨rfl, hb2⟩
 have H2 := h_ (HA.out.later hb2)
 clear n0 n1 n2 n3 n4 n5 n6 n7 nz
 obtain ⟨n0, n1, n2, n3, n4, n5, n6, n7, nz⟩ := d_ H2.out.nd
 clear hb2
 go_wp2_with fail
 refine (HL.out _ H2.out.b).mono ?_
 rintro e w3 ⟨Aa, ca, rfl, hpl, hb3⟩
 have H3 := h_ (H2.out.later hb3)
 have HPL := h_ hpl
 clear n0 n1 n2 n3 n4 n5 n6 n7 nz
 obtain ⟨n0, n1, n2, n3, n4, n5, n6, n7, nz⟩ := d_ H3.out.nd
 clear hb3 hpl
 go_wp2_with fail
 have HWU := h_ (show wrap64 ((U.length : Int) - 1) = (U.length : Int) - 1 from rg_ hU)
 refine (HRC.out _).mono ?_
 rintro e w4 ⟨rfl, hb4⟩
 have H4 := h_ (H3.out.later hb4)
 have HAL := h_ (show Sl (· < w4.heap.size) w4 1 Aa pl.length (pl.map (Value.int .i64)) from Sl.later ((Sl.of_own _ HPL.out).moved fun _ hx => ⟨hx.2, rfl⟩) hb4)
 clear n0 n1 n2 n3 n4 n5 n6 n7 nz
 obtain ⟨n0, n1, n2, n3, n4, n5, n6, n7, nz⟩ := d_ H4.out.nd
 clear hb4 q1 q2 q3 hw1
 (try clear _ht _q4 _q5)
 have hwu := HWU.out
 go_wp2_with fail
 clear n0 n1 n2 n3 n4 n5 n6 n7 nz hwu
 all_goals (
  have HBL := h_ (show (U.map OpV.ps).reverse.length = U.length by simp)
  obtain ⟨BB, hBB⟩ : ∃ BB, BB = (U.map OpV.ps).reverse := ⟨_, rfl⟩
  rw [← hBB] at HBL
  have HBB := h_ hBB
  clear hBB
  go_loopw [7, 8] (fun av i wr => ∃ k : Nat, k ≤ U.length ∧ i = .int .i64 ((U.length : Int) - 1 - k) ∧ av = .int .i64 (atOf (runesI t) (BB.take k)) ∧ Hid (undoOk (runesI t) (BB.take k)) ∧ Hid (OneAt w ⟨me, ep, up, true, t, sA, sc, S, uA, uc, U, mA, mc, M⟩ wr) ∧ Hid (Sl (· < wr.heap.size) wr 1 Aa pl.length (pl.map (Value.int .i64)))) (fun _ i _ => (intOf i + 1).toNat)
  case atStart => exact ⟨0, Nat.zero_le _, by simp, rfl, trivial, H4, HAL⟩
  case round =>
   obtain ⟨k, hk, rfl, rfl, HUO, HO, HA2⟩ := hrel
   obtain ⟨n0, n1, n2, n3, n4, n5, n6, n7, nz⟩ := d_ HO.out.nd
   (try dsimp only at n0 n1 n2 n3 n4 n5 n6 n7)
   by_cases hlt : k < U.length
   · obtain ⟨m, hm⟩ : ∃ m : Nat, U.length - 1 - k = m := ⟨_, rfl⟩
     have hmi : (U.length : Int) - 1 - k = m := by omega
     have hml : m < U.length := by omega
     have hml2 : (m : Int) < (U.length : Int) := by omega
     rw [hmi]
     obtain ⟨ub, uo, hua, hbs, c0, hop⟩ := (HI.out.undo.later HO.out.b).at_ (k := m) hml
     (try dsimp only at hua c0 hop)
     rw [hua] at n6
     have HUA := h_ hua
     have HTK := h_ (show BB.take (k + 1) = BB.take k ++ [U[m].ps] by rw [HBB.out, mm_ hlt]; simp only [hm])
     have HKN := h_ hm
     have HKI := h_ hmi
     have HQM := h_ (List.getElem_mem hml)
     clear hm hmi hua
     generalize U[m] = q at *
     obtain ⟨qA, qc, qp⟩ := q
     (try dsimp only at c0 hop)
     have HLN := h_ (fun W hs => HLO.out W (⟨qA, qc, qp⟩ : OpV) HQM.out hs)
     have HCK := h_ (fun W hT hs => HOF.out W (⟨qA, qc, qp⟩ : OpV) hT HQM.out hs)
     have HSN := h_ (er_ (runesI t) (BB.take k) qp)
     have HAS := h_ (fv_ (runesI t) (BB.take k) qp)
     have HOP := h_ hop
     (try dsimp only at HTK HLN HCK)
     generalize atOf (runesI t) (BB.take k) = ag at *
     generalize lens qp = ln at *
     obtain ⟨l1, l2⟩ := ln
     (try dsimp only at HLN HSN HAS)
     clear hop
     go_wp2_with fail
     refine (HLN.out wr HOP.out).mono ?_
     rintro e w5 ⟨rfl, hb5⟩
     have HO5 := h_ (HO.out.later hb5)
     have HOP5 := h_ (Sl.later HOP.out hb5)
     have HA5 := h_ (Sl.later HA2.out hb5)
     have d0 := (hb5.cell (p := ⟨ub, uo + m, none⟩) hbs).trans c0
     have hbs5 : ub < w5.heap.size := Nat.lt_of_lt_of_le hbs hb5.size
     clear n0 n1 n2 n3 n4 n5 n6 n7 nz hb5 c0
     obtain ⟨n0, n1, n2, n3, n4, n5, n6, n7, nz⟩ := d_ HO5.out.nd
     (try dsimp only at n0 n1 n2 n3 n4 n5 n6 n7)
     rw [HUA.out] at n6
     go_wp2_with fail
     refine (HCK.out w5 (HT.out.later HO5.out.b) HOP5.out).mono ?_
     rintro e w6 ⟨rfl, hb6⟩
     have HO6 := h_ (HO5.out.later hb6)
     have HA6 := h_ (Sl.later HA5.out hb6)
     clear n0 n1 n2 n3 n4 n5 n6 n7 nz hb6 d0
     by_cases hf : opFault qp = 0
     · rw [hf]
       by_cases ha : l1 = ag
       · have HNW := h_ (show undoOk (runesI t) (BB.take (k + 1)) by rw [HTK.out]; exact HSN.out.2 ⟨HUO.out, hf, ha⟩)
         have ha2 : (l1 != ag) = false := by simpa using ha
         clear ha hf
         go_wp2_with fail
         go_roundw
         case rel => exact ⟨k + 1, by omega, by have := HKI.out; go_num, by rw [HTK.out, HAS.out], HNW, HO6, HA6⟩
         case measure => simp [intOf]
       · have HR9 := h_ (H9.out fun g => ha (HSN.out.1 (by
          have := cv_ (a := BB.take (k + 1)) (b := BB.drop (k + 1)) (by rw [List.take_append_drop, HBB.out]; exact g.1)
          rwa [HTK.out] at this)).2.2)
         have ha2 : (l1 != ag) = true := by simpa using ha
         clear ha hf
         go_wp2_with fail
         go_ret
         exact ⟨by rw [HR9.out]; rfl, HO6.out.b⟩
     · have HR9 := h_ (H9.out fun g => hf (HSN.out.1 (by
        have := cv_ (a := BB.take (k + 1)) (b := BB.drop (k + 1)) (by rw [List.take_append_drop, HBB.out]; exact g.1)
        rwa [HTK.out] at this)).2.1)
       have hf2 : (opFault qp != 0) = true := by simpa using hf
       generalize opFault qp = er at *
       clear hf
       go_wp2_with fail
       go_ret
       exact ⟨by rw [HR9.out]; rfl, HO6.out.b⟩
   · obtain rfl : k = U.length := by omega
     have HUN := h_ (show undoOk (runesI t) (U.map OpV.ps).reverse by rw [← HBB.out, ← List.take_length (l := BB), HBL.out]; exact HUO.out)
     rw [show ((U.length : Int) - 1 - U.length) = -1 by omega]
     clear HUO
     go_wp2_with fail
     clear n0 n1 n2 n3 n4 n5 n6 n7 nz
     go_loopw [11] (fun i wr => ∃ k : Nat, k ≤ S.length ∧ i = .int .i64 k ∧ Hid (∀ i (h : i < S.length), i < k → S[i].p = pl.getD i 0 ∧ sideMay true (runesI t) S[i]) ∧ Hid (OneAt w ⟨me, ep, up, true, t, sA, sc, S, uA, uc, U, mA, mc, M⟩ wr) ∧ Hid (Sl (· < wr.heap.size) wr 1 Aa pl.length (pl.map (Value.int .i64)))) (fun i _ => S.length - (intOf i).toNat)
     case atStart => exact ⟨0, Nat.zero_le _, rfl, fun i hi h => absurd h (by omega), HO, HA2⟩
     case round =>
     obtain ⟨k, hk, rfl, HG, HO, HA2⟩ := hrel
     obtain ⟨n0, n1, n2, n3, n4, n5, n6, n7, nz⟩ := d_ HO.out.nd
     (try dsimp only at n0 n1 n2 n3 n4 n5 n6 n7)
     have hpe := HPLL.out
     by_cases hlt : k < S.length
     · obtain ⟨b, o, rfl, hbs, hc⟩ := x_ SideV.cells 10 SideV.cells_len (Sl.later HI.out.sides.row HO.out.b) hlt
       have c0 : wr.cell? ⟨b, o + k * 10, none⟩ = some (.int .i64 S[k].p) := hc 0 _ rfl
       have c1 : wr.cell? ⟨b, o + k * 10 + 1, none⟩ = some (.bool S[k].j) := hc 1 _ rfl
       have c2 : wr.cell? ⟨b, o + k * 10 + 2, none⟩ = some (.int .i64 S[k].s) := hc 2 _ rfl
       have c3 : wr.cell? ⟨b, o + k * 10 + 3, none⟩ = some (.int .i64 S[k].h) := hc 3 _ rfl
       have c4 : wr.cell? ⟨b, o + k * 10 + 4, none⟩ = some (.slice S[k].A S[k].L.length S[k].c) := hc 4 _ rfl
       have c5 : wr.cell? ⟨b, o + k * 10 + 5, none⟩ = some (.int .i64 S[k].k.e) := hc 5 _ rfl
       have c6 : wr.cell? ⟨b, o + k * 10 + 6, none⟩ = some (.int .i64 S[k].k.n) := hc 6 _ rfl
       have c7 : wr.cell? ⟨b, o + k * 10 + 7, none⟩ = some (.slice S[k].k.sA S[k].k.s.length S[k].k.sc) := hc 7 _ rfl
       have c8 : wr.cell? ⟨b, o + k * 10 + 8, none⟩ = some (.slice S[k].k.qA S[k].k.q.length S[k].k.qc) := hc 8 _ rfl
       have c9 : wr.cell? ⟨b, o + k * 10 + 9, none⟩ = some (.int .i64 S[k].k.h) := hc 9 _ rfl
       obtain ⟨ab, ao, rfl, habs, hac⟩ := HA2.out.open_ (by omega)
       have a0 := hac k _ (ca_ pl k (by omega))
       have hkp : k < pl.length := by omega
       have hkp2 : (k : Int) < (pl.length : Int) := by omega
       have hkp3 : (k : Int) < (S.length : Int) := by omega
       clear hpe
       have HSK := h_ (fun (W : World) (hb : Below wr.heap.size wr W) => HSD.out W S[k] (HT.out.later (bThen HO.out.b hb)) (List.getElem_mem hlt) ((HI.out.sides.each _ (List.getElem_mem hlt)).later (bThen HO.out.b hb)))
       clear hc hac
       by_cases hp : S[k].p = pl.getD k 0
       · have hpk := hp
         have hne : (S[k].p != pl.getD k 0) = false := by simp [hp]
         by_cases hsm : sideMay true (runesI t) S[k]
         · have HS2 := h_ (show ∀ W, Below wr.heap.size wr W → Calls Tryz.prog 61 #[NodeV.val ⟨me, ep, up, true, t, some ⟨b, o, none⟩, sc, S, uA, uc, U, mA, mc, M⟩, S[k].val] W (R_ W (.bool true)) from fun W hb => (HSK.out W hb).mono fun r w' ⟨⟨b, e, q⟩, h⟩ => ⟨by rw [e]; cases b <;> simp_all, h⟩)
           have HGN := h_ (show ∀ i (h : i < S.length), i < k + 1 → S[i].p = pl.getD i 0 ∧ sideMay true (runesI t) S[i] from fun i h hi => by
            rcases Nat.lt_or_ge i k with q | q
            · exact HG.out i h q
            · obtain rfl : i = k := by omega
              exact ⟨hp, hsm⟩)
           clear hp hsm HSK
           generalize S[k] = x at *
           generalize pl.getD k 0 = pk at *
           obtain ⟨p, j, s, h, A, c, L, kk⟩ := x
           dsimp only [SideV.p] at hne
           subst hpk
           dsimp only at c0 c1 c2 c3 c4 c5 c6 c7 c8 c9 HS2
           go_wp2_with (refine r_ ?_)
           refine ⟨?_⟩
           go_region_held3 (fun w' => w'.cell? ⟨w.heap.size, 0, none⟩ = some (.int .i64 me) ∧ w'.cell? ⟨w.heap.size, 1, none⟩ = some (.int .i64 ep) ∧ w'.cell? ⟨w.heap.size, 2, none⟩ = some (.int .i64 up) ∧ w'.cell? ⟨w.heap.size, 3, none⟩ = some (.bool true) ∧ w'.cell? ⟨w.heap.size, 4, none⟩ = some (.string t) ∧ w'.cell? ⟨w.heap.size, 5, none⟩ = some (.slice (some ⟨b, o, none⟩) S.length sc) ∧ w'.cell? ⟨w.heap.size, 6, none⟩ = some (.slice uA U.length uc) ∧ w'.cell? ⟨w.heap.size, 7, none⟩ = some (.slice mA M.length mc) ∧ w'.cell? ⟨b, o + k * 10, none⟩ = some (.int .i64 p) ∧ w'.cell? ⟨b, o + k * 10 + 1, none⟩ = some (.bool j) ∧ w'.cell? ⟨b, o + k * 10 + 2, none⟩ = some (.int .i64 s) ∧ w'.cell? ⟨b, o + k * 10 + 3, none⟩ = some (.int .i64 h) ∧ w'.cell? ⟨b, o + k * 10 + 4, none⟩ = some (.slice A L.length c) ∧ w'.cell? ⟨b, o + k * 10 + 5, none⟩ = some (.int .i64 kk.e) ∧ w'.cell? ⟨b, o + k * 10 + 6, none⟩ = some (.int .i64 kk.n) ∧ w'.cell? ⟨b, o + k * 10 + 7, none⟩ = some (.slice kk.sA kk.s.length kk.sc) ∧ w'.cell? ⟨b, o + k * 10 + 8, none⟩ = some (.slice kk.qA kk.q.length kk.qc) ∧ w'.cell? ⟨b, o + k * 10 + 9, none⟩ = some (.int .i64 kk.h) ∧ w'.cell? ⟨ab, ao + k, none⟩ = some (.int .i64 p))
            (go_keep)
            ((go_at_call 61; refine (HS2.out _ bz_).mono ?_; rintro r w6 ⟨rfl, hb6⟩; obtain ⟨⟨d6, os6⟩, rfl⟩ := a_ hb6))
           all_goals (
            go_wp2_with fail
            go_roundw
            case rel => exact ⟨k + 1, by omega, by go_num, HGN, h_ (HO.out.later bz_), h_ (Sl.later HA2.out bz_)⟩
            case measure => simp [intOf]; omega)
         · have HS2 := h_ (show ∀ W, Below wr.heap.size wr W → Calls Tryz.prog 61 #[NodeV.val ⟨me, ep, up, true, t, some ⟨b, o, none⟩, sc, S, uA, uc, U, mA, mc, M⟩, S[k].val] W (R_ W (.bool false)) from fun W hb => (HSK.out W hb).mono fun r w' ⟨⟨b, e, q⟩, h⟩ => ⟨by rw [e]; cases b <;> simp_all, h⟩)
           have HR9 := h_ (H9.out fun q => hsm (q.2.1 k hlt).2)
           clear hp hsm HSK
           generalize S[k] = x at *
           generalize pl.getD k 0 = pk at *
           obtain ⟨p, j, s, h, A, c, L, kk⟩ := x
           dsimp only [SideV.p] at hne
           subst hpk
           dsimp only at c0 c1 c2 c3 c4 c5 c6 c7 c8 c9 HS2
           go_wp2_with (refine r_ ?_)
           refine ⟨?_⟩
           go_region_held3 (fun w' => w'.cell? ⟨w.heap.size, 0, none⟩ = some (.int .i64 me) ∧ w'.cell? ⟨w.heap.size, 1, none⟩ = some (.int .i64 ep) ∧ w'.cell? ⟨w.heap.size, 2, none⟩ = some (.int .i64 up) ∧ w'.cell? ⟨w.heap.size, 3, none⟩ = some (.bool true) ∧ w'.cell? ⟨w.heap.size, 4, none⟩ = some (.string t) ∧ w'.cell? ⟨w.heap.size, 5, none⟩ = some (.slice (some ⟨b, o, none⟩) S.length sc) ∧ w'.cell? ⟨w.heap.size, 6, none⟩ = some (.slice uA U.length uc) ∧ w'.cell? ⟨w.heap.size, 7, none⟩ = some (.slice mA M.length mc) ∧ w'.cell? ⟨b, o + k * 10, none⟩ = some (.int .i64 p) ∧ w'.cell? ⟨b, o + k * 10 + 1, none⟩ = some (.bool j) ∧ w'.cell? ⟨b, o + k * 10 + 2, none⟩ = some (.int .i64 s) ∧ w'.cell? ⟨b, o + k * 10 + 3, none⟩ = some (.int .i64 h) ∧ w'.cell? ⟨b, o + k * 10 + 4, none⟩ = some (.slice A L.length c) ∧ w'.cell? ⟨b, o + k * 10 + 5, none⟩ = some (.int .i64 kk.e) ∧ w'.cell? ⟨b, o + k * 10 + 6, none⟩ = some (.int .i64 kk.n) ∧ w'.cell? ⟨b, o + k * 10 + 7, none⟩ = some (.slice kk.sA kk.s.length kk.sc) ∧ w'.cell? ⟨b, o + k * 10 + 8, none⟩ = some (.slice kk.qA kk.q.length kk.qc) ∧ w'.cell? ⟨b, o + k * 10 + 9, none⟩ = some (.int .i64 kk.h) ∧ w'.cell? ⟨ab, ao + k, none⟩ = some (.int .i64 p))
            (go_keep)
            ((go_at_call 61; refine (HS2.out _ bz_).mono ?_; rintro r w6 ⟨rfl, hb6⟩; obtain ⟨⟨d6, os6⟩, rfl⟩ := a_ hb6))
           all_goals (
            go_wp2_with fail
            go_ret
            exact ⟨by rw [HR9.out]; rfl, bThen HO.out.b bz_⟩)
       · have hne : (S[k].p != pl.getD k 0) = true := by simpa using hp
         have HR9 := h_ (H9.out fun q => hp (q.2.1 k hlt).1)
         clear hp HSK
         generalize S[k] = x at *
         generalize pl.getD k 0 = pk at *
         obtain ⟨p, j, s, h, A, c, L, kk⟩ := x
         dsimp only [SideV.p] at hne
         dsimp only at c0 c1 c2 c3 c4 c5 c6 c7 c8 c9
         go_wp2_with (refine r_ ?_)
         refine ⟨?_⟩
         go_region
         all_goals (
          go_wp2_with fail
          go_ret
          exact ⟨by rw [HR9.out]; rfl, bThen HO.out.b bz_⟩)
     · obtain rfl : k = S.length := by omega
       have hnl : decide ((S.length : Int) < (pl.length : Int)) = false := by rw [hpe]; simp
       have hnl2 : decide (S.length < pl.length) = false := by rw [hpe]; simp
       clear hpe
       have HSO := h_ (show ∀ i (h : i < S.length), S[i].p = pl.getD i 0 ∧ sideMay true (runesI t) S[i] from fun i h => HG.out i h h)
       obtain ⟨b, o, rfl, hbs, hc⟩ := x_ SideV.cells 10 SideV.cells_len (Sl.later HI.out.sides.row HO.out.b) (k := 0) hpp
       have c1 : wr.cell? ⟨b, o + 1, none⟩ = some (.bool S[0].j) := by simpa using hc 1 _ rfl
       clear hc
       have HHD := h_ (show S.head? = some S[0] from List.head?_eq_getElem? ▸ List.getElem?_eq_getElem hpp)
       generalize S[0] = x at *
       obtain ⟨p, j, s, h, A, c, L, kk⟩ := x
       dsimp only at c1
       have hpp2 : (0 : Int) < (S.length : Int) := by omega
       by_cases hj : ¬ j = true
       · have hj2 : j = !true := by cases j <;> simp_all
         subst hj2
         have HR9 := h_ (H9.out fun q => by have := q.2.2.1 (by simpa using _zp) _ HHD.out; cases this)
         clear hj
         go_wp2_with (refine r_ ?_)
         refine ⟨?_⟩
         go_region
         all_goals (
          go_wp2_with fail
          go_ret
          exact ⟨by rw [HR9.out]; rfl, bThen HO.out.b bz_⟩)
       replace hj : j = true := Classical.not_not.1 hj
       subst hj
       have HPAR := h_ (show 0 < me → ∀ x, S.head? = some x → x.j = true from fun _ x hx => by rw [HHD.out] at hx; obtain rfl := Option.some.inj hx; rfl)
       go_wp2_with (refine r_ ?_)
       refine ⟨?_⟩
       go_region
       all_goals (
        go_wp2_with fail
        clear n0 n1 n2 n3 n4 n5 n6 n7 nz
        go_loopw [12] (fun i wr => ∃ k : Nat, k ≤ M.length ∧ i = .int .i64 k ∧ Hid (∀ i (h : i < M.length), i < k → markOk (runesI t) M[i]) ∧ Hid (OneAt w ⟨me, ep, up, true, t, some ⟨b, o, none⟩, sc, S, uA, uc, U, mA, mc, M⟩ wr)) (fun i _ => M.length - (intOf i).toNat)
        case atStart => exact ⟨0, Nat.zero_le _, rfl, fun i hi h => absurd h (by omega), h_ (HO.out.later bz_)⟩
        case round =>
         obtain ⟨k, hk, rfl, HGM, HO4⟩ := hrel
         have hM2 := HM1.out
         obtain ⟨n0, n1, n2, n3, n4, n5, n6, n7, nz⟩ := d_ HO4.out.nd
         (try dsimp only at n0 n1 n2 n3 n4 n5 n6 n7)
         by_cases hlt : k < M.length
         · obtain ⟨mb, mo, rfl, hbs, hc⟩ := x_ markCells 2 bb_ (Sl.later HI.out.marks HO4.out.b) hlt
           have c0 : _root_.Go.World.cell? _ ⟨mb, mo + k * 2, none⟩ = some (.int .i64 M[k].1) := hc 0 _ rfl
           have c1 : _root_.Go.World.cell? _ ⟨mb, mo + k * 2 + 1, none⟩ = some (.int .i64 M[k].2) := hc 1 _ rfl
           have hkm3 : (k : Int) < (M.length : Int) := by omega
           clear hc
           by_cases hm : markOk (runesI t) M[k]
           · have HS2 := h_ (show ∀ W, Calls Tryz.prog 62 #[.string t, markV M[k]] W (R_ W (.bool true)) from fun W => (HMK.out W M[k]).mono fun r w' ⟨⟨b, e, q⟩, h⟩ => ⟨by rw [e]; cases b <;> simp_all, h⟩)
             have HGN := h_ (show ∀ i (h : i < M.length), i < k + 1 → markOk (runesI t) M[i] from fun i h hi => by
              rcases Nat.lt_or_ge i k with q | q
              · exact HGM.out i h q
              · obtain rfl : i = k := by omega
                exact hm)
             clear hm
             generalize M[k] = m at *
             obtain ⟨ma, mh⟩ := m
             dsimp only at c0 c1 HS2
             go_wp2_with (refine r_ ?_)
             refine ⟨?_⟩
             go_region_held3 (fun w' => w'.cell? ⟨w.heap.size, 4, none⟩ = some (.string t) ∧ w'.cell? ⟨w.heap.size, 7, none⟩ = some (.slice (some ⟨mb, mo, none⟩) M.length mc) ∧ w'.cell? ⟨mb, mo + k * 2, none⟩ = some (.int .i64 ma) ∧ w'.cell? ⟨mb, mo + k * 2 + 1, none⟩ = some (.int .i64 mh))
              (go_keep)
              ((go_at_call 62; refine (HS2.out _).mono ?_; rintro r w6 ⟨rfl, hb6⟩; obtain ⟨⟨d6, os6⟩, rfl⟩ := a_ hb6))
             all_goals (
              go_wp2_with fail
              go_roundw
              case rel => exact ⟨k + 1, by omega, by go_num, HGN, h_ (HO4.out.later bz_)⟩
              case measure => simp [intOf]; omega)
           · have HS2 := h_ (show ∀ W, Calls Tryz.prog 62 #[.string t, markV M[k]] W (R_ W (.bool false)) from fun W => (HMK.out W M[k]).mono fun r w' ⟨⟨b, e, q⟩, h⟩ => ⟨by rw [e]; cases b <;> simp_all, h⟩)
             have HR9 := h_ (H9.out fun q => hm (q.2.2.2 _ (List.getElem_mem hlt)))
             clear hm
             generalize M[k] = m at *
             obtain ⟨ma, mh⟩ := m
             dsimp only at c0 c1 HS2
             go_wp2_with (refine r_ ?_)
             refine ⟨?_⟩
             go_region_held3 (fun w' => w'.cell? ⟨w.heap.size, 4, none⟩ = some (.string t) ∧ w'.cell? ⟨w.heap.size, 7, none⟩ = some (.slice (some ⟨mb, mo, none⟩) M.length mc) ∧ w'.cell? ⟨mb, mo + k * 2, none⟩ = some (.int .i64 ma) ∧ w'.cell? ⟨mb, mo + k * 2 + 1, none⟩ = some (.int .i64 mh))
              (go_keep)
              ((go_at_call 62; refine (HS2.out _).mono ?_; rintro r w6 ⟨rfl, hb6⟩; obtain ⟨⟨d6, os6⟩, rfl⟩ := a_ hb6))
             all_goals (
              go_wp2_with fail
              go_ret
              exact ⟨by rw [HR9.out]; rfl, bThen HO4.out.b bz_⟩)
         · obtain rfl : k = M.length := by omega
           have HR0 := h_ (H0.out ⟨HUN.out, HSO.out, HPAR.out, fun m hm => by obtain ⟨i, hi, rfl⟩ := List.getElem_of_mem hm; exact HGM.out i hi hi⟩)
           go_wp2_with fail
           go_ret
           exact ⟨by rw [HR0.out]; rfl, HO4.out.b⟩))
theorem lb_ (w : World) (T : Option Addr) (N Nc : Nat) (n : NodeV) (HT : Hid (Tabs w)) (HI : Hid (n.In w)) (hN0 : 0 < N) (hN : N ≤ 7) (pl : List Int) (Hme : Hid (0 ≤ n.me ∧ n.me ≤ (N : Int) - 1)) (Hep : Hid (1 ≤ n.ep ∧ n.ep ≤ 1048575)) (Hup : Hid (0 ≤ n.up ∧ n.up ≤ 1048576)) (_z0 : (n.me == 0) = true) (_zp : decide (0 < n.me) = false) (_u0 : (n.up != 0) = false) (hrd : n.rd = true) (hpl : pl.length = n.S.length) (hM : n.M.length ≤ 1) (hU : n.U.length ≤ 12) (hS : n.S.length ≤ 8) (res : Int) (H9 : Hid (¬ (undoOk (runesI n.t) (n.U.map OpV.ps).reverse ∧ (∀ i (h : i < n.S.length), n.S[i].p = pl.getD i 0 ∧ sideMay n.rd (runesI n.t) n.S[i]) ∧ (0 < n.me → ∀ x, n.S.head? = some x → x.j = n.rd) ∧ ∀ m ∈ n.M, markOk (runesI n.t) m) → res = 9)) (H0 : Hid ((undoOk (runesI n.t) (n.U.map OpV.ps).reverse ∧ (∀ i (h : i < n.S.length), n.S[i].p = pl.getD i 0 ∧ sideMay n.rd (runesI n.t) n.S[i]) ∧ (0 < n.me → ∀ x, n.S.head? = some x → x.j = n.rd) ∧ ∀ m ∈ n.M, markOk (runesI n.t) m) → res = 0)) (HC : Hid (∀ W, Below w.heap.size w W → Calls Tryz.prog 54 #[.slice T N Nc] W fun e w' => e = .returned (.int .i64 0) ∧ W = w')) (HX : Hid (∀ W, Tabs W → Calls Tryz.prog 56 #[.string n.t] W (R_ W (.int .i64 0)))) (HL : Hid (∀ W, Below w.heap.size w W → Calls Tryz.prog 57 #[.slice T N Nc, .int .i64 n.me] W (RetInts W pl))) (HSD : Hid (∀ W x, Tabs W → x ∈ n.S → x.In W → Calls Tryz.prog 61 #[n.val, x.val] W fun r w' => (∃ b : Bool, r = .returned (.bool b) ∧ (b = true ↔ sideMay n.rd (runesI n.t) x)) ∧ Below W.heap.size W w')) (HRC : Hid (∀ W, Calls Tryz.prog 58 #[.string n.t] W (R_ W (.int .i64 (runesI n.t))))) (HMK : Hid (∀ W m, Calls Tryz.prog 62 #[.string n.t, markV m] W fun r w' => (∃ b : Bool, r = .returned (.bool b) ∧ (b = true ↔ markOk (runesI n.t) m)) ∧ Below W.heap.size W w')) (HLO : Hid (∀ W (q : OpV), q ∈ n.U → OpIn (· < W.heap.size) W q.A q.ps → Calls Tryz.prog 59 #[.slice q.A q.ps.length q.c] W (R_ W (.tuple #[.int .i64 (lens q.ps).1, .int .i64 (lens q.ps).2])))) (HOF : Hid (∀ W (q : OpV), Tabs W → q ∈ n.U → OpIn (· < W.heap.size) W q.A q.ps → Calls Tryz.prog 60 #[.slice q.A q.ps.length q.c] W (R_ W (.int .i64 (opFault q.ps))))) :
 Calls Tryz.prog 22 #[.slice T N Nc, n.val] w (R_ w (.int .i64 res)) := by
 have HPLL := h_ hpl
 have q1 : ((pl.length : Int) != (n.S.length : Int)) = false := by simp [hpl]
 have q2 : decide (1 < (n.M.length : Int)) = false := by simp; omega
 have q3 : decide (12 < (n.U.length : Int)) = false := by simp; omega
 have HM1 := h_ hM
 clear hpl hM
 obtain ⟨me, ep, up, rd, t, sA, sc, S, uA, uc, U, mA, mc, M⟩ := n
 dsimp only at *
 subst hrd
 have HA := h_ (OneAt.new w ⟨me, ep, up, true, t, sA, sc, S, uA, uc, U, mA, mc, M⟩)
 obtain ⟨WA, hWA⟩ : ∃ WA, WA = w.alloc (.cells #[.int .i64 me, .int .i64 ep, .int .i64 up, .bool true, .string t, .slice sA S.length sc, .slice uA U.length uc, .slice mA M.length mc] 28) := ⟨_, rfl⟩
 dsimp only at HA
 rw [← hWA] at HA
 have HW := h_ hWA.symm
 clear hWA
 go_enter Tryz.func22, Tryz.ntmps22
 go_wp2_with fail
 rw [HW.out]
 refine (HC.out _ HA.out.b).mono ?_
 rintro e w1 ⟨rfl, rfl⟩
 obtain ⟨n0, n1, n2, n3, n4, n5, n6, n7, nz⟩ := d_ HA.out.nd
 have hw1 : wrap64 ((N : Int) - 1) = (N : Int) - 1 := cd_ hN0 hN
 go_wp2_with fail
 refine (c_ me 0 ((N : Int) - 1) _ Hme.out.1 Hme.out.2).mono ?_
 rintro e wi ⟨rfl, rfl⟩
 go_wp2_with fail
 refine (c_ ep 1 1048575 _ Hep.out.1 Hep.out.2).mono ?_
 rintro e wi ⟨rfl, rfl⟩
 go_wp2_with fail
 refine (c_ up 0 1048576 _ Hup.out.1 Hup.out.2).mono ?_
 rintro e wi ⟨rfl, rfl⟩
 go_wp2_with fail
 refine (HX.out _ (HT.out.later HA.out.b)).mono ?_
 rintro e w2 ⟨rfl, hb2⟩
 have H2 := h_ (HA.out.later hb2)
 clear n0 n1 n2 n3 n4 n5 n6 n7 nz
 obtain ⟨n0, n1, n2, n3, n4, n5, n6, n7, nz⟩ := d_ H2.out.nd
 clear hb2
 go_wp2_with fail
 refine (HL.out _ H2.out.b).mono ?_
 rintro e w3 ⟨Aa, ca, rfl, hpl, hb3⟩
 have H3 := h_ (H2.out.later hb3)
 have HPL := h_ hpl
 clear n0 n1 n2 n3 n4 n5 n6 n7 nz
 obtain ⟨n0, n1, n2, n3, n4, n5, n6, n7, nz⟩ := d_ H3.out.nd
 clear hb3 hpl
 go_wp2_with fail
 have HWU := h_ (show wrap64 ((U.length : Int) - 1) = (U.length : Int) - 1 from rg_ hU)
 refine (HRC.out _).mono ?_
 rintro e w4 ⟨rfl, hb4⟩
 have H4 := h_ (H3.out.later hb4)
 have HAL := h_ (show Sl (· < w4.heap.size) w4 1 Aa pl.length (pl.map (Value.int .i64)) from Sl.later ((Sl.of_own _ HPL.out).moved fun _ hx => ⟨hx.2, rfl⟩) hb4)
 clear n0 n1 n2 n3 n4 n5 n6 n7 nz
 obtain ⟨n0, n1, n2, n3, n4, n5, n6, n7, nz⟩ := d_ H4.out.nd
 clear hb4 q1 q2 q3 hw1
 (try clear _ht _q4 _q5)
 have hwu := HWU.out
 go_wp2_with fail
 clear n0 n1 n2 n3 n4 n5 n6 n7 nz hwu
 all_goals (
  have HBL := h_ (show (U.map OpV.ps).reverse.length = U.length by simp)
  obtain ⟨BB, hBB⟩ : ∃ BB, BB = (U.map OpV.ps).reverse := ⟨_, rfl⟩
  rw [← hBB] at HBL
  have HBB := h_ hBB
  clear hBB
  go_loopw [7, 8] (fun av i wr => ∃ k : Nat, k ≤ U.length ∧ i = .int .i64 ((U.length : Int) - 1 - k) ∧ av = .int .i64 (atOf (runesI t) (BB.take k)) ∧ Hid (undoOk (runesI t) (BB.take k)) ∧ Hid (OneAt w ⟨me, ep, up, true, t, sA, sc, S, uA, uc, U, mA, mc, M⟩ wr) ∧ Hid (Sl (· < wr.heap.size) wr 1 Aa pl.length (pl.map (Value.int .i64)))) (fun _ i _ => (intOf i + 1).toNat)
  case atStart => exact ⟨0, Nat.zero_le _, by simp, rfl, trivial, H4, HAL⟩
  case round =>
   obtain ⟨k, hk, rfl, rfl, HUO, HO, HA2⟩ := hrel
   obtain ⟨n0, n1, n2, n3, n4, n5, n6, n7, nz⟩ := d_ HO.out.nd
   (try dsimp only at n0 n1 n2 n3 n4 n5 n6 n7)
   by_cases hlt : k < U.length
   · obtain ⟨m, hm⟩ : ∃ m : Nat, U.length - 1 - k = m := ⟨_, rfl⟩
     have hmi : (U.length : Int) - 1 - k = m := by omega
     have hml : m < U.length := by omega
     have hml2 : (m : Int) < (U.length : Int) := by omega
     rw [hmi]
     obtain ⟨ub, uo, hua, hbs, c0, hop⟩ := (HI.out.undo.later HO.out.b).at_ (k := m) hml
     (try dsimp only at hua c0 hop)
     rw [hua] at n6
     have HUA := h_ hua
     have HTK := h_ (show BB.take (k + 1) = BB.take k ++ [U[m].ps] by rw [HBB.out, mm_ hlt]; simp only [hm])
     have HKN := h_ hm
     have HKI := h_ hmi
     have HQM := h_ (List.getElem_mem hml)
     clear hm hmi hua
     generalize U[m] = q at *
     obtain ⟨qA, qc, qp⟩ := q
     (try dsimp only at c0 hop)
     have HLN := h_ (fun W hs => HLO.out W (⟨qA, qc, qp⟩ : OpV) HQM.out hs)
     have HCK := h_ (fun W hT hs => HOF.out W (⟨qA, qc, qp⟩ : OpV) hT HQM.out hs)
     have HSN := h_ (er_ (runesI t) (BB.take k) qp)
     have HAS := h_ (fv_ (runesI t) (BB.take k) qp)
     have HOP := h_ hop
     (try dsimp only at HTK HLN HCK)
     generalize atOf (runesI t) (BB.take k) = ag at *
     generalize lens qp = ln at *
     obtain ⟨l1, l2⟩ := ln
     (try dsimp only at HLN HSN HAS)
     clear hop
     go_wp2_with fail
     refine (HLN.out wr HOP.out).mono ?_
     rintro e w5 ⟨rfl, hb5⟩
     have HO5 := h_ (HO.out.later hb5)
     have HOP5 := h_ (Sl.later HOP.out hb5)
     have HA5 := h_ (Sl.later HA2.out hb5)
     have d0 := (hb5.cell (p := ⟨ub, uo + m, none⟩) hbs).trans c0
     have hbs5 : ub < w5.heap.size := Nat.lt_of_lt_of_le hbs hb5.size
     clear n0 n1 n2 n3 n4 n5 n6 n7 nz hb5 c0
     obtain ⟨n0, n1, n2, n3, n4, n5, n6, n7, nz⟩ := d_ HO5.out.nd
     (try dsimp only at n0 n1 n2 n3 n4 n5 n6 n7)
     rw [HUA.out] at n6
     go_wp2_with fail
     refine (HCK.out w5 (HT.out.later HO5.out.b) HOP5.out).mono ?_
     rintro e w6 ⟨rfl, hb6⟩
     have HO6 := h_ (HO5.out.later hb6)
     have HA6 := h_ (Sl.later HA5.out hb6)
     clear n0 n1 n2 n3 n4 n5 n6 n7 nz hb6 d0
     by_cases hf : opFault qp = 0
     · rw [hf]
       by_cases ha : l1 = ag
       · have HNW := h_ (show undoOk (runesI t) (BB.take (k + 1)) by rw [HTK.out]; exact HSN.out.2 ⟨HUO.out, hf, ha⟩)
         have ha2 : (l1 != ag) = false := by simpa using ha
         clear ha hf
         go_wp2_with fail
         go_roundw
         case rel => exact ⟨k + 1, by omega, by have := HKI.out; go_num, by rw [HTK.out, HAS.out], HNW, HO6, HA6⟩
         case measure => simp [intOf]
       · have HR9 := h_ (H9.out fun g => ha (HSN.out.1 (by
          have := cv_ (a := BB.take (k + 1)) (b := BB.drop (k + 1)) (by rw [List.take_append_drop, HBB.out]; exact g.1)
          rwa [HTK.out] at this)).2.2)
         have ha2 : (l1 != ag) = true := by simpa using ha
         clear ha hf
         go_wp2_with fail
         go_ret
         exact ⟨by rw [HR9.out]; rfl, HO6.out.b⟩
     · have HR9 := h_ (H9.out fun g => hf (HSN.out.1 (by
        have := cv_ (a := BB.take (k + 1)) (b := BB.drop (k + 1)) (by rw [List.take_append_drop, HBB.out]; exact g.1)
        rwa [HTK.out] at this)).2.1)
       have hf2 : (opFault qp != 0) = true := by simpa using hf
       generalize opFault qp = er at *
       clear hf
       go_wp2_with fail
       go_ret
       exact ⟨by rw [HR9.out]; rfl, HO6.out.b⟩
   · obtain rfl : k = U.length := by omega
     have HUN := h_ (show undoOk (runesI t) (U.map OpV.ps).reverse by rw [← HBB.out, ← List.take_length (l := BB), HBL.out]; exact HUO.out)
     rw [show ((U.length : Int) - 1 - U.length) = -1 by omega]
     clear HUO
     go_wp2_with fail
     clear n0 n1 n2 n3 n4 n5 n6 n7 nz
     go_loopw [11] (fun i wr => ∃ k : Nat, k ≤ S.length ∧ i = .int .i64 k ∧ Hid (∀ i (h : i < S.length), i < k → S[i].p = pl.getD i 0 ∧ sideMay true (runesI t) S[i]) ∧ Hid (OneAt w ⟨me, ep, up, true, t, sA, sc, S, uA, uc, U, mA, mc, M⟩ wr) ∧ Hid (Sl (· < wr.heap.size) wr 1 Aa pl.length (pl.map (Value.int .i64)))) (fun i _ => S.length - (intOf i).toNat)
     case atStart => exact ⟨0, Nat.zero_le _, rfl, fun i hi h => absurd h (by omega), HO, HA2⟩
     case round =>
     obtain ⟨k, hk, rfl, HG, HO, HA2⟩ := hrel
     obtain ⟨n0, n1, n2, n3, n4, n5, n6, n7, nz⟩ := d_ HO.out.nd
     (try dsimp only at n0 n1 n2 n3 n4 n5 n6 n7)
     have hpe := HPLL.out
     by_cases hlt : k < S.length
     · obtain ⟨b, o, rfl, hbs, hc⟩ := x_ SideV.cells 10 SideV.cells_len (Sl.later HI.out.sides.row HO.out.b) hlt
       have c0 : wr.cell? ⟨b, o + k * 10, none⟩ = some (.int .i64 S[k].p) := hc 0 _ rfl
       have c1 : wr.cell? ⟨b, o + k * 10 + 1, none⟩ = some (.bool S[k].j) := hc 1 _ rfl
       have c2 : wr.cell? ⟨b, o + k * 10 + 2, none⟩ = some (.int .i64 S[k].s) := hc 2 _ rfl
       have c3 : wr.cell? ⟨b, o + k * 10 + 3, none⟩ = some (.int .i64 S[k].h) := hc 3 _ rfl
       have c4 : wr.cell? ⟨b, o + k * 10 + 4, none⟩ = some (.slice S[k].A S[k].L.length S[k].c) := hc 4 _ rfl
       have c5 : wr.cell? ⟨b, o + k * 10 + 5, none⟩ = some (.int .i64 S[k].k.e) := hc 5 _ rfl
       have c6 : wr.cell? ⟨b, o + k * 10 + 6, none⟩ = some (.int .i64 S[k].k.n) := hc 6 _ rfl
       have c7 : wr.cell? ⟨b, o + k * 10 + 7, none⟩ = some (.slice S[k].k.sA S[k].k.s.length S[k].k.sc) := hc 7 _ rfl
       have c8 : wr.cell? ⟨b, o + k * 10 + 8, none⟩ = some (.slice S[k].k.qA S[k].k.q.length S[k].k.qc) := hc 8 _ rfl
       have c9 : wr.cell? ⟨b, o + k * 10 + 9, none⟩ = some (.int .i64 S[k].k.h) := hc 9 _ rfl
       obtain ⟨ab, ao, rfl, habs, hac⟩ := HA2.out.open_ (by omega)
       have a0 := hac k _ (ca_ pl k (by omega))
       have hkp : k < pl.length := by omega
       have hkp2 : (k : Int) < (pl.length : Int) := by omega
       have hkp3 : (k : Int) < (S.length : Int) := by omega
       clear hpe
       have HSK := h_ (fun (W : World) (hb : Below wr.heap.size wr W) => HSD.out W S[k] (HT.out.later (bThen HO.out.b hb)) (List.getElem_mem hlt) ((HI.out.sides.each _ (List.getElem_mem hlt)).later (bThen HO.out.b hb)))
       clear hc hac
       by_cases hp : S[k].p = pl.getD k 0
       · have hpk := hp
         have hne : (S[k].p != pl.getD k 0) = false := by simp [hp]
         by_cases hsm : sideMay true (runesI t) S[k]
         · have HS2 := h_ (show ∀ W, Below wr.heap.size wr W → Calls Tryz.prog 61 #[NodeV.val ⟨me, ep, up, true, t, some ⟨b, o, none⟩, sc, S, uA, uc, U, mA, mc, M⟩, S[k].val] W (R_ W (.bool true)) from fun W hb => (HSK.out W hb).mono fun r w' ⟨⟨b, e, q⟩, h⟩ => ⟨by rw [e]; cases b <;> simp_all, h⟩)
           have HGN := h_ (show ∀ i (h : i < S.length), i < k + 1 → S[i].p = pl.getD i 0 ∧ sideMay true (runesI t) S[i] from fun i h hi => by
            rcases Nat.lt_or_ge i k with q | q
            · exact HG.out i h q
            · obtain rfl : i = k := by omega
              exact ⟨hp, hsm⟩)
           clear hp hsm HSK
           generalize S[k] = x at *
           generalize pl.getD k 0 = pk at *
           obtain ⟨p, j, s, h, A, c, L, kk⟩ := x
           dsimp only [SideV.p] at hne
           subst hpk
           dsimp only at c0 c1 c2 c3 c4 c5 c6 c7 c8 c9 HS2
           go_wp2_with (refine r_ ?_)
           refine ⟨?_⟩
           go_region_held3 (fun w' => w'.cell? ⟨w.heap.size, 0, none⟩ = some (.int .i64 me) ∧ w'.cell? ⟨w.heap.size, 1, none⟩ = some (.int .i64 ep) ∧ w'.cell? ⟨w.heap.size, 2, none⟩ = some (.int .i64 up) ∧ w'.cell? ⟨w.heap.size, 3, none⟩ = some (.bool true) ∧ w'.cell? ⟨w.heap.size, 4, none⟩ = some (.string t) ∧ w'.cell? ⟨w.heap.size, 5, none⟩ = some (.slice (some ⟨b, o, none⟩) S.length sc) ∧ w'.cell? ⟨w.heap.size, 6, none⟩ = some (.slice uA U.length uc) ∧ w'.cell? ⟨w.heap.size, 7, none⟩ = some (.slice mA M.length mc) ∧ w'.cell? ⟨b, o + k * 10, none⟩ = some (.int .i64 p) ∧ w'.cell? ⟨b, o + k * 10 + 1, none⟩ = some (.bool j) ∧ w'.cell? ⟨b, o + k * 10 + 2, none⟩ = some (.int .i64 s) ∧ w'.cell? ⟨b, o + k * 10 + 3, none⟩ = some (.int .i64 h) ∧ w'.cell? ⟨b, o + k * 10 + 4, none⟩ = some (.slice A L.length c) ∧ w'.cell? ⟨b, o + k * 10 + 5, none⟩ = some (.int .i64 kk.e) ∧ w'.cell? ⟨b, o + k * 10 + 6, none⟩ = some (.int .i64 kk.n) ∧ w'.cell? ⟨b, o + k * 10 + 7, none⟩ = some (.slice kk.sA kk.s.length kk.sc) ∧ w'.cell? ⟨b, o + k * 10 + 8, none⟩ = some (.slice kk.qA kk.q.length kk.qc) ∧ w'.cell? ⟨b, o + k * 10 + 9, none⟩ = some (.int .i64 kk.h) ∧ w'.cell? ⟨ab, ao + k, none⟩ = some (.int .i64 p))
            (go_keep)
            ((go_at_call 61; refine (HS2.out _ bz_).mono ?_; rintro r w6 ⟨rfl, hb6⟩; obtain ⟨⟨d6, os6⟩, rfl⟩ := a_ hb6))
           all_goals (
            go_wp2_with fail
            go_roundw
            case rel => exact ⟨k + 1, by omega, by go_num, HGN, h_ (HO.out.later bz_), h_ (Sl.later HA2.out bz_)⟩
            case measure => simp [intOf]; omega)
         · have HS2 := h_ (show ∀ W, Below wr.heap.size wr W → Calls Tryz.prog 61 #[NodeV.val ⟨me, ep, up, true, t, some ⟨b, o, none⟩, sc, S, uA, uc, U, mA, mc, M⟩, S[k].val] W (R_ W (.bool false)) from fun W hb => (HSK.out W hb).mono fun r w' ⟨⟨b, e, q⟩, h⟩ => ⟨by rw [e]; cases b <;> simp_all, h⟩)
           have HR9 := h_ (H9.out fun q => hsm (q.2.1 k hlt).2)
           clear hp hsm HSK
           generalize S[k] = x at *
           generalize pl.getD k 0 = pk at *
           obtain ⟨p, j, s, h, A, c, L, kk⟩ := x
           dsimp only [SideV.p] at hne
           subst hpk
           dsimp only at c0 c1 c2 c3 c4 c5 c6 c7 c8 c9 HS2
           go_wp2_with (refine r_ ?_)
           refine ⟨?_⟩
           go_region_held3 (fun w' => w'.cell? ⟨w.heap.size, 0, none⟩ = some (.int .i64 me) ∧ w'.cell? ⟨w.heap.size, 1, none⟩ = some (.int .i64 ep) ∧ w'.cell? ⟨w.heap.size, 2, none⟩ = some (.int .i64 up) ∧ w'.cell? ⟨w.heap.size, 3, none⟩ = some (.bool true) ∧ w'.cell? ⟨w.heap.size, 4, none⟩ = some (.string t) ∧ w'.cell? ⟨w.heap.size, 5, none⟩ = some (.slice (some ⟨b, o, none⟩) S.length sc) ∧ w'.cell? ⟨w.heap.size, 6, none⟩ = some (.slice uA U.length uc) ∧ w'.cell? ⟨w.heap.size, 7, none⟩ = some (.slice mA M.length mc) ∧ w'.cell? ⟨b, o + k * 10, none⟩ = some (.int .i64 p) ∧ w'.cell? ⟨b, o + k * 10 + 1, none⟩ = some (.bool j) ∧ w'.cell? ⟨b, o + k * 10 + 2, none⟩ = some (.int .i64 s) ∧ w'.cell? ⟨b, o + k * 10 + 3, none⟩ = some (.int .i64 h) ∧ w'.cell? ⟨b, o + k * 10 + 4, none⟩ = some (.slice A L.length c) ∧ w'.cell? ⟨b, o + k * 10 + 5, none⟩ = some (.int .i64 kk.e) ∧ w'.cell? ⟨b, o + k * 10 + 6, none⟩ = some (.int .i64 kk.n) ∧ w'.cell? ⟨b, o + k * 10 + 7, none⟩ = some (.slice kk.sA kk.s.length kk.sc) ∧ w'.cell? ⟨b, o + k * 10 + 8, none⟩ = some (.slice kk.qA kk.q.length kk.qc) ∧ w'.cell? ⟨b, o + k * 10 + 9, none⟩ = some (.int .i64 kk.h) ∧ w'.cell? ⟨ab, ao + k, none⟩ = some (.int .i64 p))
            (go_keep)
            ((go_at_call 61; refine (HS2.out _ bz_).mono ?_; rintro r w6 ⟨rfl, hb6⟩; obtain ⟨⟨d6, os6⟩, rfl⟩ := a_ hb6))
           all_goals (
            go_wp2_with fail
            go_ret
            exact ⟨by rw [HR9.out]; rfl, bThen HO.out.b bz_⟩)
       · have hne : (S[k].p != pl.getD k 0) = true := by simpa using hp
         have HR9 := h_ (H9.out fun q => hp (q.2.1 k hlt).1)
         clear hp HSK
         generalize S[k] = x at *
         generalize pl.getD k 0 = pk at *
         obtain ⟨p, j, s, h, A, c, L, kk⟩ := x
         dsimp only [SideV.p] at hne
         dsimp only at c0 c1 c2 c3 c4 c5 c6 c7 c8 c9
         go_wp2_with (refine r_ ?_)
         refine ⟨?_⟩
         go_region
         all_goals (
          go_wp2_with fail
          go_ret
          exact ⟨by rw [HR9.out]; rfl, bThen HO.out.b bz_⟩)
     · obtain rfl : k = S.length := by omega
       have hnl : decide ((S.length : Int) < (pl.length : Int)) = false := by rw [hpe]; simp
       have hnl2 : decide (S.length < pl.length) = false := by rw [hpe]; simp
       clear hpe
       have HSO := h_ (show ∀ i (h : i < S.length), S[i].p = pl.getD i 0 ∧ sideMay true (runesI t) S[i] from fun i h => HG.out i h h)
       have HPAR := h_ (show 0 < me → ∀ x, S.head? = some x → x.j = true from fun h => absurd h (by simpa using _zp))
       go_wp2_with (refine r_ ?_)
       refine ⟨?_⟩
       go_region
       all_goals (
        go_wp2_with fail
        clear n0 n1 n2 n3 n4 n5 n6 n7 nz
        go_loopw [12] (fun i wr => ∃ k : Nat, k ≤ M.length ∧ i = .int .i64 k ∧ Hid (∀ i (h : i < M.length), i < k → markOk (runesI t) M[i]) ∧ Hid (OneAt w ⟨me, ep, up, true, t, sA, sc, S, uA, uc, U, mA, mc, M⟩ wr)) (fun i _ => M.length - (intOf i).toNat)
        case atStart => exact ⟨0, Nat.zero_le _, rfl, fun i hi h => absurd h (by omega), h_ (HO.out.later bz_)⟩
        case round =>
         obtain ⟨k, hk, rfl, HGM, HO4⟩ := hrel
         have hM2 := HM1.out
         obtain ⟨n0, n1, n2, n3, n4, n5, n6, n7, nz⟩ := d_ HO4.out.nd
         (try dsimp only at n0 n1 n2 n3 n4 n5 n6 n7)
         by_cases hlt : k < M.length
         · obtain ⟨mb, mo, rfl, hbs, hc⟩ := x_ markCells 2 bb_ (Sl.later HI.out.marks HO4.out.b) hlt
           have c0 : _root_.Go.World.cell? _ ⟨mb, mo + k * 2, none⟩ = some (.int .i64 M[k].1) := hc 0 _ rfl
           have c1 : _root_.Go.World.cell? _ ⟨mb, mo + k * 2 + 1, none⟩ = some (.int .i64 M[k].2) := hc 1 _ rfl
           have hkm3 : (k : Int) < (M.length : Int) := by omega
           clear hc
           by_cases hm : markOk (runesI t) M[k]
           · have HS2 := h_ (show ∀ W, Calls Tryz.prog 62 #[.string t, markV M[k]] W (R_ W (.bool true)) from fun W => (HMK.out W M[k]).mono fun r w' ⟨⟨b, e, q⟩, h⟩ => ⟨by rw [e]; cases b <;> simp_all, h⟩)
             have HGN := h_ (show ∀ i (h : i < M.length), i < k + 1 → markOk (runesI t) M[i] from fun i h hi => by
              rcases Nat.lt_or_ge i k with q | q
              · exact HGM.out i h q
              · obtain rfl : i = k := by omega
                exact hm)
             clear hm
             generalize M[k] = m at *
             obtain ⟨ma, mh⟩ := m
             dsimp only at c0 c1 HS2
             go_wp2_with (refine r_ ?_)
             refine ⟨?_⟩
             go_region_held3 (fun w' => w'.cell? ⟨w.heap.size, 4, none⟩ = some (.string t) ∧ w'.cell? ⟨w.heap.size, 7, none⟩ = some (.slice (some ⟨mb, mo, none⟩) M.length mc) ∧ w'.cell? ⟨mb, mo + k * 2, none⟩ = some (.int .i64 ma) ∧ w'.cell? ⟨mb, mo + k * 2 + 1, none⟩ = some (.int .i64 mh))
              (go_keep)
              ((go_at_call 62; refine (HS2.out _).mono ?_; rintro r w6 ⟨rfl, hb6⟩; obtain ⟨⟨d6, os6⟩, rfl⟩ := a_ hb6))
             all_goals (
              go_wp2_with fail
              go_roundw
              case rel => exact ⟨k + 1, by omega, by go_num, HGN, h_ (HO4.out.later bz_)⟩
              case measure => simp [intOf]; omega)
           · have HS2 := h_ (show ∀ W, Calls Tryz.prog 62 #[.string t, markV M[k]] W (R_ W (.bool false)) from fun W => (HMK.out W M[k]).mono fun r w' ⟨⟨b, e, q⟩, h⟩ => ⟨by rw [e]; cases b <;> simp_all, h⟩)
             have HR9 := h_ (H9.out fun q => hm (q.2.2.2 _ (List.getElem_mem hlt)))
             clear hm
             generalize M[k] = m at *
             obtain ⟨ma, mh⟩ := m
             dsimp only at c0 c1 HS2
             go_wp2_with (refine r_ ?_)
             refine ⟨?_⟩
             go_region_held3 (fun w' => w'.cell? ⟨w.heap.size, 4, none⟩ = some (.string t) ∧ w'.cell? ⟨w.heap.size, 7, none⟩ = some (.slice (some ⟨mb, mo, none⟩) M.length mc) ∧ w'.cell? ⟨mb, mo + k * 2, none⟩ = some (.int .i64 ma) ∧ w'.cell? ⟨mb, mo + k * 2 + 1, none⟩ = some (.int .i64 mh))
              (go_keep)
              ((go_at_call 62; refine (HS2.out _).mono ?_; rintro r w6 ⟨rfl, hb6⟩; obtain ⟨⟨d6, os6⟩, rfl⟩ := a_ hb6))
             all_goals (
              go_wp2_with fail
              go_ret
              exact ⟨by rw [HR9.out]; rfl, bThen HO4.out.b bz_⟩)
         · obtain rfl : k = M.length := by omega
           have HR0 := h_ (H0.out ⟨HUN.out, HSO.out, HPAR.out, fun m hm => by obtain ⟨i, hi, rfl⟩ := List.getElem_of_mem hm; exact HGM.out i hi hi⟩)
           go_wp2_with fail
           go_ret
           exact ⟨by rw [HR0.out]; rfl, HO4.out.b⟩))
theorem kz_ (w : World) (T : Option Addr) (N Nc : Nat) (n : NodeV) (HT : Hid (Tabs w)) (HI : Hid (n.In w)) (hN0 : 0 < N) (hN : N ≤ 7) (pl : List Int) (Hme : Hid (0 ≤ n.me ∧ n.me ≤ (N : Int) - 1)) (Hep : Hid (1 ≤ n.ep ∧ n.ep ≤ 1048575)) (Hup : Hid (0 ≤ n.up ∧ n.up ≤ 1048576)) (_z0 : (n.me == 0) = false) (_zp : decide (0 < n.me) = true) (hrd : n.rd = false) (_ht : n.t.toList = []) (hpl : pl.length = n.S.length) (hM : n.M.length ≤ 1) (hU : n.U.length ≤ 12) (HUM : Hid (n.U.length = 0 ∧ n.M.length = 0)) (hS : n.S.length ≤ 8) (hpp : 0 < n.S.length) (res : Int) (H9 : Hid (¬ (undoOk (runesI n.t) (n.U.map OpV.ps).reverse ∧ (∀ i (h : i < n.S.length), n.S[i].p = pl.getD i 0 ∧ sideMay n.rd (runesI n.t) n.S[i]) ∧ (0 < n.me → ∀ x, n.S.head? = some x → x.j = n.rd) ∧ ∀ m ∈ n.M, markOk (runesI n.t) m) → res = 9)) (H0 : Hid ((undoOk (runesI n.t) (n.U.map OpV.ps).reverse ∧ (∀ i (h : i < n.S.length), n.S[i].p = pl.getD i 0 ∧ sideMay n.rd (runesI n.t) n.S[i]) ∧ (0 < n.me → ∀ x, n.S.head? = some x → x.j = n.rd) ∧ ∀ m ∈ n.M, markOk (runesI n.t) m) → res = 0)) (HC : Hid (∀ W, Below w.heap.size w W → Calls Tryz.prog 54 #[.slice T N Nc] W fun e w' => e = .returned (.int .i64 0) ∧ W = w')) (HX : Hid (∀ W, Tabs W → Calls Tryz.prog 56 #[.string n.t] W (R_ W (.int .i64 0)))) (HL : Hid (∀ W, Below w.heap.size w W → Calls Tryz.prog 57 #[.slice T N Nc, .int .i64 n.me] W (RetInts W pl))) (HSD : Hid (∀ W x, Tabs W → x ∈ n.S → x.In W → Calls Tryz.prog 61 #[n.val, x.val] W fun r w' => (∃ b : Bool, r = .returned (.bool b) ∧ (b = true ↔ sideMay n.rd (runesI n.t) x)) ∧ Below W.heap.size W w')) (HRC : Hid (∀ W, Calls Tryz.prog 58 #[.string n.t] W (R_ W (.int .i64 (runesI n.t))))) (HMK : Hid (∀ W m, Calls Tryz.prog 62 #[.string n.t, markV m] W fun r w' => (∃ b : Bool, r = .returned (.bool b) ∧ (b = true ↔ markOk (runesI n.t) m)) ∧ Below W.heap.size W w')) (HLO : Hid (∀ W (q : OpV), q ∈ n.U → OpIn (· < W.heap.size) W q.A q.ps → Calls Tryz.prog 59 #[.slice q.A q.ps.length q.c] W (R_ W (.tuple #[.int .i64 (lens q.ps).1, .int .i64 (lens q.ps).2])))) (HOF : Hid (∀ W (q : OpV), Tabs W → q ∈ n.U → OpIn (· < W.heap.size) W q.A q.ps → Calls Tryz.prog 60 #[.slice q.A q.ps.length q.c] W (R_ W (.int .i64 (opFault q.ps))))) :
 Calls Tryz.prog 22 #[.slice T N Nc, n.val] w (R_ w (.int .i64 res)) := by
 have HPLL := h_ hpl
 have q1 : ((pl.length : Int) != (n.S.length : Int)) = false := by simp [hpl]
 have q2 : decide (1 < (n.M.length : Int)) = false := by simp; omega
 have q3 : decide (12 < (n.U.length : Int)) = false := by simp; omega
 have HM1 := h_ hM
 have _q4 : decide (0 < n.U.length) = false := by rw [HUM.out.1]; rfl
 have _q5 : decide (0 < n.M.length) = false := by rw [HUM.out.2]; rfl
 clear hpl hM
 obtain ⟨me, ep, up, rd, t, sA, sc, S, uA, uc, U, mA, mc, M⟩ := n
 dsimp only at *
 subst hrd
 have HA := h_ (OneAt.new w ⟨me, ep, up, false, t, sA, sc, S, uA, uc, U, mA, mc, M⟩)
 obtain ⟨WA, hWA⟩ : ∃ WA, WA = w.alloc (.cells #[.int .i64 me, .int .i64 ep, .int .i64 up, .bool false, .string t, .slice sA S.length sc, .slice uA U.length uc, .slice mA M.length mc] 28) := ⟨_, rfl⟩
 dsimp only at HA
 rw [← hWA] at HA
 have HW := h_ hWA.symm
 clear hWA
 go_enter Tryz.func22, Tryz.ntmps22
 go_wp2_with fail
 rw [HW.out]
 refine (HC.out _ HA.out.b).mono ?_
 rintro e w1 ⟨rfl, rfl⟩
 obtain ⟨n0, n1, n2, n3, n4, n5, n6, n7, nz⟩ := d_ HA.out.nd
 have hw1 : wrap64 ((N : Int) - 1) = (N : Int) - 1 := cd_ hN0 hN
 go_wp2_with fail
 refine (c_ me 0 ((N : Int) - 1) _ Hme.out.1 Hme.out.2).mono ?_
 rintro e wi ⟨rfl, rfl⟩
 go_wp2_with fail
 refine (c_ ep 1 1048575 _ Hep.out.1 Hep.out.2).mono ?_
 rintro e wi ⟨rfl, rfl⟩
 go_wp2_with fail
 refine (c_ up 0 1048576 _ Hup.out.1 Hup.out.2).mono ?_
 rintro e wi ⟨rfl, rfl⟩
 go_wp2_with fail
 refine (HX.out _ (HT.out.later HA.out.b)).mono ?_
 rintro e w2 ⟨rfl, hb2⟩
 have H2 := h_ (HA.out.later hb2)
 clear n0 n1 n2 n3 n4 n5 n6 n7 nz
 obtain ⟨n0, n1, n2, n3, n4, n5, n6, n7, nz⟩ := d_ H2.out.nd
 clear hb2
 go_wp2_with fail
 refine (HL.out _ H2.out.b).mono ?_
 rintro e w3 ⟨Aa, ca, rfl, hpl, hb3⟩
 have H3 := h_ (H2.out.later hb3)
 have HPL := h_ hpl
 clear n0 n1 n2 n3 n4 n5 n6 n7 nz
 obtain ⟨n0, n1, n2, n3, n4, n5, n6, n7, nz⟩ := d_ H3.out.nd
 clear hb3 hpl
 go_wp2_with fail
 have HWU := h_ (show wrap64 ((U.length : Int) - 1) = (U.length : Int) - 1 from rg_ hU)
 refine (HRC.out _).mono ?_
 rintro e w4 ⟨rfl, hb4⟩
 have H4 := h_ (H3.out.later hb4)
 have HAL := h_ (show Sl (· < w4.heap.size) w4 1 Aa pl.length (pl.map (Value.int .i64)) from Sl.later ((Sl.of_own _ HPL.out).moved fun _ hx => ⟨hx.2, rfl⟩) hb4)
 clear n0 n1 n2 n3 n4 n5 n6 n7 nz
 obtain ⟨n0, n1, n2, n3, n4, n5, n6, n7, nz⟩ := d_ H4.out.nd
 clear hb4 q1 q2 q3 hw1
 (try clear _ht _q4 _q5)
 have hwu := HWU.out
 go_wp2_with fail
 clear n0 n1 n2 n3 n4 n5 n6 n7 nz hwu
 all_goals (
  have HBL := h_ (show (U.map OpV.ps).reverse.length = U.length by simp)
  obtain ⟨BB, hBB⟩ : ∃ BB, BB = (U.map OpV.ps).reverse := ⟨_, rfl⟩
  rw [← hBB] at HBL
  have HBB := h_ hBB
  clear hBB
  go_loopw [7, 8] (fun av i wr => ∃ k : Nat, k ≤ U.length ∧ i = .int .i64 ((U.length : Int) - 1 - k) ∧ av = .int .i64 (atOf (runesI t) (BB.take k)) ∧ Hid (undoOk (runesI t) (BB.take k)) ∧ Hid (OneAt w ⟨me, ep, up, false, t, sA, sc, S, uA, uc, U, mA, mc, M⟩ wr) ∧ Hid (Sl (· < wr.heap.size) wr 1 Aa pl.length (pl.map (Value.int .i64)))) (fun _ i _ => (intOf i + 1).toNat)
  case atStart => exact ⟨0, Nat.zero_le _, by simp, rfl, trivial, H4, HAL⟩
  case round =>
   obtain ⟨k, hk, rfl, rfl, HUO, HO, HA2⟩ := hrel
   obtain ⟨n0, n1, n2, n3, n4, n5, n6, n7, nz⟩ := d_ HO.out.nd
   (try dsimp only at n0 n1 n2 n3 n4 n5 n6 n7)
   by_cases hlt : k < U.length
   · obtain ⟨m, hm⟩ : ∃ m : Nat, U.length - 1 - k = m := ⟨_, rfl⟩
     have hmi : (U.length : Int) - 1 - k = m := by omega
     have hml : m < U.length := by omega
     have hml2 : (m : Int) < (U.length : Int) := by omega
     rw [hmi]
     obtain ⟨ub, uo, hua, hbs, c0, hop⟩ := (HI.out.undo.later HO.out.b).at_ (k := m) hml
     (try dsimp only at hua c0 hop)
     rw [hua] at n6
     have HUA := h_ hua
     have HTK := h_ (show BB.take (k + 1) = BB.take k ++ [U[m].ps] by rw [HBB.out, mm_ hlt]; simp only [hm])
     have HKN := h_ hm
     have HKI := h_ hmi
     have HQM := h_ (List.getElem_mem hml)
     clear hm hmi hua
     generalize U[m] = q at *
     obtain ⟨qA, qc, qp⟩ := q
     (try dsimp only at c0 hop)
     have HLN := h_ (fun W hs => HLO.out W (⟨qA, qc, qp⟩ : OpV) HQM.out hs)
     have HCK := h_ (fun W hT hs => HOF.out W (⟨qA, qc, qp⟩ : OpV) hT HQM.out hs)
     have HSN := h_ (er_ (runesI t) (BB.take k) qp)
     have HAS := h_ (fv_ (runesI t) (BB.take k) qp)
     have HOP := h_ hop
     (try dsimp only at HTK HLN HCK)
     generalize atOf (runesI t) (BB.take k) = ag at *
     generalize lens qp = ln at *
     obtain ⟨l1, l2⟩ := ln
     (try dsimp only at HLN HSN HAS)
     clear hop
     go_wp2_with fail
     refine (HLN.out wr HOP.out).mono ?_
     rintro e w5 ⟨rfl, hb5⟩
     have HO5 := h_ (HO.out.later hb5)
     have HOP5 := h_ (Sl.later HOP.out hb5)
     have HA5 := h_ (Sl.later HA2.out hb5)
     have d0 := (hb5.cell (p := ⟨ub, uo + m, none⟩) hbs).trans c0
     have hbs5 : ub < w5.heap.size := Nat.lt_of_lt_of_le hbs hb5.size
     clear n0 n1 n2 n3 n4 n5 n6 n7 nz hb5 c0
     obtain ⟨n0, n1, n2, n3, n4, n5, n6, n7, nz⟩ := d_ HO5.out.nd
     (try dsimp only at n0 n1 n2 n3 n4 n5 n6 n7)
     rw [HUA.out] at n6
     go_wp2_with fail
     refine (HCK.out w5 (HT.out.later HO5.out.b) HOP5.out).mono ?_
     rintro e w6 ⟨rfl, hb6⟩
     have HO6 := h_ (HO5.out.later hb6)
     have HA6 := h_ (Sl.later HA5.out hb6)
     clear n0 n1 n2 n3 n4 n5 n6 n7 nz hb6 d0
     by_cases hf : opFault qp = 0
     · rw [hf]
       by_cases ha : l1 = ag
       · have HNW := h_ (show undoOk (runesI t) (BB.take (k + 1)) by rw [HTK.out]; exact HSN.out.2 ⟨HUO.out, hf, ha⟩)
         have ha2 : (l1 != ag) = false := by simpa using ha
         clear ha hf
         go_wp2_with fail
         go_roundw
         case rel => exact ⟨k + 1, by omega, by have := HKI.out; go_num, by rw [HTK.out, HAS.out], HNW, HO6, HA6⟩
         case measure => simp [intOf]
       · have HR9 := h_ (H9.out fun g => ha (HSN.out.1 (by
          have := cv_ (a := BB.take (k + 1)) (b := BB.drop (k + 1)) (by rw [List.take_append_drop, HBB.out]; exact g.1)
          rwa [HTK.out] at this)).2.2)
         have ha2 : (l1 != ag) = true := by simpa using ha
         clear ha hf
         go_wp2_with fail
         go_ret
         exact ⟨by rw [HR9.out]; rfl, HO6.out.b⟩
     · have HR9 := h_ (H9.out fun g => hf (HSN.out.1 (by
        have := cv_ (a := BB.take (k + 1)) (b := BB.drop (k + 1)) (by rw [List.take_append_drop, HBB.out]; exact g.1)
        rwa [HTK.out] at this)).2.1)
       have hf2 : (opFault qp != 0) = true := by simpa using hf
       generalize opFault qp = er at *
       clear hf
       go_wp2_with fail
       go_ret
       exact ⟨by rw [HR9.out]; rfl, HO6.out.b⟩
   · obtain rfl : k = U.length := by omega
     have HUN := h_ (show undoOk (runesI t) (U.map OpV.ps).reverse by rw [← HBB.out, ← List.take_length (l := BB), HBL.out]; exact HUO.out)
     rw [show ((U.length : Int) - 1 - U.length) = -1 by omega]
     clear HUO
     go_wp2_with fail
     clear n0 n1 n2 n3 n4 n5 n6 n7 nz
     go_loopw [11] (fun i wr => ∃ k : Nat, k ≤ S.length ∧ i = .int .i64 k ∧ Hid (∀ i (h : i < S.length), i < k → S[i].p = pl.getD i 0 ∧ sideMay false (runesI t) S[i]) ∧ Hid (OneAt w ⟨me, ep, up, false, t, sA, sc, S, uA, uc, U, mA, mc, M⟩ wr) ∧ Hid (Sl (· < wr.heap.size) wr 1 Aa pl.length (pl.map (Value.int .i64)))) (fun i _ => S.length - (intOf i).toNat)
     case atStart => exact ⟨0, Nat.zero_le _, rfl, fun i hi h => absurd h (by omega), HO, HA2⟩
     case round =>
     obtain ⟨k, hk, rfl, HG, HO, HA2⟩ := hrel
     obtain ⟨n0, n1, n2, n3, n4, n5, n6, n7, nz⟩ := d_ HO.out.nd
     (try dsimp only at n0 n1 n2 n3 n4 n5 n6 n7)
     have hpe := HPLL.out
     by_cases hlt : k < S.length
     · obtain ⟨b, o, rfl, hbs, hc⟩ := x_ SideV.cells 10 SideV.cells_len (Sl.later HI.out.sides.row HO.out.b) hlt
       have c0 : wr.cell? ⟨b, o + k * 10, none⟩ = some (.int .i64 S[k].p) := hc 0 _ rfl
       have c1 : wr.cell? ⟨b, o + k * 10 + 1, none⟩ = some (.bool S[k].j) := hc 1 _ rfl
       have c2 : wr.cell? ⟨b, o + k * 10 + 2, none⟩ = some (.int .i64 S[k].s) := hc 2 _ rfl
       have c3 : wr.cell? ⟨b, o + k * 10 + 3, none⟩ = some (.int .i64 S[k].h) := hc 3 _ rfl
       have c4 : wr.cell? ⟨b, o + k * 10 + 4, none⟩ = some (.slice S[k].A S[k].L.length S[k].c) := hc 4 _ rfl
       have c5 : wr.cell? ⟨b, o + k * 10 + 5, none⟩ = some (.int .i64 S[k].k.e) := hc 5 _ rfl
       have c6 : wr.cell? ⟨b, o + k * 10 + 6, none⟩ = some (.int .i64 S[k].k.n) := hc 6 _ rfl
       have c7 : wr.cell? ⟨b, o + k * 10 + 7, none⟩ = some (.slice S[k].k.sA S[k].k.s.length S[k].k.sc) := hc 7 _ rfl
       have c8 : wr.cell? ⟨b, o + k * 10 + 8, none⟩ = some (.slice S[k].k.qA S[k].k.q.length S[k].k.qc) := hc 8 _ rfl
       have c9 : wr.cell? ⟨b, o + k * 10 + 9, none⟩ = some (.int .i64 S[k].k.h) := hc 9 _ rfl
       obtain ⟨ab, ao, rfl, habs, hac⟩ := HA2.out.open_ (by omega)
       have a0 := hac k _ (ca_ pl k (by omega))
       have hkp : k < pl.length := by omega
       have hkp2 : (k : Int) < (pl.length : Int) := by omega
       have hkp3 : (k : Int) < (S.length : Int) := by omega
       clear hpe
       have HSK := h_ (fun (W : World) (hb : Below wr.heap.size wr W) => HSD.out W S[k] (HT.out.later (bThen HO.out.b hb)) (List.getElem_mem hlt) ((HI.out.sides.each _ (List.getElem_mem hlt)).later (bThen HO.out.b hb)))
       clear hc hac
       by_cases hp : S[k].p = pl.getD k 0
       · have hpk := hp
         have hne : (S[k].p != pl.getD k 0) = false := by simp [hp]
         by_cases hsm : sideMay false (runesI t) S[k]
         · have HS2 := h_ (show ∀ W, Below wr.heap.size wr W → Calls Tryz.prog 61 #[NodeV.val ⟨me, ep, up, false, t, some ⟨b, o, none⟩, sc, S, uA, uc, U, mA, mc, M⟩, S[k].val] W (R_ W (.bool true)) from fun W hb => (HSK.out W hb).mono fun r w' ⟨⟨b, e, q⟩, h⟩ => ⟨by rw [e]; cases b <;> simp_all, h⟩)
           have HGN := h_ (show ∀ i (h : i < S.length), i < k + 1 → S[i].p = pl.getD i 0 ∧ sideMay false (runesI t) S[i] from fun i h hi => by
            rcases Nat.lt_or_ge i k with q | q
            · exact HG.out i h q
            · obtain rfl : i = k := by omega
              exact ⟨hp, hsm⟩)
           clear hp hsm HSK
           generalize S[k] = x at *
           generalize pl.getD k 0 = pk at *
           obtain ⟨p, j, s, h, A, c, L, kk⟩ := x
           dsimp only [SideV.p] at hne
           subst hpk
           dsimp only at c0 c1 c2 c3 c4 c5 c6 c7 c8 c9 HS2
           go_wp2_with (refine r_ ?_)
           refine ⟨?_⟩
           go_region_held3 (fun w' => w'.cell? ⟨w.heap.size, 0, none⟩ = some (.int .i64 me) ∧ w'.cell? ⟨w.heap.size, 1, none⟩ = some (.int .i64 ep) ∧ w'.cell? ⟨w.heap.size, 2, none⟩ = some (.int .i64 up) ∧ w'.cell? ⟨w.heap.size, 3, none⟩ = some (.bool false) ∧ w'.cell? ⟨w.heap.size, 4, none⟩ = some (.string t) ∧ w'.cell? ⟨w.heap.size, 5, none⟩ = some (.slice (some ⟨b, o, none⟩) S.length sc) ∧ w'.cell? ⟨w.heap.size, 6, none⟩ = some (.slice uA U.length uc) ∧ w'.cell? ⟨w.heap.size, 7, none⟩ = some (.slice mA M.length mc) ∧ w'.cell? ⟨b, o + k * 10, none⟩ = some (.int .i64 p) ∧ w'.cell? ⟨b, o + k * 10 + 1, none⟩ = some (.bool j) ∧ w'.cell? ⟨b, o + k * 10 + 2, none⟩ = some (.int .i64 s) ∧ w'.cell? ⟨b, o + k * 10 + 3, none⟩ = some (.int .i64 h) ∧ w'.cell? ⟨b, o + k * 10 + 4, none⟩ = some (.slice A L.length c) ∧ w'.cell? ⟨b, o + k * 10 + 5, none⟩ = some (.int .i64 kk.e) ∧ w'.cell? ⟨b, o + k * 10 + 6, none⟩ = some (.int .i64 kk.n) ∧ w'.cell? ⟨b, o + k * 10 + 7, none⟩ = some (.slice kk.sA kk.s.length kk.sc) ∧ w'.cell? ⟨b, o + k * 10 + 8, none⟩ = some (.slice kk.qA kk.q.length kk.qc) ∧ w'.cell? ⟨b, o + k * 10 + 9, none⟩ = some (.int .i64 kk.h) ∧ w'.cell? ⟨ab, ao + k, none⟩ = some (.int .i64 p))
            (go_keep)
            ((go_at_call 61; refine (HS2.out _ bz_).mono ?_; rintro r w6 ⟨rfl, hb6⟩; obtain ⟨⟨d6, os6⟩, rfl⟩ := a_ hb6))
           all_goals (
            go_wp2_with fail
            go_roundw
            case rel => exact ⟨k + 1, by omega, by go_num, HGN, h_ (HO.out.later bz_), h_ (Sl.later HA2.out bz_)⟩
            case measure => simp [intOf]; omega)
         · have HS2 := h_ (show ∀ W, Below wr.heap.size wr W → Calls Tryz.prog 61 #[NodeV.val ⟨me, ep, up, false, t, some ⟨b, o, none⟩, sc, S, uA, uc, U, mA, mc, M⟩, S[k].val] W (R_ W (.bool false)) from fun W hb => (HSK.out W hb).mono fun r w' ⟨⟨b, e, q⟩, h⟩ => ⟨by rw [e]; cases b <;> simp_all, h⟩)
           have HR9 := h_ (H9.out fun q => hsm (q.2.1 k hlt).2)
           clear hp hsm HSK
           generalize S[k] = x at *
           generalize pl.getD k 0 = pk at *
           obtain ⟨p, j, s, h, A, c, L, kk⟩ := x
           dsimp only [SideV.p] at hne
           subst hpk
           dsimp only at c0 c1 c2 c3 c4 c5 c6 c7 c8 c9 HS2
           go_wp2_with (refine r_ ?_)
           refine ⟨?_⟩
           go_region_held3 (fun w' => w'.cell? ⟨w.heap.size, 0, none⟩ = some (.int .i64 me) ∧ w'.cell? ⟨w.heap.size, 1, none⟩ = some (.int .i64 ep) ∧ w'.cell? ⟨w.heap.size, 2, none⟩ = some (.int .i64 up) ∧ w'.cell? ⟨w.heap.size, 3, none⟩ = some (.bool false) ∧ w'.cell? ⟨w.heap.size, 4, none⟩ = some (.string t) ∧ w'.cell? ⟨w.heap.size, 5, none⟩ = some (.slice (some ⟨b, o, none⟩) S.length sc) ∧ w'.cell? ⟨w.heap.size, 6, none⟩ = some (.slice uA U.length uc) ∧ w'.cell? ⟨w.heap.size, 7, none⟩ = some (.slice mA M.length mc) ∧ w'.cell? ⟨b, o + k * 10, none⟩ = some (.int .i64 p) ∧ w'.cell? ⟨b, o + k * 10 + 1, none⟩ = some (.bool j) ∧ w'.cell? ⟨b, o + k * 10 + 2, none⟩ = some (.int .i64 s) ∧ w'.cell? ⟨b, o + k * 10 + 3, none⟩ = some (.int .i64 h) ∧ w'.cell? ⟨b, o + k * 10 + 4, none⟩ = some (.slice A L.length c) ∧ w'.cell? ⟨b, o + k * 10 + 5, none⟩ = some (.int .i64 kk.e) ∧ w'.cell? ⟨b, o + k * 10 + 6, none⟩ = some (.int .i64 kk.n) ∧ w'.cell? ⟨b, o + k * 10 + 7, none⟩ = some (.slice kk.sA kk.s.length kk.sc) ∧ w'.cell? ⟨b, o + k * 10 + 8, none⟩ = some (.slice kk.qA kk.q.length kk.qc) ∧ w'.cell? ⟨b, o + k * 10 + 9, none⟩ = some (.int .i64 kk.h) ∧ w'.cell? ⟨ab, ao + k, none⟩ = some (.int .i64 p))
            (go_keep)
            ((go_at_call 61; refine (HS2.out _ bz_).mono ?_; rintro r w6 ⟨rfl, hb6⟩; obtain ⟨⟨d6, os6⟩, rfl⟩ := a_ hb6))
           all_goals (
            go_wp2_with fail
            go_ret
            exact ⟨by rw [HR9.out]; rfl, bThen HO.out.b bz_⟩)
       · have hne : (S[k].p != pl.getD k 0) = true := by simpa using hp
         have HR9 := h_ (H9.out fun q => hp (q.2.1 k hlt).1)
         clear hp HSK
         generalize S[k] = x at *
         generalize pl.getD k 0 = pk at *
         obtain ⟨p, j, s, h, A, c, L, kk⟩ := x
         dsimp only [SideV.p] at hne
         dsimp only at c0 c1 c2 c3 c4 c5 c6 c7 c8 c9
         go_wp2_with (refine r_ ?_)
         refine ⟨?_⟩
         go_region
         all_goals (
          go_wp2_with fail
          go_ret
          exact ⟨by rw [HR9.out]; rfl, bThen HO.out.b bz_⟩)
     · obtain rfl : k = S.length := by omega
       have hnl : decide ((S.length : Int) < (pl.length : Int)) = false := by rw [hpe]; simp
       have hnl2 : decide (S.length < pl.length) = false := by rw [hpe]; simp
       clear hpe
       have HSO := h_ (show ∀ i (h : i < S.length), S[i].p = pl.getD i 0 ∧ sideMay false (runesI t) S[i] from fun i h => HG.out i h h)
       obtain ⟨b, o, rfl, hbs, hc⟩ := x_ SideV.cells 10 SideV.cells_len (Sl.later HI.out.sides.row HO.out.b) (k := 0) hpp
       have c1 : wr.cell? ⟨b, o + 1, none⟩ = some (.bool S[0].j) := by simpa using hc 1 _ rfl
       clear hc
       have HHD := h_ (show S.head? = some S[0] from List.head?_eq_getElem? ▸ List.getElem?_eq_getElem hpp)
       generalize S[0] = x at *
       obtain ⟨p, j, s, h, A, c, L, kk⟩ := x
       dsimp only at c1
       have hpp2 : (0 : Int) < (S.length : Int) := by omega
       by_cases hj : ¬ j = false
       · have hj2 : j = !false := by cases j <;> simp_all
         subst hj2
         have HR9 := h_ (H9.out fun q => by have := q.2.2.1 (by simpa using _zp) _ HHD.out; cases this)
         clear hj
         go_wp2_with (refine r_ ?_)
         refine ⟨?_⟩
         go_region
         all_goals (
          go_wp2_with fail
          go_ret
          exact ⟨by rw [HR9.out]; rfl, bThen HO.out.b bz_⟩)
       replace hj : j = false := Classical.not_not.1 hj
       subst hj
       have HPAR := h_ (show 0 < me → ∀ x, S.head? = some x → x.j = false from fun _ x hx => by rw [HHD.out] at hx; obtain rfl := Option.some.inj hx; rfl)
       go_wp2_with (refine r_ ?_)
       refine ⟨?_⟩
       go_region
       all_goals (
        go_wp2_with fail
        clear n0 n1 n2 n3 n4 n5 n6 n7 nz
        go_loopw [12] (fun i wr => ∃ k : Nat, k ≤ M.length ∧ i = .int .i64 k ∧ Hid (∀ i (h : i < M.length), i < k → markOk (runesI t) M[i]) ∧ Hid (OneAt w ⟨me, ep, up, false, t, some ⟨b, o, none⟩, sc, S, uA, uc, U, mA, mc, M⟩ wr)) (fun i _ => M.length - (intOf i).toNat)
        case atStart => exact ⟨0, Nat.zero_le _, rfl, fun i hi h => absurd h (by omega), h_ (HO.out.later bz_)⟩
        case round =>
         obtain ⟨k, hk, rfl, HGM, HO4⟩ := hrel
         have hM2 := HM1.out
         obtain ⟨n0, n1, n2, n3, n4, n5, n6, n7, nz⟩ := d_ HO4.out.nd
         (try dsimp only at n0 n1 n2 n3 n4 n5 n6 n7)
         by_cases hlt : k < M.length
         · obtain ⟨mb, mo, rfl, hbs, hc⟩ := x_ markCells 2 bb_ (Sl.later HI.out.marks HO4.out.b) hlt
           have c0 : _root_.Go.World.cell? _ ⟨mb, mo + k * 2, none⟩ = some (.int .i64 M[k].1) := hc 0 _ rfl
           have c1 : _root_.Go.World.cell? _ ⟨mb, mo + k * 2 + 1, none⟩ = some (.int .i64 M[k].2) := hc 1 _ rfl
           have hkm3 : (k : Int) < (M.length : Int) := by omega
           clear hc
           by_cases hm : markOk (runesI t) M[k]
           · have HS2 := h_ (show ∀ W, Calls Tryz.prog 62 #[.string t, markV M[k]] W (R_ W (.bool true)) from fun W => (HMK.out W M[k]).mono fun r w' ⟨⟨b, e, q⟩, h⟩ => ⟨by rw [e]; cases b <;> simp_all, h⟩)
             have HGN := h_ (show ∀ i (h : i < M.length), i < k + 1 → markOk (runesI t) M[i] from fun i h hi => by
              rcases Nat.lt_or_ge i k with q | q
              · exact HGM.out i h q
              · obtain rfl : i = k := by omega
                exact hm)
             clear hm
             generalize M[k] = m at *
             obtain ⟨ma, mh⟩ := m
             dsimp only at c0 c1 HS2
             go_wp2_with (refine r_ ?_)
             refine ⟨?_⟩
             go_region_held3 (fun w' => w'.cell? ⟨w.heap.size, 4, none⟩ = some (.string t) ∧ w'.cell? ⟨w.heap.size, 7, none⟩ = some (.slice (some ⟨mb, mo, none⟩) M.length mc) ∧ w'.cell? ⟨mb, mo + k * 2, none⟩ = some (.int .i64 ma) ∧ w'.cell? ⟨mb, mo + k * 2 + 1, none⟩ = some (.int .i64 mh))
              (go_keep)
              ((go_at_call 62; refine (HS2.out _).mono ?_; rintro r w6 ⟨rfl, hb6⟩; obtain ⟨⟨d6, os6⟩, rfl⟩ := a_ hb6))
             all_goals (
              go_wp2_with fail
              go_roundw
              case rel => exact ⟨k + 1, by omega, by go_num, HGN, h_ (HO4.out.later bz_)⟩
              case measure => simp [intOf]; omega)
           · have HS2 := h_ (show ∀ W, Calls Tryz.prog 62 #[.string t, markV M[k]] W (R_ W (.bool false)) from fun W => (HMK.out W M[k]).mono fun r w' ⟨⟨b, e, q⟩, h⟩ => ⟨by rw [e]; cases b <;> simp_all, h⟩)
             have HR9 := h_ (H9.out fun q => hm (q.2.2.2 _ (List.getElem_mem hlt)))
             clear hm
             generalize M[k] = m at *
             obtain ⟨ma, mh⟩ := m
             dsimp only at c0 c1 HS2
             go_wp2_with (refine r_ ?_)
             refine ⟨?_⟩
             go_region_held3 (fun w' => w'.cell? ⟨w.heap.size, 4, none⟩ = some (.string t) ∧ w'.cell? ⟨w.heap.size, 7, none⟩ = some (.slice (some ⟨mb, mo, none⟩) M.length mc) ∧ w'.cell? ⟨mb, mo + k * 2, none⟩ = some (.int .i64 ma) ∧ w'.cell? ⟨mb, mo + k * 2 + 1, none⟩ = some (.int .i64 mh))
              (go_keep)
              ((go_at_call 62; refine (HS2.out _).mono ?_; rintro r w6 ⟨rfl, hb6⟩; obtain ⟨⟨d6, os6⟩, rfl⟩ := a_ hb6))
             all_goals (
              go_wp2_with fail
              go_ret
              exact ⟨by rw [HR9.out]; rfl, bThen HO4.out.b bz_⟩)
         · obtain rfl : k = M.length := by omega
           have HR0 := h_ (H0.out ⟨HUN.out, HSO.out, HPAR.out, fun m hm => by obtain ⟨i, hi, rfl⟩ := List.getElem_of_mem hm; exact HGM.out i hi hi⟩)
           go_wp2_with fail
           go_ret
           exact ⟨by rw [HR0.out]; rfl, HO4.out.b⟩))
end Go.Proofs.YtacacoklddogmaaGreatDoor
