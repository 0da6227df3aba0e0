/- A part of the proof of NodeUndoes. -/
import Derived.Test.YtacacoklddogmaaGreatDoorKBI
namespace Go.Proofs.YtacacoklddogmaaGreatDoor
set_option maxHeartbeats 4000000
open Go.ChangeShapes Go.WideShapes Go.ChangeAt Go.RowKit
set_option maxRecDepth 100000
theorem kx_ (w : World) (T : Option Addr) (N Nc : Nat) (zs : List Int) (n : NodeV) (HT : Hid (Tabs w)) (HI : Hid (n.In w)) (_HZ : Hid (Sl (· < w.heap.size) w 1 T N (zs.map (Value.int .i64)))) (_hN : N ≤ 9223372036854775807) (pl : List Int) (t1 : decide (n.me < 0) = false) (t2 : decide ((N : Int) ≤ n.me) = false) (t3 : decide (n.ep < 1) = false) (t4 : decide (1048576 ≤ n.ep) = false) (t5 : decide (n.up < 0) = false) (t6 : decide (1048576 < n.up) = false) (_z0 : (n.me == 0) = false) (_zp : decide (0 < n.me) = true) (hrd : n.rd = true) (HWR : Hid (wrap64 ((n.U.length : Int) + (n.M.length : Int)) = ((n.U.length + n.M.length : Nat) : Int))) (hpl : pl.length = n.S.length) (hM : n.M.length ≤ 1) (hS : n.S.length ≤ 8) (hpp : 0 < n.S.length) (res : Int) (H9 : Hid (¬ ((∀ i (h : i < n.S.length), n.S[i].p = pl.getD i 0 ∧ sideMay n.rd (runesI n.t) n.S[i]) ∧ (0 < n.me → ∀ x, n.S.head? = some x → x.j = n.rd) ∧ ∀ m ∈ n.M, markOk (runesI n.t) m) → res = 9)) (H0 : Hid (((∀ i (h : i < n.S.length), n.S[i].p = pl.getD i 0 ∧ sideMay n.rd (runesI n.t) n.S[i]) ∧ (0 < n.me → ∀ x, n.S.head? = some x → x.j = n.rd) ∧ ∀ m ∈ n.M, markOk (runesI n.t) m) → res = 0)) (HC : Hid (∀ W, Below w.heap.size w W → Calls Tryz.prog 83 #[.slice T N Nc] W fun e w' => e = .returned (.int .i64 0) ∧ W = w')) (HX : Hid (∀ W, Tabs W → Calls Tryz.prog 84 #[.string n.t] W (R_ W (.int .i64 0)))) (HL : Hid (∀ W, Below w.heap.size w W → Calls Tryz.prog 85 #[.slice T N Nc, .int .i64 n.me] W (RetInts W pl))) (HU : Hid (∀ W, Below w.heap.size w W → Calls Tryz.prog 86 #[n.val] W (R_ W (.bool true)))) (HSD : Hid (∀ W x, Tabs W → x ∈ n.S → x.In W → Calls Tryz.prog 87 #[n.val, x.val] W fun r w' => (∃ b : Bool, r = .returned (.bool b) ∧ (b = true ↔ sideMay n.rd (runesI n.t) x)) ∧ Below W.heap.size W w')) (HRC : Hid (∀ W, Calls Tryz.prog 88 #[.string n.t] W (R_ W (.int .i64 (runesI n.t))))) :
 Calls Tryz.prog 43 #[.slice T N Nc, n.val] w (R_ w (.int .i64 res)) := by
 have HPLL := h_ hpl
 have q1 : ((pl.length : Int) != (n.S.length : Int)) = false := by simp [hpl]
 have q2 : decide (1 < (n.M.length : Int)) = false := by simp; omega
 have HM1 := h_ hM
 clear hpl hM
 obtain ⟨me, ep, up, rd, t, sA, sc, S, uA, uc, U, mA, mc, M⟩ := n
 dsimp only at *
 subst hrd
 have HA := h_ (OneAt.new w ⟨me, ep, up, true, t, sA, sc, S, uA, uc, U, mA, mc, M⟩)
 obtain ⟨WA, hWA⟩ : ∃ WA, WA = w.alloc (.cells #[.int .i64 me, .int .i64 ep, .int .i64 up, .bool true, .string t, .slice sA S.length sc, .slice uA U.length uc, .slice mA M.length mc] 28) := ⟨_, rfl⟩
 dsimp only at HA
 rw [← hWA] at HA
 have HW := h_ hWA.symm
 clear hWA
 go_enter Tryz.func43, Tryz.ntmps43
 go_wp2_with fail
 rw [HW.out]
 refine (HC.out _ HA.out.b).mono ?_
 rintro e w1 ⟨rfl, rfl⟩
 obtain ⟨n0, n1, n2, n3, n4, n5, n6, n7, nz⟩ := d_ HA.out.nd
 go_wp2_with fail
 refine (HX.out _ (HT.out.later HA.out.b)).mono ?_
 rintro e w2 ⟨rfl, hb2⟩
 have H2 := h_ (HA.out.later hb2)
 clear n0 n1 n2 n3 n4 n5 n6 n7 nz
 obtain ⟨n0, n1, n2, n3, n4, n5, n6, n7, nz⟩ := d_ H2.out.nd
 clear hb2
 go_wp2_with fail
 refine (HL.out _ H2.out.b).mono ?_
 rintro e w3 ⟨Aa, ca, rfl, hpl, hb3⟩
 have H3 := h_ (H2.out.later hb3)
 have HPL := h_ hpl
 clear n0 n1 n2 n3 n4 n5 n6 n7 nz
 obtain ⟨n0, n1, n2, n3, n4, n5, n6, n7, nz⟩ := d_ H3.out.nd
 clear hb3 hpl
 go_wp2_with fail
 refine (HU.out _ H3.out.b).mono ?_
 rintro e w4 ⟨rfl, hb4⟩
 have H4 := h_ (H3.out.later hb4)
 have HPM := h_ hb4
 clear n0 n1 n2 n3 n4 n5 n6 n7 nz
 obtain ⟨n0, n1, n2, n3, n4, n5, n6, n7, nz⟩ := d_ H4.out.nd
 clear hb4
 have hw := HWR.out
 have HAL := h_ (show Sl (· < w4.heap.size) w4 1 Aa pl.length (pl.map (Value.int .i64)) from Sl.later ((Sl.of_own _ HPL.out).moved fun _ hx => ⟨hx.2, rfl⟩) HPM.out)
 go_wp2_with fail
 all_goals (
  (try clear _ht _q3 _q4 _q5)
  clear n0 n1 n2 n3 n4 n5 n6 n7 nz hw q1 q2 t1 t2 t3 t4 t5 t6
  go_loopw [112] (fun i wr => ∃ k : Nat, k ≤ S.length ∧ i = .int .i64 k ∧ Hid (∀ i (h : i < S.length), i < k → S[i].p = pl.getD i 0 ∧ sideMay true (runesI t) S[i]) ∧ Hid (OneAt w ⟨me, ep, up, true, t, sA, sc, S, uA, uc, U, mA, mc, M⟩ wr) ∧ Hid (Sl (· < wr.heap.size) wr 1 Aa pl.length (pl.map (Value.int .i64)))) (fun i _ => S.length - (intOf i).toNat)
  case atStart => exact ⟨0, Nat.zero_le _, rfl, fun i hi h => absurd h (by omega), H4, HAL⟩
  case round =>
   obtain ⟨k, hk, rfl, HG, HO, HA2⟩ := hrel
   obtain ⟨n0, n1, n2, n3, n4, n5, n6, n7, nz⟩ := d_ HO.out.nd
   (try dsimp only at n0 n1 n2 n3 n4 n5 n6 n7)
   by_cases hlt : k < S.length
   · obtain ⟨b, o, rfl, hbs, hc⟩ := x_ SideV.cells 10 SideV.cells_len (Sl.later HI.out.sides.row HO.out.b) hlt
     have c0 : wr.cell? ⟨b, o + k * 10, none⟩ = some (.int .i64 S[k].p) := hc 0 _ rfl
     have c1 : wr.cell? ⟨b, o + k * 10 + 1, none⟩ = some (.bool S[k].j) := hc 1 _ rfl
     have c2 : wr.cell? ⟨b, o + k * 10 + 2, none⟩ = some (.int .i64 S[k].s) := hc 2 _ rfl
     have c3 : wr.cell? ⟨b, o + k * 10 + 3, none⟩ = some (.int .i64 S[k].h) := hc 3 _ rfl
     have c4 : wr.cell? ⟨b, o + k * 10 + 4, none⟩ = some (.slice S[k].A S[k].L.length S[k].c) := hc 4 _ rfl
     have c5 : wr.cell? ⟨b, o + k * 10 + 5, none⟩ = some (.int .i64 S[k].k.e) := hc 5 _ rfl
     have c6 : wr.cell? ⟨b, o + k * 10 + 6, none⟩ = some (.int .i64 S[k].k.n) := hc 6 _ rfl
     have c7 : wr.cell? ⟨b, o + k * 10 + 7, none⟩ = some (.slice S[k].k.sA S[k].k.s.length S[k].k.sc) := hc 7 _ rfl
     have c8 : wr.cell? ⟨b, o + k * 10 + 8, none⟩ = some (.slice S[k].k.qA S[k].k.q.length S[k].k.qc) := hc 8 _ rfl
     have c9 : wr.cell? ⟨b, o + k * 10 + 9, none⟩ = some (.int .i64 S[k].k.h) := hc 9 _ rfl
     obtain ⟨ab, ao, rfl, habs, hac⟩ := HA2.out.open_ (by have := HPLL.out; omega)
     have a0 := hac k _ (ca_ pl k (by have := HPLL.out; omega))
     have hkp : k < pl.length := by have := HPLL.out; omega
     have hkp2 : (k : Int) < (pl.length : Int) := by omega
     have HSK := h_ (fun (W : World) (hb : Below wr.heap.size wr W) => HSD.out W S[k] (HT.out.later (bThen HO.out.b hb)) (List.getElem_mem hlt) ((HI.out.sides.each _ (List.getElem_mem hlt)).later (bThen HO.out.b hb)))
     clear hc hac
     by_cases hp : S[k].p = pl.getD k 0
     · have hpk := hp
       have hne : (S[k].p != pl.getD k 0) = false := by simp [hp]
       by_cases hsm : sideMay true (runesI t) S[k]
       · have HS2 := h_ (show ∀ W, Below wr.heap.size wr W → Calls Tryz.prog 87 #[NodeV.val ⟨me, ep, up, true, t, some ⟨b, o, none⟩, sc, S, uA, uc, U, mA, mc, M⟩, S[k].val] W (R_ W (.bool true)) from fun W hb => (HSK.out W hb).mono fun r w' ⟨⟨b, e, q⟩, h⟩ => ⟨by rw [e]; cases b <;> simp_all, h⟩)
         have HGN := h_ (show ∀ i (h : i < S.length), i < k + 1 → S[i].p = pl.getD i 0 ∧ sideMay true (runesI t) S[i] from fun i h hi => by
          rcases Nat.lt_or_ge i k with q | q
          · exact HG.out i h q
          · obtain rfl : i = k := by omega
            exact ⟨hp, hsm⟩)
         clear hp hsm HSK
         generalize S[k] = x at *
         generalize pl.getD k 0 = pk at *
         obtain ⟨p, j, s, h, A, c, L, kk⟩ := x
         dsimp only [SideV.p] at hne
         subst hpk
         dsimp only at c0 c1 c2 c3 c4 c5 c6 c7 c8 c9 HS2
         go_wp2_with (refine r_ ?_)
         refine ⟨?_⟩
         go_region_held3 (fun w' => w'.cell? ⟨w.heap.size, 0, none⟩ = some (.int .i64 me) ∧ w'.cell? ⟨w.heap.size, 1, none⟩ = some (.int .i64 ep) ∧ w'.cell? ⟨w.heap.size, 2, none⟩ = some (.int .i64 up) ∧ w'.cell? ⟨w.heap.size, 3, none⟩ = some (.bool true) ∧ w'.cell? ⟨w.heap.size, 4, none⟩ = some (.string t) ∧ w'.cell? ⟨w.heap.size, 5, none⟩ = some (.slice (some ⟨b, o, none⟩) S.length sc) ∧ w'.cell? ⟨w.heap.size, 6, none⟩ = some (.slice uA U.length uc) ∧ w'.cell? ⟨w.heap.size, 7, none⟩ = some (.slice mA M.length mc) ∧ w'.cell? ⟨wr.heap.size, 0, none⟩ = some (.int .i64 p) ∧ w'.cell? ⟨wr.heap.size, 1, none⟩ = some (.bool j) ∧ w'.cell? ⟨wr.heap.size, 2, none⟩ = some (.int .i64 s) ∧ w'.cell? ⟨wr.heap.size, 3, none⟩ = some (.int .i64 h) ∧ w'.cell? ⟨wr.heap.size, 4, none⟩ = some (.slice A L.length c) ∧ w'.cell? ⟨wr.heap.size, 5, none⟩ = some (.int .i64 kk.e) ∧ w'.cell? ⟨wr.heap.size, 6, none⟩ = some (.int .i64 kk.n) ∧ w'.cell? ⟨wr.heap.size, 7, none⟩ = some (.slice kk.sA kk.s.length kk.sc) ∧ w'.cell? ⟨wr.heap.size, 8, none⟩ = some (.slice kk.qA kk.q.length kk.qc) ∧ w'.cell? ⟨wr.heap.size, 9, none⟩ = some (.int .i64 kk.h) ∧ w'.cell? ⟨ab, ao + k, none⟩ = some (.int .i64 p))
          (go_keep)
          ((go_at_call 87; refine (HS2.out _ bz_).mono ?_; rintro r w6 ⟨rfl, hb6⟩; obtain ⟨⟨d6, os6⟩, rfl⟩ := a_ hb6))
         all_goals (
          go_wp2_with fail
          go_roundw
          case rel => exact ⟨k + 1, by omega, by go_num, HGN, h_ (HO.out.later bz_), h_ (Sl.later HA2.out bz_)⟩
          case measure => simp [intOf]; omega)
       · have HS2 := h_ (show ∀ W, Below wr.heap.size wr W → Calls Tryz.prog 87 #[NodeV.val ⟨me, ep, up, true, t, some ⟨b, o, none⟩, sc, S, uA, uc, U, mA, mc, M⟩, S[k].val] W (R_ W (.bool false)) from fun W hb => (HSK.out W hb).mono fun r w' ⟨⟨b, e, q⟩, h⟩ => ⟨by rw [e]; cases b <;> simp_all, h⟩)
         have HR9 := h_ (H9.out fun q => hsm (q.1 k hlt).2)
         clear hp hsm HSK
         generalize S[k] = x at *
         generalize pl.getD k 0 = pk at *
         obtain ⟨p, j, s, h, A, c, L, kk⟩ := x
         dsimp only [SideV.p] at hne
         subst hpk
         dsimp only at c0 c1 c2 c3 c4 c5 c6 c7 c8 c9 HS2
         go_wp2_with (refine r_ ?_)
         refine ⟨?_⟩
         go_region_held3 (fun w' => w'.cell? ⟨w.heap.size, 0, none⟩ = some (.int .i64 me) ∧ w'.cell? ⟨w.heap.size, 1, none⟩ = some (.int .i64 ep) ∧ w'.cell? ⟨w.heap.size, 2, none⟩ = some (.int .i64 up) ∧ w'.cell? ⟨w.heap.size, 3, none⟩ = some (.bool true) ∧ w'.cell? ⟨w.heap.size, 4, none⟩ = some (.string t) ∧ w'.cell? ⟨w.heap.size, 5, none⟩ = some (.slice (some ⟨b, o, none⟩) S.length sc) ∧ w'.cell? ⟨w.heap.size, 6, none⟩ = some (.slice uA U.length uc) ∧ w'.cell? ⟨w.heap.size, 7, none⟩ = some (.slice mA M.length mc) ∧ w'.cell? ⟨wr.heap.size, 0, none⟩ = some (.int .i64 p) ∧ w'.cell? ⟨wr.heap.size, 1, none⟩ = some (.bool j) ∧ w'.cell? ⟨wr.heap.size, 2, none⟩ = some (.int .i64 s) ∧ w'.cell? ⟨wr.heap.size, 3, none⟩ = some (.int .i64 h) ∧ w'.cell? ⟨wr.heap.size, 4, none⟩ = some (.slice A L.length c) ∧ w'.cell? ⟨wr.heap.size, 5, none⟩ = some (.int .i64 kk.e) ∧ w'.cell? ⟨wr.heap.size, 6, none⟩ = some (.int .i64 kk.n) ∧ w'.cell? ⟨wr.heap.size, 7, none⟩ = some (.slice kk.sA kk.s.length kk.sc) ∧ w'.cell? ⟨wr.heap.size, 8, none⟩ = some (.slice kk.qA kk.q.length kk.qc) ∧ w'.cell? ⟨wr.heap.size, 9, none⟩ = some (.int .i64 kk.h) ∧ w'.cell? ⟨ab, ao + k, none⟩ = some (.int .i64 p))
          (go_keep)
          ((go_at_call 87; refine (HS2.out _ bz_).mono ?_; rintro r w6 ⟨rfl, hb6⟩; obtain ⟨⟨d6, os6⟩, rfl⟩ := a_ hb6))
         all_goals (
          go_wp2_with fail
          go_ret
          exact ⟨by rw [HR9.out]; rfl, bThen HO.out.b bz_⟩)
     · have hne : (S[k].p != pl.getD k 0) = true := by simpa using hp
       have HR9 := h_ (H9.out fun q => hp (q.1 k hlt).1)
       clear hp HSK
       generalize S[k] = x at *
       generalize pl.getD k 0 = pk at *
       obtain ⟨p, j, s, h, A, c, L, kk⟩ := x
       dsimp only [SideV.p] at hne
       dsimp only at c0 c1 c2 c3 c4 c5 c6 c7 c8 c9
       go_wp2_with (refine r_ ?_)
       refine ⟨?_⟩
       go_region
       all_goals (
        go_wp2_with fail
        go_ret
        exact ⟨by rw [HR9.out]; rfl, bThen HO.out.b bz_⟩)
   · obtain rfl : k = S.length := by omega
     obtain ⟨b, o, rfl, hbs, hc⟩ := x_ SideV.cells 10 SideV.cells_len (Sl.later HI.out.sides.row HO.out.b) (k := 0) hpp
     have c1 : wr.cell? ⟨b, o + 1, none⟩ = some (.bool S[0].j) := by simpa using hc 1 _ rfl
     clear hc
     have HHD := h_ (show S.head? = some S[0] from List.head?_eq_getElem? ▸ List.getElem?_eq_getElem hpp)
     generalize S[0] = x at *
     obtain ⟨p, j, s, h, A, c, L, kk⟩ := x
     dsimp only at c1
     have hpp2 : (0 : Int) < (S.length : Int) := by omega
     by_cases hj : ¬ j = true
     · have hj2 : j = !true := by cases j <;> simp_all
       subst hj2
       have HR9 := h_ (H9.out fun q => by have := q.2.1 (by simpa using _zp) _ HHD.out; cases this)
       clear hj
       go_wp2_with (refine r_ ?_)
       refine ⟨?_⟩
       go_region
       all_goals (
        go_wp2_with fail
        go_ret
        exact ⟨by rw [HR9.out]; rfl, bThen HO.out.b bz_⟩)
     replace hj : j = true := Classical.not_not.1 hj
     subst hj
     have HPAR := h_ (show 0 < me → ∀ x, S.head? = some x → x.j = true from fun _ x hx => by rw [HHD.out] at hx; obtain rfl := Option.some.inj hx; rfl)
     have HSO := h_ (show ∀ i (h : i < S.length), S[i].p = pl.getD i 0 ∧ sideMay true (runesI t) S[i] from fun i h => HG.out i h h)
     go_wp2_with (refine r_ ?_)
     refine ⟨?_⟩
     go_region
     all_goals (
      go_wp2_with fail
      clear n0 n1 n2 n3 n4 n5 n6 n7 nz
      go_loopw [147] (fun i wr => ∃ k : Nat, k ≤ M.length ∧ i = .int .i64 k ∧ Hid (∀ i (h : i < M.length), i < k → markOk (runesI t) M[i]) ∧ Hid (OneAt w ⟨me, ep, up, true, t, some ⟨b, o, none⟩, sc, S, uA, uc, U, mA, mc, M⟩ wr)) (fun i _ => M.length - (intOf i).toNat)
      case atStart => exact ⟨0, Nat.zero_le _, rfl, fun i hi h => absurd h (by omega), h_ (HO.out.later bz_)⟩
      case round =>
       obtain ⟨k, hk, rfl, HGM, HO4⟩ := hrel
       have hM2 := HM1.out
       obtain ⟨n0, n1, n2, n3, n4, n5, n6, n7, nz⟩ := d_ HO4.out.nd
       (try dsimp only at n0 n1 n2 n3 n4 n5 n6 n7)
       by_cases hlt : k < M.length
       · obtain ⟨mb, mo, rfl, hbs, hc⟩ := x_ markCells 2 bb_ (Sl.later HI.out.marks HO4.out.b) hlt
         have c0 : _root_.Go.World.cell? _ ⟨mb, mo + k * 2, none⟩ = some (.int .i64 M[k].1) := hc 0 _ rfl
         have c1 : _root_.Go.World.cell? _ ⟨mb, mo + k * 2 + 1, none⟩ = some (.int .i64 M[k].2) := hc 1 _ rfl
         clear hc
         by_cases hm : markOk (runesI t) M[k]
         · have HGN := h_ (show ∀ i (h : i < M.length), i < k + 1 → markOk (runesI t) M[i] from fun i h hi => by
            rcases Nat.lt_or_ge i k with q | q
            · exact HGM.out i h q
            · obtain rfl : i = k := by omega
              exact hm)
           generalize M[k] = m at *
           obtain ⟨ma, mh⟩ := m
           obtain ⟨⟨m1, m2⟩, m3, m4⟩ := hm
           dsimp only at c0 c1 m1 m2 m3 m4
           have d1 : decide (ma < 0) = false := by simpa using m1
           have d2 : decide (runesI t < ma) = false := by simpa using m2
           have d3 : decide (mh < 0) = false := by simpa using m3
           have d4 : decide (runesI t < mh) = false := by simpa using m4
           clear m1 m2 m3 m4
           go_wp2_with fail
           refine (HRC.out _).mono ?_
           rintro e w6 ⟨rfl, hb6⟩
           obtain ⟨⟨d6, os6⟩, rfl⟩ := a_ hb6
           go_wp2_with fail
           go_roundw
           case rel => exact ⟨k + 1, by omega, by go_num, HGN, h_ (HO4.out.later bz_)⟩
           case measure => have := HM1.out; simp [intOf]; omega
         · have HR9 := h_ (H9.out fun q => hm (q.2.2 _ (List.getElem_mem hlt)))
           have HNM := h_ hm
           clear hm
           unfold markOk at HNM
           generalize M[k] = m at *
           obtain ⟨ma, mh⟩ := m
           dsimp only at c0 c1 HNM
           go_wp2_with fail
           refine (HRC.out _).mono ?_
           rintro e w6 ⟨rfl, hb6⟩
           obtain ⟨⟨d6, os6⟩, rfl⟩ := a_ hb6
           go_wp2_with fail
           all_goals (first
            | (go_ret; exact ⟨by rw [HR9.out]; rfl, bThen HO4.out.b bz_⟩)
            | (exfalso; have := HNM.out; omega))
       · obtain rfl : k = M.length := by omega
         have HR0 := h_ (H0.out ⟨HSO.out, HPAR.out, fun m hm => by obtain ⟨i, hi, rfl⟩ := List.getElem_of_mem hm; exact HGM.out i hi hi⟩)
         go_wp2_with fail
         go_ret
         exact ⟨by rw [HR0.out]; rfl, HO4.out.b⟩))
theorem ky_ (w : World) (T : Option Addr) (N Nc : Nat) (zs : List Int) (n : NodeV) (HT : Hid (Tabs w)) (HI : Hid (n.In w)) (_HZ : Hid (Sl (· < w.heap.size) w 1 T N (zs.map (Value.int .i64)))) (_hN : N ≤ 9223372036854775807) (pl : List Int) (t1 : decide (n.me < 0) = false) (t2 : decide ((N : Int) ≤ n.me) = false) (t3 : decide (n.ep < 1) = false) (t4 : decide (1048576 ≤ n.ep) = false) (t5 : decide (n.up < 0) = false) (t6 : decide (1048576 < n.up) = false) (_z0 : (n.me == 0) = true) (_zp : decide (0 < n.me) = false) (_u0 : decide (0 < n.up) = false) (hrd : n.rd = true) (HWR : Hid (wrap64 ((n.U.length : Int) + (n.M.length : Int)) = ((n.U.length + n.M.length : Nat) : Int))) (hpl : pl.length = n.S.length) (hM : n.M.length ≤ 1) (hS : n.S.length ≤ 8) (res : Int) (H9 : Hid (¬ ((∀ i (h : i < n.S.length), n.S[i].p = pl.getD i 0 ∧ sideMay n.rd (runesI n.t) n.S[i]) ∧ (0 < n.me → ∀ x, n.S.head? = some x → x.j = n.rd) ∧ ∀ m ∈ n.M, markOk (runesI n.t) m) → res = 9)) (H0 : Hid (((∀ i (h : i < n.S.length), n.S[i].p = pl.getD i 0 ∧ sideMay n.rd (runesI n.t) n.S[i]) ∧ (0 < n.me → ∀ x, n.S.head? = some x → x.j = n.rd) ∧ ∀ m ∈ n.M, markOk (runesI n.t) m) → res = 0)) (HC : Hid (∀ W, Below w.heap.size w W → Calls Tryz.prog 83 #[.slice T N Nc] W fun e w' => e = .returned (.int .i64 0) ∧ W = w')) (HX : Hid (∀ W, Tabs W → Calls Tryz.prog 84 #[.string n.t] W (R_ W (.int .i64 0)))) (HL : Hid (∀ W, Below w.heap.size w W → Calls Tryz.prog 85 #[.slice T N Nc, .int .i64 n.me] W (RetInts W pl))) (HU : Hid (∀ W, Below w.heap.size w W → Calls Tryz.prog 86 #[n.val] W (R_ W (.bool true)))) (HSD : Hid (∀ W x, Tabs W → x ∈ n.S → x.In W → Calls Tryz.prog 87 #[n.val, x.val] W fun r w' => (∃ b : Bool, r = .returned (.bool b) ∧ (b = true ↔ sideMay n.rd (runesI n.t) x)) ∧ Below W.heap.size W w')) (HRC : Hid (∀ W, Calls Tryz.prog 88 #[.string n.t] W (R_ W (.int .i64 (runesI n.t))))) :
 Calls Tryz.prog 43 #[.slice T N Nc, n.val] w (R_ w (.int .i64 res)) := by
 have HPLL := h_ hpl
 have q1 : ((pl.length : Int) != (n.S.length : Int)) = false := by simp [hpl]
 have q2 : decide (1 < (n.M.length : Int)) = false := by simp; omega
 have HM1 := h_ hM
 clear hpl hM
 obtain ⟨me, ep, up, rd, t, sA, sc, S, uA, uc, U, mA, mc, M⟩ := n
 dsimp only at *
 subst hrd
 have HA := h_ (OneAt.new w ⟨me, ep, up, true, t, sA, sc, S, uA, uc, U, mA, mc, M⟩)
 obtain ⟨WA, hWA⟩ : ∃ WA, WA = w.alloc (.cells #[.int .i64 me, .int .i64 ep, .int .i64 up, .bool true, .string t, .slice sA S.length sc, .slice uA U.length uc, .slice mA M.length mc] 28) := ⟨_, rfl⟩
 dsimp only at HA
 rw [← hWA] at HA
 have HW := h_ hWA.symm
 clear hWA
 go_enter Tryz.func43, Tryz.ntmps43
 go_wp2_with fail
 rw [HW.out]
 refine (HC.out _ HA.out.b).mono ?_
 rintro e w1 ⟨rfl, rfl⟩
 obtain ⟨n0, n1, n2, n3, n4, n5, n6, n7, nz⟩ := d_ HA.out.nd
 go_wp2_with fail
 refine (HX.out _ (HT.out.later HA.out.b)).mono ?_
 rintro e w2 ⟨rfl, hb2⟩
 have H2 := h_ (HA.out.later hb2)
 clear n0 n1 n2 n3 n4 n5 n6 n7 nz
 obtain ⟨n0, n1, n2, n3, n4, n5, n6, n7, nz⟩ := d_ H2.out.nd
 clear hb2
 go_wp2_with fail
 refine (HL.out _ H2.out.b).mono ?_
 rintro e w3 ⟨Aa, ca, rfl, hpl, hb3⟩
 have H3 := h_ (H2.out.later hb3)
 have HPL := h_ hpl
 clear n0 n1 n2 n3 n4 n5 n6 n7 nz
 obtain ⟨n0, n1, n2, n3, n4, n5, n6, n7, nz⟩ := d_ H3.out.nd
 clear hb3 hpl
 go_wp2_with fail
 refine (HU.out _ H3.out.b).mono ?_
 rintro e w4 ⟨rfl, hb4⟩
 have H4 := h_ (H3.out.later hb4)
 have HPM := h_ hb4
 clear n0 n1 n2 n3 n4 n5 n6 n7 nz
 obtain ⟨n0, n1, n2, n3, n4, n5, n6, n7, nz⟩ := d_ H4.out.nd
 clear hb4
 have hw := HWR.out
 have HAL := h_ (show Sl (· < w4.heap.size) w4 1 Aa pl.length (pl.map (Value.int .i64)) from Sl.later ((Sl.of_own _ HPL.out).moved fun _ hx => ⟨hx.2, rfl⟩) HPM.out)
 go_wp2_with fail
 all_goals (
  (try clear _ht _q3 _q4 _q5)
  clear n0 n1 n2 n3 n4 n5 n6 n7 nz hw q1 q2 t1 t2 t3 t4 t5 t6
  go_loopw [112] (fun i wr => ∃ k : Nat, k ≤ S.length ∧ i = .int .i64 k ∧ Hid (∀ i (h : i < S.length), i < k → S[i].p = pl.getD i 0 ∧ sideMay true (runesI t) S[i]) ∧ Hid (OneAt w ⟨me, ep, up, true, t, sA, sc, S, uA, uc, U, mA, mc, M⟩ wr) ∧ Hid (Sl (· < wr.heap.size) wr 1 Aa pl.length (pl.map (Value.int .i64)))) (fun i _ => S.length - (intOf i).toNat)
  case atStart => exact ⟨0, Nat.zero_le _, rfl, fun i hi h => absurd h (by omega), H4, HAL⟩
  case round =>
   obtain ⟨k, hk, rfl, HG, HO, HA2⟩ := hrel
   obtain ⟨n0, n1, n2, n3, n4, n5, n6, n7, nz⟩ := d_ HO.out.nd
   (try dsimp only at n0 n1 n2 n3 n4 n5 n6 n7)
   by_cases hlt : k < S.length
   · obtain ⟨b, o, rfl, hbs, hc⟩ := x_ SideV.cells 10 SideV.cells_len (Sl.later HI.out.sides.row HO.out.b) hlt
     have c0 : wr.cell? ⟨b, o + k * 10, none⟩ = some (.int .i64 S[k].p) := hc 0 _ rfl
     have c1 : wr.cell? ⟨b, o + k * 10 + 1, none⟩ = some (.bool S[k].j) := hc 1 _ rfl
     have c2 : wr.cell? ⟨b, o + k * 10 + 2, none⟩ = some (.int .i64 S[k].s) := hc 2 _ rfl
     have c3 : wr.cell? ⟨b, o + k * 10 + 3, none⟩ = some (.int .i64 S[k].h) := hc 3 _ rfl
     have c4 : wr.cell? ⟨b, o + k * 10 + 4, none⟩ = some (.slice S[k].A S[k].L.length S[k].c) := hc 4 _ rfl
     have c5 : wr.cell? ⟨b, o + k * 10 + 5, none⟩ = some (.int .i64 S[k].k.e) := hc 5 _ rfl
     have c6 : wr.cell? ⟨b, o + k * 10 + 6, none⟩ = some (.int .i64 S[k].k.n) := hc 6 _ rfl
     have c7 : wr.cell? ⟨b, o + k * 10 + 7, none⟩ = some (.slice S[k].k.sA S[k].k.s.length S[k].k.sc) := hc 7 _ rfl
     have c8 : wr.cell? ⟨b, o + k * 10 + 8, none⟩ = some (.slice S[k].k.qA S[k].k.q.length S[k].k.qc) := hc 8 _ rfl
     have c9 : wr.cell? ⟨b, o + k * 10 + 9, none⟩ = some (.int .i64 S[k].k.h) := hc 9 _ rfl
     obtain ⟨ab, ao, rfl, habs, hac⟩ := HA2.out.open_ (by have := HPLL.out; omega)
     have a0 := hac k _ (ca_ pl k (by have := HPLL.out; omega))
     have hkp : k < pl.length := by have := HPLL.out; omega
     have hkp2 : (k : Int) < (pl.length : Int) := by omega
     have HSK := h_ (fun (W : World) (hb : Below wr.heap.size wr W) => HSD.out W S[k] (HT.out.later (bThen HO.out.b hb)) (List.getElem_mem hlt) ((HI.out.sides.each _ (List.getElem_mem hlt)).later (bThen HO.out.b hb)))
     clear hc hac
     by_cases hp : S[k].p = pl.getD k 0
     · have hpk := hp
       have hne : (S[k].p != pl.getD k 0) = false := by simp [hp]
       by_cases hsm : sideMay true (runesI t) S[k]
       · have HS2 := h_ (show ∀ W, Below wr.heap.size wr W → Calls Tryz.prog 87 #[NodeV.val ⟨me, ep, up, true, t, some ⟨b, o, none⟩, sc, S, uA, uc, U, mA, mc, M⟩, S[k].val] W (R_ W (.bool true)) from fun W hb => (HSK.out W hb).mono fun r w' ⟨⟨b, e, q⟩, h⟩ => ⟨by rw [e]; cases b <;> simp_all, h⟩)
         have HGN := h_ (show ∀ i (h : i < S.length), i < k + 1 → S[i].p = pl.getD i 0 ∧ sideMay true (runesI t) S[i] from fun i h hi => by
          rcases Nat.lt_or_ge i k with q | q
          · exact HG.out i h q
          · obtain rfl : i = k := by omega
            exact ⟨hp, hsm⟩)
         clear hp hsm HSK
         generalize S[k] = x at *
         generalize pl.getD k 0 = pk at *
         obtain ⟨p, j, s, h, A, c, L, kk⟩ := x
         dsimp only [SideV.p] at hne
         subst hpk
         dsimp only at c0 c1 c2 c3 c4 c5 c6 c7 c8 c9 HS2
         go_wp2_with (refine r_ ?_)
         refine ⟨?_⟩
         go_region_held3 (fun w' => w'.cell? ⟨w.heap.size, 0, none⟩ = some (.int .i64 me) ∧ w'.cell? ⟨w.heap.size, 1, none⟩ = some (.int .i64 ep) ∧ w'.cell? ⟨w.heap.size, 2, none⟩ = some (.int .i64 up) ∧ w'.cell? ⟨w.heap.size, 3, none⟩ = some (.bool true) ∧ w'.cell? ⟨w.heap.size, 4, none⟩ = some (.string t) ∧ w'.cell? ⟨w.heap.size, 5, none⟩ = some (.slice (some ⟨b, o, none⟩) S.length sc) ∧ w'.cell? ⟨w.heap.size, 6, none⟩ = some (.slice uA U.length uc) ∧ w'.cell? ⟨w.heap.size, 7, none⟩ = some (.slice mA M.length mc) ∧ w'.cell? ⟨wr.heap.size, 0, none⟩ = some (.int .i64 p) ∧ w'.cell? ⟨wr.heap.size, 1, none⟩ = some (.bool j) ∧ w'.cell? ⟨wr.heap.size, 2, none⟩ = some (.int .i64 s) ∧ w'.cell? ⟨wr.heap.size, 3, none⟩ = some (.int .i64 h) ∧ w'.cell? ⟨wr.heap.size, 4, none⟩ = some (.slice A L.length c) ∧ w'.cell? ⟨wr.heap.size, 5, none⟩ = some (.int .i64 kk.e) ∧ w'.cell? ⟨wr.heap.size, 6, none⟩ = some (.int .i64 kk.n) ∧ w'.cell? ⟨wr.heap.size, 7, none⟩ = some (.slice kk.sA kk.s.length kk.sc) ∧ w'.cell? ⟨wr.heap.size, 8, none⟩ = some (.slice kk.qA kk.q.length kk.qc) ∧ w'.cell? ⟨wr.heap.size, 9, none⟩ = some (.int .i64 kk.h) ∧ w'.cell? ⟨ab, ao + k, none⟩ = some (.int .i64 p))
          (go_keep)
          ((go_at_call 87; refine (HS2.out _ bz_).mono ?_; rintro r w6 ⟨rfl, hb6⟩; obtain ⟨⟨d6, os6⟩, rfl⟩ := a_ hb6))
         all_goals (
          go_wp2_with fail
          go_roundw
          case rel => exact ⟨k + 1, by omega, by go_num, HGN, h_ (HO.out.later bz_), h_ (Sl.later HA2.out bz_)⟩
          case measure => simp [intOf]; omega)
       · have HS2 := h_ (show ∀ W, Below wr.heap.size wr W → Calls Tryz.prog 87 #[NodeV.val ⟨me, ep, up, true, t, some ⟨b, o, none⟩, sc, S, uA, uc, U, mA, mc, M⟩, S[k].val] W (R_ W (.bool false)) from fun W hb => (HSK.out W hb).mono fun r w' ⟨⟨b, e, q⟩, h⟩ => ⟨by rw [e]; cases b <;> simp_all, h⟩)
         have HR9 := h_ (H9.out fun q => hsm (q.1 k hlt).2)
         clear hp hsm HSK
         generalize S[k] = x at *
         generalize pl.getD k 0 = pk at *
         obtain ⟨p, j, s, h, A, c, L, kk⟩ := x
         dsimp only [SideV.p] at hne
         subst hpk
         dsimp only at c0 c1 c2 c3 c4 c5 c6 c7 c8 c9 HS2
         go_wp2_with (refine r_ ?_)
         refine ⟨?_⟩
         go_region_held3 (fun w' => w'.cell? ⟨w.heap.size, 0, none⟩ = some (.int .i64 me) ∧ w'.cell? ⟨w.heap.size, 1, none⟩ = some (.int .i64 ep) ∧ w'.cell? ⟨w.heap.size, 2, none⟩ = some (.int .i64 up) ∧ w'.cell? ⟨w.heap.size, 3, none⟩ = some (.bool true) ∧ w'.cell? ⟨w.heap.size, 4, none⟩ = some (.string t) ∧ w'.cell? ⟨w.heap.size, 5, none⟩ = some (.slice (some ⟨b, o, none⟩) S.length sc) ∧ w'.cell? ⟨w.heap.size, 6, none⟩ = some (.slice uA U.length uc) ∧ w'.cell? ⟨w.heap.size, 7, none⟩ = some (.slice mA M.length mc) ∧ w'.cell? ⟨wr.heap.size, 0, none⟩ = some (.int .i64 p) ∧ w'.cell? ⟨wr.heap.size, 1, none⟩ = some (.bool j) ∧ w'.cell? ⟨wr.heap.size, 2, none⟩ = some (.int .i64 s) ∧ w'.cell? ⟨wr.heap.size, 3, none⟩ = some (.int .i64 h) ∧ w'.cell? ⟨wr.heap.size, 4, none⟩ = some (.slice A L.length c) ∧ w'.cell? ⟨wr.heap.size, 5, none⟩ = some (.int .i64 kk.e) ∧ w'.cell? ⟨wr.heap.size, 6, none⟩ = some (.int .i64 kk.n) ∧ w'.cell? ⟨wr.heap.size, 7, none⟩ = some (.slice kk.sA kk.s.length kk.sc) ∧ w'.cell? ⟨wr.heap.size, 8, none⟩ = some (.slice kk.qA kk.q.length kk.qc) ∧ w'.cell? ⟨wr.heap.size, 9, none⟩ = some (.int .i64 kk.h) ∧ w'.cell? ⟨ab, ao + k, none⟩ = some (.int .i64 p))
          (go_keep)
          ((go_at_call 87; refine (HS2.out _ bz_).mono ?_; rintro r w6 ⟨rfl, hb6⟩; obtain ⟨⟨d6, os6⟩, rfl⟩ := a_ hb6))
         all_goals (
          go_wp2_with fail
          go_ret
          exact ⟨by rw [HR9.out]; rfl, bThen HO.out.b bz_⟩)
     · have hne : (S[k].p != pl.getD k 0) = true := by simpa using hp
       have HR9 := h_ (H9.out fun q => hp (q.1 k hlt).1)
       clear hp HSK
       generalize S[k] = x at *
       generalize pl.getD k 0 = pk at *
       obtain ⟨p, j, s, h, A, c, L, kk⟩ := x
       dsimp only [SideV.p] at hne
       dsimp only at c0 c1 c2 c3 c4 c5 c6 c7 c8 c9
       go_wp2_with (refine r_ ?_)
       refine ⟨?_⟩
       go_region
       all_goals (
        go_wp2_with fail
        go_ret
        exact ⟨by rw [HR9.out]; rfl, bThen HO.out.b bz_⟩)
   · obtain rfl : k = S.length := by omega
     have HPAR := h_ (show 0 < me → ∀ x, S.head? = some x → x.j = true from fun h => absurd h (by simpa using _zp))
     have HSO := h_ (show ∀ i (h : i < S.length), S[i].p = pl.getD i 0 ∧ sideMay true (runesI t) S[i] from fun i h => HG.out i h h)
     go_wp2_with (refine r_ ?_)
     refine ⟨?_⟩
     go_region
     all_goals (
      go_wp2_with fail
      clear n0 n1 n2 n3 n4 n5 n6 n7 nz
      go_loopw [147] (fun i wr => ∃ k : Nat, k ≤ M.length ∧ i = .int .i64 k ∧ Hid (∀ i (h : i < M.length), i < k → markOk (runesI t) M[i]) ∧ Hid (OneAt w ⟨me, ep, up, true, t, sA, sc, S, uA, uc, U, mA, mc, M⟩ wr)) (fun i _ => M.length - (intOf i).toNat)
      case atStart => exact ⟨0, Nat.zero_le _, rfl, fun i hi h => absurd h (by omega), h_ (HO.out.later bz_)⟩
      case round =>
       obtain ⟨k, hk, rfl, HGM, HO4⟩ := hrel
       have hM2 := HM1.out
       obtain ⟨n0, n1, n2, n3, n4, n5, n6, n7, nz⟩ := d_ HO4.out.nd
       (try dsimp only at n0 n1 n2 n3 n4 n5 n6 n7)
       by_cases hlt : k < M.length
       · obtain ⟨mb, mo, rfl, hbs, hc⟩ := x_ markCells 2 bb_ (Sl.later HI.out.marks HO4.out.b) hlt
         have c0 : _root_.Go.World.cell? _ ⟨mb, mo + k * 2, none⟩ = some (.int .i64 M[k].1) := hc 0 _ rfl
         have c1 : _root_.Go.World.cell? _ ⟨mb, mo + k * 2 + 1, none⟩ = some (.int .i64 M[k].2) := hc 1 _ rfl
         clear hc
         by_cases hm : markOk (runesI t) M[k]
         · have HGN := h_ (show ∀ i (h : i < M.length), i < k + 1 → markOk (runesI t) M[i] from fun i h hi => by
            rcases Nat.lt_or_ge i k with q | q
            · exact HGM.out i h q
            · obtain rfl : i = k := by omega
              exact hm)
           generalize M[k] = m at *
           obtain ⟨ma, mh⟩ := m
           obtain ⟨⟨m1, m2⟩, m3, m4⟩ := hm
           dsimp only at c0 c1 m1 m2 m3 m4
           have d1 : decide (ma < 0) = false := by simpa using m1
           have d2 : decide (runesI t < ma) = false := by simpa using m2
           have d3 : decide (mh < 0) = false := by simpa using m3
           have d4 : decide (runesI t < mh) = false := by simpa using m4
           clear m1 m2 m3 m4
           go_wp2_with fail
           refine (HRC.out _).mono ?_
           rintro e w6 ⟨rfl, hb6⟩
           obtain ⟨⟨d6, os6⟩, rfl⟩ := a_ hb6
           go_wp2_with fail
           go_roundw
           case rel => exact ⟨k + 1, by omega, by go_num, HGN, h_ (HO4.out.later bz_)⟩
           case measure => have := HM1.out; simp [intOf]; omega
         · have HR9 := h_ (H9.out fun q => hm (q.2.2 _ (List.getElem_mem hlt)))
           have HNM := h_ hm
           clear hm
           unfold markOk at HNM
           generalize M[k] = m at *
           obtain ⟨ma, mh⟩ := m
           dsimp only at c0 c1 HNM
           go_wp2_with fail
           refine (HRC.out _).mono ?_
           rintro e w6 ⟨rfl, hb6⟩
           obtain ⟨⟨d6, os6⟩, rfl⟩ := a_ hb6
           go_wp2_with fail
           all_goals (first
            | (go_ret; exact ⟨by rw [HR9.out]; rfl, bThen HO4.out.b bz_⟩)
            | (exfalso; have := HNM.out; omega))
       · obtain rfl : k = M.length := by omega
         have HR0 := h_ (H0.out ⟨HSO.out, HPAR.out, fun m hm => by obtain ⟨i, hi, rfl⟩ := List.getElem_of_mem hm; exact HGM.out i hi hi⟩)
         go_wp2_with fail
         go_ret
         exact ⟨by rw [HR0.out]; rfl, HO4.out.b⟩))
theorem kw_ (w : World) (T : Option Addr) (N Nc : Nat) (zs : List Int) (n : NodeV) (HT : Hid (Tabs w)) (HI : Hid (n.In w)) (_HZ : Hid (Sl (· < w.heap.size) w 1 T N (zs.map (Value.int .i64)))) (_hN : N ≤ 9223372036854775807) (pl : List Int) (t1 : decide (n.me < 0) = false) (t2 : decide ((N : Int) ≤ n.me) = false) (t3 : decide (n.ep < 1) = false) (t4 : decide (1048576 ≤ n.ep) = false) (t5 : decide (n.up < 0) = false) (t6 : decide (1048576 < n.up) = false) (_z0 : (n.me == 0) = false) (_zp : decide (0 < n.me) = true) (hrd : n.rd = false) (_ht : n.t.toList = []) (HWR : Hid (wrap64 ((n.U.length : Int) + (n.M.length : Int)) = ((n.U.length + n.M.length : Nat) : Int))) (hpl : pl.length = n.S.length) (hM : n.M.length ≤ 1) (HUM : Hid (n.U.length + n.M.length = 0)) (hS : n.S.length ≤ 8) (hpp : 0 < n.S.length) (res : Int) (H9 : Hid (¬ ((∀ i (h : i < n.S.length), n.S[i].p = pl.getD i 0 ∧ sideMay n.rd (runesI n.t) n.S[i]) ∧ (0 < n.me → ∀ x, n.S.head? = some x → x.j = n.rd) ∧ ∀ m ∈ n.M, markOk (runesI n.t) m) → res = 9)) (H0 : Hid (((∀ i (h : i < n.S.length), n.S[i].p = pl.getD i 0 ∧ sideMay n.rd (runesI n.t) n.S[i]) ∧ (0 < n.me → ∀ x, n.S.head? = some x → x.j = n.rd) ∧ ∀ m ∈ n.M, markOk (runesI n.t) m) → res = 0)) (HC : Hid (∀ W, Below w.heap.size w W → Calls Tryz.prog 83 #[.slice T N Nc] W fun e w' => e = .returned (.int .i64 0) ∧ W = w')) (HX : Hid (∀ W, Tabs W → Calls Tryz.prog 84 #[.string n.t] W (R_ W (.int .i64 0)))) (HL : Hid (∀ W, Below w.heap.size w W → Calls Tryz.prog 85 #[.slice T N Nc, .int .i64 n.me] W (RetInts W pl))) (HU : Hid (∀ W, Below w.heap.size w W → Calls Tryz.prog 86 #[n.val] W (R_ W (.bool true)))) (HSD : Hid (∀ W x, Tabs W → x ∈ n.S → x.In W → Calls Tryz.prog 87 #[n.val, x.val] W fun r w' => (∃ b : Bool, r = .returned (.bool b) ∧ (b = true ↔ sideMay n.rd (runesI n.t) x)) ∧ Below W.heap.size W w')) (HRC : Hid (∀ W, Calls Tryz.prog 88 #[.string n.t] W (R_ W (.int .i64 (runesI n.t))))) :
 Calls Tryz.prog 43 #[.slice T N Nc, n.val] w (R_ w (.int .i64 res)) := by
 have HPLL := h_ hpl
 have q1 : ((pl.length : Int) != (n.S.length : Int)) = false := by simp [hpl]
 have q2 : decide (1 < (n.M.length : Int)) = false := by simp; omega
 have HM1 := h_ hM
 have _q3 : decide (0 < ((n.U.length + n.M.length : Nat) : Int)) = false := by rw [HUM.out]; rfl
 have _q4 : decide (0 < n.U.length + n.M.length) = false := by rw [HUM.out]; rfl
 have _q5 : decide (0 < ((n.U.length : Int) + (n.M.length : Int))) = false := by have := HUM.out; simp; omega
 clear hpl hM
 obtain ⟨me, ep, up, rd, t, sA, sc, S, uA, uc, U, mA, mc, M⟩ := n
 dsimp only at *
 subst hrd
 have HA := h_ (OneAt.new w ⟨me, ep, up, false, t, sA, sc, S, uA, uc, U, mA, mc, M⟩)
 obtain ⟨WA, hWA⟩ : ∃ WA, WA = w.alloc (.cells #[.int .i64 me, .int .i64 ep, .int .i64 up, .bool false, .string t, .slice sA S.length sc, .slice uA U.length uc, .slice mA M.length mc] 28) := ⟨_, rfl⟩
 dsimp only at HA
 rw [← hWA] at HA
 have HW := h_ hWA.symm
 clear hWA
 go_enter Tryz.func43, Tryz.ntmps43
 go_wp2_with fail
 rw [HW.out]
 refine (HC.out _ HA.out.b).mono ?_
 rintro e w1 ⟨rfl, rfl⟩
 obtain ⟨n0, n1, n2, n3, n4, n5, n6, n7, nz⟩ := d_ HA.out.nd
 go_wp2_with fail
 refine (HX.out _ (HT.out.later HA.out.b)).mono ?_
 rintro e w2 ⟨rfl, hb2⟩
 have H2 := h_ (HA.out.later hb2)
 clear n0 n1 n2 n3 n4 n5 n6 n7 nz
 obtain ⟨n0, n1, n2, n3, n4, n5, n6, n7, nz⟩ := d_ H2.out.nd
 clear hb2
 go_wp2_with fail
 refine (HL.out _ H2.out.b).mono ?_
 rintro e w3 ⟨Aa, ca, rfl, hpl, hb3⟩
 have H3 := h_ (H2.out.later hb3)
 have HPL := h_ hpl
 clear n0 n1 n2 n3 n4 n5 n6 n7 nz
 obtain ⟨n0, n1, n2, n3, n4, n5, n6, n7, nz⟩ := d_ H3.out.nd
 clear hb3 hpl
 go_wp2_with fail
 refine (HU.out _ H3.out.b).mono ?_
 rintro e w4 ⟨rfl, hb4⟩
 have H4 := h_ (H3.out.later hb4)
 have HPM := h_ hb4
 clear n0 n1 n2 n3 n4 n5 n6 n7 nz
 obtain ⟨n0, n1, n2, n3, n4, n5, n6, n7, nz⟩ := d_ H4.out.nd
 clear hb4
 have hw := HWR.out
 have HAL := h_ (show Sl (· < w4.heap.size) w4 1 Aa pl.length (pl.map (Value.int .i64)) from Sl.later ((Sl.of_own _ HPL.out).moved fun _ hx => ⟨hx.2, rfl⟩) HPM.out)
 go_wp2_with fail
 all_goals (
  (try clear _ht _q3 _q4 _q5)
  clear n0 n1 n2 n3 n4 n5 n6 n7 nz hw q1 q2 t1 t2 t3 t4 t5 t6
  go_loopw [112] (fun i wr => ∃ k : Nat, k ≤ S.length ∧ i = .int .i64 k ∧ Hid (∀ i (h : i < S.length), i < k → S[i].p = pl.getD i 0 ∧ sideMay false (runesI t) S[i]) ∧ Hid (OneAt w ⟨me, ep, up, false, t, sA, sc, S, uA, uc, U, mA, mc, M⟩ wr) ∧ Hid (Sl (· < wr.heap.size) wr 1 Aa pl.length (pl.map (Value.int .i64)))) (fun i _ => S.length - (intOf i).toNat)
  case atStart => exact ⟨0, Nat.zero_le _, rfl, fun i hi h => absurd h (by omega), H4, HAL⟩
  case round =>
   obtain ⟨k, hk, rfl, HG, HO, HA2⟩ := hrel
   obtain ⟨n0, n1, n2, n3, n4, n5, n6, n7, nz⟩ := d_ HO.out.nd
   (try dsimp only at n0 n1 n2 n3 n4 n5 n6 n7)
   by_cases hlt : k < S.length
   · obtain ⟨b, o, rfl, hbs, hc⟩ := x_ SideV.cells 10 SideV.cells_len (Sl.later HI.out.sides.row HO.out.b) hlt
     have c0 : wr.cell? ⟨b, o + k * 10, none⟩ = some (.int .i64 S[k].p) := hc 0 _ rfl
     have c1 : wr.cell? ⟨b, o + k * 10 + 1, none⟩ = some (.bool S[k].j) := hc 1 _ rfl
     have c2 : wr.cell? ⟨b, o + k * 10 + 2, none⟩ = some (.int .i64 S[k].s) := hc 2 _ rfl
     have c3 : wr.cell? ⟨b, o + k * 10 + 3, none⟩ = some (.int .i64 S[k].h) := hc 3 _ rfl
     have c4 : wr.cell? ⟨b, o + k * 10 + 4, none⟩ = some (.slice S[k].A S[k].L.length S[k].c) := hc 4 _ rfl
     have c5 : wr.cell? ⟨b, o + k * 10 + 5, none⟩ = some (.int .i64 S[k].k.e) := hc 5 _ rfl
     have c6 : wr.cell? ⟨b, o + k * 10 + 6, none⟩ = some (.int .i64 S[k].k.n) := hc 6 _ rfl
     have c7 : wr.cell? ⟨b, o + k * 10 + 7, none⟩ = some (.slice S[k].k.sA S[k].k.s.length S[k].k.sc) := hc 7 _ rfl
     have c8 : wr.cell? ⟨b, o + k * 10 + 8, none⟩ = some (.slice S[k].k.qA S[k].k.q.length S[k].k.qc) := hc 8 _ rfl
     have c9 : wr.cell? ⟨b, o + k * 10 + 9, none⟩ = some (.int .i64 S[k].k.h) := hc 9 _ rfl
     obtain ⟨ab, ao, rfl, habs, hac⟩ := HA2.out.open_ (by have := HPLL.out; omega)
     have a0 := hac k _ (ca_ pl k (by have := HPLL.out; omega))
     have hkp : k < pl.length := by have := HPLL.out; omega
     have hkp2 : (k : Int) < (pl.length : Int) := by omega
     have HSK := h_ (fun (W : World) (hb : Below wr.heap.size wr W) => HSD.out W S[k] (HT.out.later (bThen HO.out.b hb)) (List.getElem_mem hlt) ((HI.out.sides.each _ (List.getElem_mem hlt)).later (bThen HO.out.b hb)))
     clear hc hac
     by_cases hp : S[k].p = pl.getD k 0
     · have hpk := hp
       have hne : (S[k].p != pl.getD k 0) = false := by simp [hp]
       by_cases hsm : sideMay false (runesI t) S[k]
       · have HS2 := h_ (show ∀ W, Below wr.heap.size wr W → Calls Tryz.prog 87 #[NodeV.val ⟨me, ep, up, false, t, some ⟨b, o, none⟩, sc, S, uA, uc, U, mA, mc, M⟩, S[k].val] W (R_ W (.bool true)) from fun W hb => (HSK.out W hb).mono fun r w' ⟨⟨b, e, q⟩, h⟩ => ⟨by rw [e]; cases b <;> simp_all, h⟩)
         have HGN := h_ (show ∀ i (h : i < S.length), i < k + 1 → S[i].p = pl.getD i 0 ∧ sideMay false (runesI t) S[i] from fun i h hi => by
          rcases Nat.lt_or_ge i k with q | q
          · exact HG.out i h q
          · obtain rfl : i = k := by omega
            exact ⟨hp, hsm⟩)
         clear hp hsm HSK
         generalize S[k] = x at *
         generalize pl.getD k 0 = pk at *
         obtain ⟨p, j, s, h, A, c, L, kk⟩ := x
         dsimp only [SideV.p] at hne
         subst hpk
         dsimp only at c0 c1 c2 c3 c4 c5 c6 c7 c8 c9 HS2
         go_wp2_with (refine r_ ?_)
         refine ⟨?_⟩
         go_region_held3 (fun w' => w'.cell? ⟨w.heap.size, 0, none⟩ = some (.int .i64 me) ∧ w'.cell? ⟨w.heap.size, 1, none⟩ = some (.int .i64 ep) ∧ w'.cell? ⟨w.heap.size, 2, none⟩ = some (.int .i64 up) ∧ w'.cell? ⟨w.heap.size, 3, none⟩ = some (.bool false) ∧ w'.cell? ⟨w.heap.size, 4, none⟩ = some (.string t) ∧ w'.cell? ⟨w.heap.size, 5, none⟩ = some (.slice (some ⟨b, o, none⟩) S.length sc) ∧ w'.cell? ⟨w.heap.size, 6, none⟩ = some (.slice uA U.length uc) ∧ w'.cell? ⟨w.heap.size, 7, none⟩ = some (.slice mA M.length mc) ∧ w'.cell? ⟨wr.heap.size, 0, none⟩ = some (.int .i64 p) ∧ w'.cell? ⟨wr.heap.size, 1, none⟩ = some (.bool j) ∧ w'.cell? ⟨wr.heap.size, 2, none⟩ = some (.int .i64 s) ∧ w'.cell? ⟨wr.heap.size, 3, none⟩ = some (.int .i64 h) ∧ w'.cell? ⟨wr.heap.size, 4, none⟩ = some (.slice A L.length c) ∧ w'.cell? ⟨wr.heap.size, 5, none⟩ = some (.int .i64 kk.e) ∧ w'.cell? ⟨wr.heap.size, 6, none⟩ = some (.int .i64 kk.n) ∧ w'.cell? ⟨wr.heap.size, 7, none⟩ = some (.slice kk.sA kk.s.length kk.sc) ∧ w'.cell? ⟨wr.heap.size, 8, none⟩ = some (.slice kk.qA kk.q.length kk.qc) ∧ w'.cell? ⟨wr.heap.size, 9, none⟩ = some (.int .i64 kk.h) ∧ w'.cell? ⟨ab, ao + k, none⟩ = some (.int .i64 p))
          (go_keep)
          ((go_at_call 87; refine (HS2.out _ bz_).mono ?_; rintro r w6 ⟨rfl, hb6⟩; obtain ⟨⟨d6, os6⟩, rfl⟩ := a_ hb6))
         all_goals (
          go_wp2_with fail
          go_roundw
          case rel => exact ⟨k + 1, by omega, by go_num, HGN, h_ (HO.out.later bz_), h_ (Sl.later HA2.out bz_)⟩
          case measure => simp [intOf]; omega)
       · have HS2 := h_ (show ∀ W, Below wr.heap.size wr W → Calls Tryz.prog 87 #[NodeV.val ⟨me, ep, up, false, t, some ⟨b, o, none⟩, sc, S, uA, uc, U, mA, mc, M⟩, S[k].val] W (R_ W (.bool false)) from fun W hb => (HSK.out W hb).mono fun r w' ⟨⟨b, e, q⟩, h⟩ => ⟨by rw [e]; cases b <;> simp_all, h⟩)
         have HR9 := h_ (H9.out fun q => hsm (q.1 k hlt).2)
         clear hp hsm HSK
         generalize S[k] = x at *
         generalize pl.getD k 0 = pk at *
         obtain ⟨p, j, s, h, A, c, L, kk⟩ := x
         dsimp only [SideV.p] at hne
         subst hpk
         dsimp only at c0 c1 c2 c3 c4 c5 c6 c7 c8 c9 HS2
         go_wp2_with (refine r_ ?_)
         refine ⟨?_⟩
         go_region_held3 (fun w' => w'.cell? ⟨w.heap.size, 0, none⟩ = some (.int .i64 me) ∧ w'.cell? ⟨w.heap.size, 1, none⟩ = some (.int .i64 ep) ∧ w'.cell? ⟨w.heap.size, 2, none⟩ = some (.int .i64 up) ∧ w'.cell? ⟨w.heap.size, 3, none⟩ = some (.bool false) ∧ w'.cell? ⟨w.heap.size, 4, none⟩ = some (.string t) ∧ w'.cell? ⟨w.heap.size, 5, none⟩ = some (.slice (some ⟨b, o, none⟩) S.length sc) ∧ w'.cell? ⟨w.heap.size, 6, none⟩ = some (.slice uA U.length uc) ∧ w'.cell? ⟨w.heap.size, 7, none⟩ = some (.slice mA M.length mc) ∧ w'.cell? ⟨wr.heap.size, 0, none⟩ = some (.int .i64 p) ∧ w'.cell? ⟨wr.heap.size, 1, none⟩ = some (.bool j) ∧ w'.cell? ⟨wr.heap.size, 2, none⟩ = some (.int .i64 s) ∧ w'.cell? ⟨wr.heap.size, 3, none⟩ = some (.int .i64 h) ∧ w'.cell? ⟨wr.heap.size, 4, none⟩ = some (.slice A L.length c) ∧ w'.cell? ⟨wr.heap.size, 5, none⟩ = some (.int .i64 kk.e) ∧ w'.cell? ⟨wr.heap.size, 6, none⟩ = some (.int .i64 kk.n) ∧ w'.cell? ⟨wr.heap.size, 7, none⟩ = some (.slice kk.sA kk.s.length kk.sc) ∧ w'.cell? ⟨wr.heap.size, 8, none⟩ = some (.slice kk.qA kk.q.length kk.qc) ∧ w'.cell? ⟨wr.heap.size, 9, none⟩ = some (.int .i64 kk.h) ∧ w'.cell? ⟨ab, ao + k, none⟩ = some (.int .i64 p))
          (go_keep)
          ((go_at_call 87; refine (HS2.out _ bz_).mono ?_; rintro r w6 ⟨rfl, hb6⟩; obtain ⟨⟨d6, os6⟩, rfl⟩ := a_ hb6))
         all_goals (
          go_wp2_with fail
          go_ret
          exact ⟨by rw [HR9.out]; rfl, bThen HO.out.b bz_⟩)
     · have hne : (S[k].p != pl.getD k 0) = true := by simpa using hp
       have HR9 := h_ (H9.out fun q => hp (q.1 k hlt).1)
       clear hp HSK
       generalize S[k] = x at *
       generalize pl.getD k 0 = pk at *
       obtain ⟨p, j, s, h, A, c, L, kk⟩ := x
       dsimp only [SideV.p] at hne
       dsimp only at c0 c1 c2 c3 c4 c5 c6 c7 c8 c9
       go_wp2_with (refine r_ ?_)
       refine ⟨?_⟩
       go_region
       all_goals (
        go_wp2_with fail
        go_ret
        exact ⟨by rw [HR9.out]; rfl, bThen HO.out.b bz_⟩)
   · obtain rfl : k = S.length := by omega
     obtain ⟨b, o, rfl, hbs, hc⟩ := x_ SideV.cells 10 SideV.cells_len (Sl.later HI.out.sides.row HO.out.b) (k := 0) hpp
     have c1 : wr.cell? ⟨b, o + 1, none⟩ = some (.bool S[0].j) := by simpa using hc 1 _ rfl
     clear hc
     have HHD := h_ (show S.head? = some S[0] from List.head?_eq_getElem? ▸ List.getElem?_eq_getElem hpp)
     generalize S[0] = x at *
     obtain ⟨p, j, s, h, A, c, L, kk⟩ := x
     dsimp only at c1
     have hpp2 : (0 : Int) < (S.length : Int) := by omega
     by_cases hj : ¬ j = false
     · have hj2 : j = !false := by cases j <;> simp_all
       subst hj2
       have HR9 := h_ (H9.out fun q => by have := q.2.1 (by simpa using _zp) _ HHD.out; cases this)
       clear hj
       go_wp2_with (refine r_ ?_)
       refine ⟨?_⟩
       go_region
       all_goals (
        go_wp2_with fail
        go_ret
        exact ⟨by rw [HR9.out]; rfl, bThen HO.out.b bz_⟩)
     replace hj : j = false := Classical.not_not.1 hj
     subst hj
     have HPAR := h_ (show 0 < me → ∀ x, S.head? = some x → x.j = false from fun _ x hx => by rw [HHD.out] at hx; obtain rfl := Option.some.inj hx; rfl)
     have HSO := h_ (show ∀ i (h : i < S.length), S[i].p = pl.getD i 0 ∧ sideMay false (runesI t) S[i] from fun i h => HG.out i h h)
     go_wp2_with (refine r_ ?_)
     refine ⟨?_⟩
     go_region
     all_goals (
      go_wp2_with fail
      clear n0 n1 n2 n3 n4 n5 n6 n7 nz
      go_loopw [147] (fun i wr => ∃ k : Nat, k ≤ M.length ∧ i = .int .i64 k ∧ Hid (∀ i (h : i < M.length), i < k → markOk (runesI t) M[i]) ∧ Hid (OneAt w ⟨me, ep, up, false, t, some ⟨b, o, none⟩, sc, S, uA, uc, U, mA, mc, M⟩ wr)) (fun i _ => M.length - (intOf i).toNat)
      case atStart => exact ⟨0, Nat.zero_le _, rfl, fun i hi h => absurd h (by omega), h_ (HO.out.later bz_)⟩
      case round =>
       obtain ⟨k, hk, rfl, HGM, HO4⟩ := hrel
       have hM2 := HM1.out
       obtain ⟨n0, n1, n2, n3, n4, n5, n6, n7, nz⟩ := d_ HO4.out.nd
       (try dsimp only at n0 n1 n2 n3 n4 n5 n6 n7)
       by_cases hlt : k < M.length
       · obtain ⟨mb, mo, rfl, hbs, hc⟩ := x_ markCells 2 bb_ (Sl.later HI.out.marks HO4.out.b) hlt
         have c0 : _root_.Go.World.cell? _ ⟨mb, mo + k * 2, none⟩ = some (.int .i64 M[k].1) := hc 0 _ rfl
         have c1 : _root_.Go.World.cell? _ ⟨mb, mo + k * 2 + 1, none⟩ = some (.int .i64 M[k].2) := hc 1 _ rfl
         clear hc
         by_cases hm : markOk (runesI t) M[k]
         · have HGN := h_ (show ∀ i (h : i < M.length), i < k + 1 → markOk (runesI t) M[i] from fun i h hi => by
            rcases Nat.lt_or_ge i k with q | q
            · exact HGM.out i h q
            · obtain rfl : i = k := by omega
              exact hm)
           generalize M[k] = m at *
           obtain ⟨ma, mh⟩ := m
           obtain ⟨⟨m1, m2⟩, m3, m4⟩ := hm
           dsimp only at c0 c1 m1 m2 m3 m4
           have d1 : decide (ma < 0) = false := by simpa using m1
           have d2 : decide (runesI t < ma) = false := by simpa using m2
           have d3 : decide (mh < 0) = false := by simpa using m3
           have d4 : decide (runesI t < mh) = false := by simpa using m4
           clear m1 m2 m3 m4
           go_wp2_with fail
           refine (HRC.out _).mono ?_
           rintro e w6 ⟨rfl, hb6⟩
           obtain ⟨⟨d6, os6⟩, rfl⟩ := a_ hb6
           go_wp2_with fail
           go_roundw
           case rel => exact ⟨k + 1, by omega, by go_num, HGN, h_ (HO4.out.later bz_)⟩
           case measure => have := HM1.out; simp [intOf]; omega
         · have HR9 := h_ (H9.out fun q => hm (q.2.2 _ (List.getElem_mem hlt)))
           have HNM := h_ hm
           clear hm
           unfold markOk at HNM
           generalize M[k] = m at *
           obtain ⟨ma, mh⟩ := m
           dsimp only at c0 c1 HNM
           go_wp2_with fail
           refine (HRC.out _).mono ?_
           rintro e w6 ⟨rfl, hb6⟩
           obtain ⟨⟨d6, os6⟩, rfl⟩ := a_ hb6
           go_wp2_with fail
           all_goals (first
            | (go_ret; exact ⟨by rw [HR9.out]; rfl, bThen HO4.out.b bz_⟩)
            | (exfalso; have := HNM.out; omega))
       · obtain rfl : k = M.length := by omega
         have HR0 := h_ (H0.out ⟨HSO.out, HPAR.out, fun m hm => by obtain ⟨i, hi, rfl⟩ := List.getElem_of_mem hm; exact HGM.out i hi hi⟩)
         go_wp2_with fail
         go_ret
         exact ⟨by rw [HR0.out]; rfl, HO4.out.b⟩))
end Go.Proofs.YtacacoklddogmaaGreatDoor
