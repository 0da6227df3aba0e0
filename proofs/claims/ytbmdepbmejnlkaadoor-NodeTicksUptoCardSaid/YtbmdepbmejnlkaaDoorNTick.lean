/-
  Contract of node.Tick.
-/
import Derived.Test.YtbmdepbmejnlkaaDoorRows
import Derived.Test.YtbmdepbmejnlkaaDoorNTickP
import Derived.Test.YtbmdepbmejnlkaaDoorPost
namespace Go.Proofs.YtbmdepbmejnlkaaDoor
open Go.ChangeShapes Go.WideShapes Go.ChangeAt Go.RowKit
set_option maxRecDepth 100000
set_option maxHeartbeats 1000000 in
theorem NTick_fault (w : World) (T : Option Addr) (N Nc : Nat) (zs : List Int) (n : NodeV) (hT : Tabs w) (hi : n.In w) (hm : n.Small) (hz : Sl (· < w.heap.size) w 1 T N (zs.map (Value.int .i64))) (hN : N ≤ 9223372036854775807) (er : Int) (h0 : nodeFault zs n = er) (hne : (er == 0) = false) :
    Calls Tryd.prog 22 #[.slice T N Nc, n.val] w (RetTurnP w zeroN.d [] er) := by
  obtain ⟨me, ep, up, rd, t, sA, sc, S, uA, uc, U, mA, mc, M⟩ := n
  have H1 := Lib.hid (fun W hT (hi : NodeV.In W ⟨me, ep, up, rd, t, sA, sc, S, uA, uc, U, mA, mc, M⟩) hz => begin_no W T N Nc zs ⟨me, ep, up, rd, t, sA, sc, S, uA, uc, U, mA, mc, M⟩ hT hi hm hz hN er h0 hne)
  have HT := Lib.hid hT
  have HZ := Lib.hid hz
  have HI := Lib.hid hi
  clear hT hz hi hm h0
  have HA := Lib.hid (TickAt.new w #[.int .i64 me, .int .i64 ep, .int .i64 up, .bool rd, .string t, .slice sA S.length sc, .slice uA U.length uc, .slice mA M.length mc])
  obtain ⟨WA, hWA⟩ : ∃ WA, WA = ((w.alloc (.cells #[.int .i64 me, .int .i64 ep, .int .i64 up, .bool rd, .string t, .slice sA S.length sc, .slice uA U.length uc, .slice mA M.length mc] 28)).alloc (.cells #[.int .i64 0, .int .i64 0, .int .i64 0, .bool false, .string ⟨#[]⟩, .slice none 0 0, .slice none 0 0, .slice none 0 0, .slice none 0 0, .slice none 0 0] 35)) := ⟨_, rfl⟩
  rw [← hWA] at HA
  have HW := Lib.hid hWA.symm
  obtain ⟨R, hR⟩ : ∃ R, R = w.heap.size + 1 := ⟨_, rfl⟩
  rw [← hR] at HA
  have HRE := Lib.hid hR.symm
  clear hWA hR
  go_enter Tryd.func22, Tryd.ntmps22
  go_wp2_with fail
  rw [HW.out, HRE.out]
  refine (H1.out _ (HT.out.later HA.out.b) (HI.out.later HA.out.b) (Sl.later HZ.out HA.out.b)).mono ?_
  rintro r w1 ⟨rfl, hb1⟩
  have HB := Lib.hid (HA.out.later hb1)
  clear hb1
  have hne' : (er != 0) = true := by simp [bne, hne]
  obtain ⟨r0, r1, r2, r3, r4, r5, r6, r7, r8, r9, rz⟩ := ten_cell HB.out.r
  have F0 := tenF HB.out.r 0
  have F1 := tenF HB.out.r 1
  have F2 := tenF HB.out.r 2
  have F3 := tenF HB.out.r 3
  have F4 := tenF HB.out.r 4
  have F5 := tenF HB.out.r 5
  have F6 := tenF HB.out.r 6
  have F7 := tenF HB.out.r 7
  have F8 := tenF HB.out.r 8
  have F9 := tenF HB.out.r 9
  go_wp2_with fail
  refine post_hide (fun H => H.heap[R]? = some (.cells #[.int .i64 0, .int .i64 0, .int .i64 0, .bool false, .string ⟨#[]⟩, .slice none 0 0, .slice none 0 0, .slice none 0 0, .slice none 0 0, .slice none 0 0] 35 (0, 0)) ∧ Below w.heap.size w H) ⟨ten_sets HB.out.r _ _ _ _ _ _ _ _ _ _, ?_⟩ ?_
  · have hwR : w.heap.size ≤ R := by have := HB.out.hr; omega
    repeat (refine bSet ?_ (by exact hwR) _)
    exact HB.out.b
  clear r0 r1 r2 r3 r4 r5 r6 r7 r8 r9 rz F0 F1 F2 F3 F4 F5 F6 F7 F8 F9
  rintro H ⟨j1, j3⟩
  obtain ⟨r0, r1, r2, r3, r4, r5, r6, r7, r8, r9, rz⟩ := ten_cell j1
  refine bodyPost_ret (v := .tuple #[.agg #[.int .i64 0, .int .i64 0, .int .i64 0, .bool false, .string ⟨#[]⟩, .slice none 0 0, .slice none 0 0, .slice none 0 0, .slice none 0 0, .slice none 0 0], .int .i64 er]) (by simp [results, Tryd.results22, go_sem, r0, r1, r2, r3, r4, r5, r6, r7, r8, r9]) rfl ?_
  exact ⟨zeroN, none, 0, [], rfl, rfl, zeroN_inS _ _, rfl, RowOwn.nil _ _, j3⟩
set_option maxHeartbeats 2000000 in
theorem NTick_ok (w : World) (T : Option Addr) (N Nc : Nat) (zs : List Int) (n : NodeV) (hT : Tabs w) (hi : n.In w) (hm : n.Small) (hz : Sl (· < w.heap.size) w 1 T N (zs.map (Value.int .i64))) (hN : N ≤ 9223372036854775807) (h0 : nodeFault zs n = 0) :
    Calls Tryd.prog 22 #[.slice T N Nc, n.val] w (RetTurnP w n.d (ticksD n.S) 0) := by
  obtain ⟨me, ep, up, rd, t, sA, sc, S, uA, uc, U, mA, mc, M⟩ := n
  have H1 := Lib.hid (fun W hT (hi : NodeV.In W ⟨me, ep, up, rd, t, sA, sc, S, uA, uc, U, mA, mc, M⟩) hz => begin_ok W T N Nc zs ⟨me, ep, up, rd, t, sA, sc, S, uA, uc, U, mA, mc, M⟩ hT hi hm hz hN h0)
  have HM := Lib.hid hm
  have HL := Lib.hid (nodeFault_links h0)
  have HT := Lib.hid hT
  have HZ := Lib.hid hz
  have HI := Lib.hid hi
  clear hT hz hi hm h0
  have HA := Lib.hid (TickAt.new w #[.int .i64 me, .int .i64 ep, .int .i64 up, .bool rd, .string t, .slice sA S.length sc, .slice uA U.length uc, .slice mA M.length mc])
  obtain ⟨WA, hWA⟩ : ∃ WA, WA = ((w.alloc (.cells #[.int .i64 me, .int .i64 ep, .int .i64 up, .bool rd, .string t, .slice sA S.length sc, .slice uA U.length uc, .slice mA M.length mc] 28)).alloc (.cells #[.int .i64 0, .int .i64 0, .int .i64 0, .bool false, .string ⟨#[]⟩, .slice none 0 0, .slice none 0 0, .slice none 0 0, .slice none 0 0, .slice none 0 0] 35)) := ⟨_, rfl⟩
  rw [← hWA] at HA
  have HW := Lib.hid hWA.symm
  obtain ⟨R, hR⟩ : ∃ R, R = w.heap.size + 1 := ⟨_, rfl⟩
  rw [← hR] at HA
  have HRE := Lib.hid hR.symm
  clear hWA hR
  go_enter Tryd.func22, Tryd.ntmps22
  go_wp2_with fail
  rw [HW.out, HRE.out]
  refine (H1.out _ (HT.out.later HA.out.b) (HI.out.later HA.out.b) (Sl.later HZ.out HA.out.b)).mono ?_
  rintro r w1 ⟨X, n', rfl, hd, hX, hx, hin, hb1⟩
  have HB := Lib.hid (HA.out.later hb1)
  have HW1 : Hid (WorkAt 75 w1 X n' none 0 [] (.slice none 0 0)) := Lib.hid ⟨hx, RowOwn.nil _ _, hin.row.moved fun b hb => ⟨⟨by have := (Array.getElem?_eq_some_iff.1 hx).1; omega, by omega, by simp [Value.ownBlock]⟩, rfl⟩⟩
  have HIN := Lib.hid hin
  have HD := Lib.hid hd
  have hRX : R < X := by have := HA.out.rz; omega
  clear hd hx hin hb1
  obtain ⟨n0, n1, n2, n3, n4, n5, n6, n7, nz⟩ := eight_cell HB.out.nd
  go_wp2_with fail
  go_loopw [25] (fun i wr => ∃ (k : Nat) (A : Option Addr) (c : Nat) (L : List PostV), k ≤ S.length ∧ i = .int .i64 k ∧ Hid (PostedTo 75 w1 X n' none 0 0 L (.slice none 0 0) A c wr) ∧ Hid (L.map PostV.d = ticksD (S.take k))) (fun i _ => S.length - (intOf i).toNat)
  case atStart => exact ⟨0, none, 0, [], Nat.zero_le _, rfl, Lib.hid (PostedTo.self HW1.out (Below.refl _ _)), Lib.hid rfl⟩
  case round =>
    obtain ⟨k, A, c, L, hk, rfl, HP, HLD⟩ := hrel
    have HBR : Hid (TickAt w R #[.int .i64 me, .int .i64 ep, .int .i64 up, .bool rd, .string t, .slice sA S.length sc, .slice uA U.length uc, .slice mA M.length mc] wr) := Lib.hid (HB.out.turned hRX HP.out.turned)
    by_cases hlt : k < S.length
    · obtain ⟨b, o, rfl, hbs, hc⟩ := row_at SideV.cells 10 SideV.cells_len (Sl.later HI.out.sides.row HBR.out.b) hlt
      have ce0 : wr.cell? ⟨b, o + k * 10, none⟩ = some (.int .i64 S[k].p) := hc 0 _ rfl
      have ce1 : wr.cell? ⟨b, o + k * 10 + 1, none⟩ = some (.bool S[k].j) := hc 1 _ rfl
      have ce2 : wr.cell? ⟨b, o + k * 10 + 2, none⟩ = some (.int .i64 S[k].s) := hc 2 _ rfl
      have ce3 : wr.cell? ⟨b, o + k * 10 + 3, none⟩ = some (.int .i64 S[k].h) := hc 3 _ rfl
      have ce4 : wr.cell? ⟨b, o + k * 10 + 4, none⟩ = some (.slice S[k].A S[k].L.length S[k].c) := hc 4 _ rfl
      have ce5 : wr.cell? ⟨b, o + k * 10 + 5, none⟩ = some (.int .i64 S[k].k.e) := hc 5 _ rfl
      have ce6 : wr.cell? ⟨b, o + k * 10 + 6, none⟩ = some (.int .i64 S[k].k.n) := hc 6 _ rfl
      have ce7 : wr.cell? ⟨b, o + k * 10 + 7, none⟩ = some (.slice S[k].k.sA S[k].k.s.length S[k].k.sc) := hc 7 _ rfl
      have ce8 : wr.cell? ⟨b, o + k * 10 + 8, none⟩ = some (.slice S[k].k.qA S[k].k.q.length S[k].k.qc) := hc 8 _ rfl
      have ce9 : wr.cell? ⟨b, o + k * 10 + 9, none⟩ = some (.int .i64 S[k].k.h) := hc 9 _ rfl
      have hki : (k : Int) < (S.length : Int) := by omega
      have HXI := Lib.hid ((HI.out.sides.each _ (List.getElem_mem hlt)).later HBR.out.b)
      have HSM := Lib.hid (HM.out.sides _ (List.getElem_mem hlt))
      have HLM := Lib.hid (HL.out _ (List.getElem_mem hlt))
      have HTK := Lib.hid (ticksD_take hlt)
      have HLEN := Lib.hid (show n'.S.length = S.length from mapLen (congrArg NodeD.S HD.out))
      have HPE := Lib.hid (show ∀ h : k < n'.S.length, n'.S[k].p = S[k].p from fun h => congrArg SideD.p (sd_at (congrArg NodeD.S HD.out) hlt h))
      clear hc
      generalize S[k] = x at *
      obtain ⟨p, j, s, h, sA1, sc1, sL, ⟨ke, kn, sA2, sc2, ks, qA2, qc2, kq, kh⟩⟩ := x
      dsimp only at ce0 ce1 ce2 ce3 ce4 ce5 ce6 ce7 ce8 ce9
      have HTC := Lib.hid (fun W hT hi => linkTick_c W ⟨ke, kn, sA2, sc2, ks, qA2, qc2, kq, kh⟩ HLM.out hT hi HSM.out.link)
      obtain ⟨WX, hWX⟩ : ∃ WX, WX = wr.alloc (.cells #[.int .i64 p, .bool j, .int .i64 s, .int .i64 h, .slice sA1 sL.length sc1, .int .i64 ke, .int .i64 kn, .slice sA2 ks.length sc2, .slice qA2 kq.length qc2, .int .i64 kh] 65) := ⟨_, rfl⟩
      have HF0 := Lib.hid (show WX.heap[wr.heap.size]? = some (.cells #[.int .i64 p, .bool j, .int .i64 s, .int .i64 h, .slice sA1 sL.length sc1, .int .i64 ke, .int .i64 kn, .slice sA2 ks.length sc2, .slice qA2 kq.length qc2, .int .i64 kh] 65 (0, 0)) by rw [hWX]; exact World.alloc_heap_new _ _)
      have HBX := Lib.hid (show Below wr.heap.size wr WX by rw [hWX]; exact bAlloc (Below.refl _ _) _)
      have HWX := Lib.hid hWX.symm
      clear hWX
      go_wp2_with fail
      rw [HWX.out]
      refine (HTC.out _ (HT.out.later (bThen HBR.out.b HBX.out)) (HXI.out.link.later HBX.out)).mono ?_
      rintro r w2 ⟨pA, pc, K, rfl, hKD, hKO, hb2⟩
      have HB2 := Lib.hid (bThen HBX.out hb2)
      have HKD := Lib.hid hKD
      have hXr := HP.out.at_.lt
      have hown : ∀ y, (Value.slice A L.length c).ownBlock = some y → y < wr.heap.size := fun y hy => (HP.out.at_.posts.row.lt y hy).2
      have hzx := HBX.out.size
      have hKL : K.length = (tickD ⟨ke, kn, sA2, sc2, ks, qA2, qc2, kq, kh⟩).length := by rw [← hKD, List.length_map]
      have hK8 : K.length ≤ 8 := by rw [hKL]; exact tickD_eight HLM.out
      have hLL : L.length ≤ k * 8 := by
        have h1 := congrArg List.length HLD.out
        rw [List.length_map] at h1
        have h2 := ticksD_len (S := S.take k) fun x hx => HL.out x (List.mem_of_mem_take hx)
        rw [List.length_take] at h2
        omega
      have hSl := HM.out.sl
      dsimp only at hSl
      have hPC := post_c w2 X n' A c L (.slice none 0 0) k (by rw [HLEN.out]; exact hlt) pA pc K (HP.out.at_.later HB2.out)
        ((Sl.of_own _ hKO.row).moved fun b hb => ⟨⟨hb.2, by have := hb.1; omega, fun e => by have := hown b e; have := hb.1; omega⟩, rfl⟩)
        (fun q hq => (hKO.each q hq).moved fun b hb => ⟨⟨⟨by have := hb.1.1; omega, hb.1.2⟩, fun e => by have := hown b e; have := hb.1.1; omega⟩, rfl⟩)
        (by omega)
      rw [HPE.out] at hPC
      have HPC := Lib.hid hPC
      have HQ := Lib.hid (HP.out.later HB2.out)
      have HN1 := Lib.hid (show k + 1 ≤ S.length from hlt)
      have hkb : k + 1 ≤ 1099511627776 := by omega
      clear hKD hKO hb2 hXr hown hzx hKL hK8 hLL hSl hPC ce0 ce1 ce2 ce3 ce4 ce5 ce6 ce7 ce8 ce9
      go_wp2_with fail
      refine HPC.out.mono ?_
      rintro r w3 ⟨rfl, A', c', hp3⟩
      have HR3 := Lib.hid (HQ.out.trans hp3)
      have HD3 := Lib.hid (ntick_posts (who := p) HLD.out HKD.out)
      clear hp3
      go_wp2_with fail
      go_roundw
      case rel => exact ⟨k + 1, A', c', L ++ K.map (PostV.mk p), HN1.out, by go_num, HR3, Lib.hid (HD3.out.trans HTK.out.symm)⟩
      case measure => have := HN1.out; simp [intOf]; omega
    · obtain hk' : k = S.length := by omega
      subst hk'
      obtain ⟨me', ep', up', rd', t', sA', sc', S', uA', uc', U', mA', mc', M'⟩ := n'
      have HDD := Lib.hid HD.out
      have hxb := HP.out.at_.blk
      obtain ⟨x0, x1, x2, x3, x4, x5, x6, x7, x8, x9, xz⟩ := ten_cell hxb
      obtain ⟨r0, r1, r2, r3, r4, r5, r6, r7, r8, r9, rz⟩ := ten_cell HBR.out.r
      have F0 := tenF HBR.out.r 0
      have F1 := tenF HBR.out.r 1
      have F2 := tenF HBR.out.r 2
      have F3 := tenF HBR.out.r 3
      have F4 := tenF HBR.out.r 4
      have F5 := tenF HBR.out.r 5
      have F6 := tenF HBR.out.r 6
      have F7 := tenF HBR.out.r 7
      have F8 := tenF HBR.out.r 8
      have F9 := tenF HBR.out.r 9
      clear hxb
      go_wp2_with fail
      have hX1 := HW1.out.lt
      have hWA := HA.out.rz
      have hq := tickFin (n' := ⟨me', ep', up', rd', t', sA', sc', S', uA', uc', U', mA', mc', M'⟩) HBR.out HP.out hRX hX1 (HIN.out.moved fun b hb => ⟨⟨by have := hb.1; omega, hb.2⟩, rfl⟩)
      refine post_hide (fun H => H.heap[R]? = some (.cells #[.int .i64 me', .int .i64 ep', .int .i64 up', .bool rd', .string t', .slice sA' S'.length sc', .slice uA' U'.length uc', .slice mA' M'.length mc', .slice A L.length c, .slice none 0 0] 35 (0, 0)) ∧ NodeV.InS (fun b => w.heap.size ≤ b ∧ b < H.heap.size) H ⟨me', ep', up', rd', t', sA', sc', S', uA', uc', U', mA', mc', M'⟩ ∧ PostsOwn H w.heap.size A c L ∧ Below w.heap.size w H) hq ?_
      clear hq x0 x1 x2 x3 x4 x5 x6 x7 x8 x9 xz r0 r1 r2 r3 r4 r5 r6 r7 r8 r9 rz F0 F1 F2 F3 F4 F5 F6 F7 F8 F9
      rintro H ⟨j1, j2, j3, j4⟩
      obtain ⟨r0, r1, r2, r3, r4, r5, r6, r7, r8, r9, rz⟩ := ten_cell j1
      refine bodyPost_ret (v := .tuple #[.agg #[.int .i64 me', .int .i64 ep', .int .i64 up', .bool rd', .string t', .slice sA' S'.length sc', .slice uA' U'.length uc', .slice mA' M'.length mc', .slice A L.length c, .slice none 0 0], .int .i64 0]) (by simp [results, Tryd.results22, go_sem, r0, r1, r2, r3, r4, r5, r6, r7, r8, r9]) rfl ?_
      exact ⟨⟨me', ep', up', rd', t', sA', sc', S', uA', uc', U', mA', mc', M'⟩, A, c, L, rfl, HDD.out, j2, by have h1 := HLD.out; rwa [List.take_length] at h1, j3, j4⟩
end Go.Proofs.YtbmdepbmejnlkaaDoor
