/- A part of the proof of NodeUndoes. -/
import Derived.Test.YtacacoklddogmaaGreatDoorKGA
namespace Go.Proofs.YtacacoklddogmaaGreatDoor
set_option maxHeartbeats 4000000
open Go.ChangeShapes Go.WideShapes Go.ChangeAt Go.RowKit
set_option maxRecDepth 100000
theorem zv_ (w : World) (base X : Nat) (s : EdV) (pA : Option Addr) (pc : Nat) (ps : List PartD) (push : Bool) (hT : ∀ W, Below base w W → Tabs W) (h : EdAt 71 w base X s) (hop : OpIn (Off w X s) w pA ps) (hm : ps.length ≤ 1048576) (ht : ∀ p ∈ ps, p.text.size ≤ 1048576) (hl : s.n.M.length ≤ 1048576) :
 Calls Tryz.prog 52 #[.pointer (some ⟨X, 0, none⟩), .slice pA ps.length pc, .bool push] w (Goes 71 base X w s (shiftD push ps s.d)) := by
 have HMV : Hid (∀ (W : World) (a : Int), Tabs W → OpIn (· < W.heap.size) W pA ps → Calls Tryz.prog 99 #[.int .i64 a, .slice pA ps.length pc, .bool push] W fun e w' => ∃ er, e = .returned (.tuple #[.int .i64 (mvI push ps a), .int .i64 er]) ∧ Below W.heap.size W w') := h_ (fun W a hT hs => (zq_ W a push pA pc ps hT hs hm ht).mono fun e w' h => ⟨_, h.1, h.2⟩)
 have HT := h_ hT
 have HB := h_ h
 have HOP := h_ hop
 have hbw := h.base_le
 clear hT h hop hm ht
 obtain ⟨x0, x1, x2, x3, x4, x5, x6, x7, x8, x9, xz⟩ := f_ HB.out.busy.blk
 go_enter Tryz.func52, Tryz.ntmps52
 go_wp2_with fail
 refine (bo_ _ X).mono ?_
 rintro r w1 ⟨rfl, rfl⟩
 go_wp2_with fail
 go_loopw [20] (fun i wr => ∃ (k : Nat), k ≤ s.n.M.length ∧ i = .int .i64 k ∧ Hid (EdAt 71 wr base X (s.withM s.n.mA s.n.mc (mvK push ps s.n.M k))) ∧ Hid (Below base w wr) ∧ Hid (Stay w X s wr (s.withM s.n.mA s.n.mc (mvK push ps s.n.M k)))) (fun i _ => s.n.M.length - (intOf i).toNat)
 case atStart => exact ⟨0, Nat.zero_le _, rfl, h_ (by rw [gy_]; exact HB.out), h_ (Below.refl _ _), h_ (by rw [gy_]; exact Stay.refl w X s)⟩
 case round =>
  obtain ⟨k, hk, rfl, HR, HBW, HST⟩ := hrel
  (try clear x0 x1 x2 x3 x4 x5 x6 x7 x8 x9 xz)
  obtain ⟨x0, x1, x2, x3, x4, x5, x6, x7, x8, x9, xz⟩ := f_ HR.out.busy.blk
  have hML := sp_ push ps s.n.M k
  replace x7 : wr.cell? ⟨X, 7, none⟩ = some (.slice s.n.mA s.n.M.length s.n.mc) := by rw [← hML]; exact x7
  have HL := h_ hML
  by_cases hlt : k < s.n.M.length
  · obtain ⟨g, hg⟩ : ∃ g, s.n.mA = some ⟨g, 0, none⟩ := by
     obtain ⟨g, cap, hv, _, _⟩ := HB.out.mrow.form (by omega)
     exact ⟨g, by injection hv⟩
    have hr := HR.out.mrow
    have hrl := hr
    rw [hg] at x7
    rw [hg]
    have HG := h_ hg
    have hMk : (mvK push ps s.n.M k)[k]? = some s.n.M[k] := wf_ hlt
    have hcs : ∀ j u, (markCells s.n.M[k])[j]? = some u → wr.cell? ⟨g, k * 2 + j, none⟩ = some u := fun j u hu => by
     have hq : wr.ownsRow base 53 2 (.slice s.n.mA (mvK push ps s.n.M k).length s.n.mc) (mvK push ps s.n.M k).length ((mvK push ps s.n.M k).flatMap markCells) := hr
     rw [hg] at hq
     have hj : j < 2 := (List.getElem?_eq_some_iff.1 hu).1
     have hk2 : k < (mvK push ps s.n.M k).length := by omega
     rw [hq.cellAt (k * 2 + j) (by omega), ce_ markCells 2 bb_ _ k j hk2 hj]
     rw [List.getElem?_eq_getElem hk2] at hMk
     rw [Option.some.inj hMk]
     exact hu
    have c0 : wr.cell? ⟨g, k * 2, none⟩ = some (.int .i64 s.n.M[k].1) := hcs 0 _ rfl
    have c1 : wr.cell? ⟨g, k * 2 + 1, none⟩ = some (.int .i64 s.n.M[k].2) := hcs 1 _ rfl
    have hgl : base ≤ g ∧ g < wr.heap.size := hr.lt g (by show (Value.slice s.n.mA _ _).ownBlock = some g; rw [hg]; rfl)
    have HSET := h_ (fun (W : World) (hW : Below wr.heap.size wr W) => EdAt.setMark (k := k) cn_ (HR.out.later hW) (by rw [show (s.withM s.n.mA s.n.mc (mvK push ps s.n.M k)).n.M = mvK push ps s.n.M k from rfl, HL.out]; exact hlt) HG.out (mvI push ps s.n.M[k].1) (mvI push ps s.n.M[k].2))
    have HSU := h_ (qp_ (push := push) (ps := ps) hlt)
    have HLT := h_ hlt
    have hki : (k : Int) < (s.n.M.length : Int) := by omega
    have HOK := h_ (HOP.out.moved fun b hb => HST.out b hb)
    clear hcs hMk hr hrl hML hg
    generalize s.n.M[k] = m at *
    obtain ⟨m1, m2⟩ := m
    dsimp only at c0 c1
    have HSU := h_ (show (mvK push ps s.n.M k).set k (mvI push ps m1, mvI push ps m2) = mvK push ps s.n.M (k + 1) from HSU.out)
    go_wp2_with fail
    obtain ⟨WX, hWX⟩ : ∃ WX, WX = wr.alloc (.cells #[.int .i64 m1, .int .i64 m2] 53) := ⟨_, rfl⟩
    have hbx : Below wr.heap.size wr WX := by rw [hWX]; exact bA_
    have hF : WX.heap[wr.heap.size]? = some (.cells #[.int .i64 m1, .int .i64 m2] 53 (0, 0)) := by rw [hWX]; exact World.alloc_heap_new _ _
    obtain ⟨B, hB⟩ : ∃ B, B = wr.heap.size := ⟨_, rfl⟩
    rw [← hB] at hF
    rw [← hWX, ← hB]
    have hBz : B < WX.heap.size := (Array.getElem?_eq_some_iff.1 hF).1
    have hgB : ¬ g = B := by omega
    have hBg : ¬ B = g := by omega
    have hbw2 := HBW.out.size
    have hwb : base ≤ wr.heap.size := by omega
    refine (HMV.out WX _ (HT.out _ (HBW.out.trans (hbx.mono hwb))) ((HOK.out.moved fun b hb => ⟨hb.lt, rfl⟩).later hbx)).mono ?_
    rintro r w2 ⟨er, rfl, hb2⟩
    have HB2 := h_ (bThen hbx hb2)
    have hF2 := (hb2.block B hBz).trans hF
    obtain ⟨b0, b1, _, _, bz⟩ := ys_ hF2
    clear hWX hB hF hbx hb2 c0 c1 x0 x1 x2 x3 x4 x5 x6 x7 x8 x9 xz
    go_wp2_with fail
    refine (HMV.out w2 _ (HT.out _ (HBW.out.trans (HB2.out.mono hwb))) ((HOK.out.moved fun b hb => ⟨hb.lt, rfl⟩).later HB2.out)).mono ?_
    rintro r w3 ⟨er2, rfl, hb3⟩
    have HB3 := h_ (bThen HB2.out hb3)
    obtain ⟨p1, p2, p3, p4⟩ := HSET.out w3 HB3.out
    have hq := (HR.out.later HB3.out).mrow
    have hq : w3.ownsRow base 53 2 (.slice s.n.mA (mvK push ps s.n.M k).length s.n.mc) (mvK push ps s.n.M k).length ((mvK push ps s.n.M k).flatMap markCells) := hq
    rw [HG.out] at hq
    have hlen : ((mvK push ps s.n.M k).flatMap markCells).length = (mvK push ps s.n.M k).length * 2 := hq.1
    have hkl : k < (mvK push ps s.n.M k).length := by rw [HL.out]; exact HLT.out
    have e0 : ∃ v, w3.cell? ⟨g, k * 2, none⟩ = some v := ⟨_, by rw [hq.cellAt (k * 2) (by omega)]; exact List.getElem?_eq_getElem (by omega)⟩
    have e1 : ∃ v, w3.cell? ⟨g, k * 2 + 1, none⟩ = some v := ⟨_, by rw [hq.cellAt (k * 2 + 1) (by omega)]; exact List.getElem?_eq_getElem (by omega)⟩
    obtain ⟨v0, e0⟩ := e0
    obtain ⟨v1, e1⟩ := e1
    have fr := hq.frozenAt
    have f0 := fr (k * 2)
    have f1 := fr (k * 2 + 1)
    obtain ⟨x0, x1, x2, x3, x4, x5, x6, x7, x8, x9, xz⟩ := f_ (HR.out.later HB3.out).busy.blk
    replace x7 : w3.cell? ⟨X, 7, none⟩ = some (.slice (some ⟨g, 0, none⟩) s.n.M.length s.n.mc) := by rw [← HL.out, ← HG.out]; exact x7
    have HP1 := h_ (show EdAt 71 ((w3.setCell ⟨g, k * 2, none⟩ (.int .i64 (mvI push ps m1))).setCell ⟨g, k * 2 + 1, none⟩ (.int .i64 (mvI push ps m2))) base X (s.withM s.n.mA s.n.mc ((mvK push ps s.n.M k).set k (mvI push ps m1, mvI push ps m2))) from p1)
    have HP3 := h_ p3
    have HPS := h_ (show Stay w X s ((w3.setCell ⟨g, k * 2, none⟩ (.int .i64 (mvI push ps m1))).setCell ⟨g, k * 2 + 1, none⟩ (.int .i64 (mvI push ps m2))) (s.withM s.n.mA s.n.mc ((mvK push ps s.n.M k).set k (mvI push ps m1, mvI push ps m2))) from HST.out.trans ((Stay.of_below HB3.out).trans p4))
    have HPB := h_ ((HBW.out.trans (HB3.out.mono hwb)).trans (p2.below p3 (by have := HB3.out.size; omega)))
    clear p1 p2 p3 p4 hq hlen hkl fr hb3 b0 b1 bz hF2
    go_wp2_with fail
    rw [HSU.out, HG.out] at HP1 HPS
    go_roundw
    case rel => exact ⟨k + 1, by have := HLT.out; omega, by go_num, HP1, HPB, HPS⟩
    case measure => have := HLT.out; simp [intOf]; omega
  · obtain rfl : k = s.n.M.length := by omega
    rw [qo_] at HR HST
    go_wp2_with fail
    exact bodyPost_end (results_none rfl _ _ _) rfl ⟨rfl, _, HR.out, rfl, HBW.out, HST.out⟩
theorem wv_ (w : World) (base X : Nat) (s : EdV) (pA : Option Addr) (pc : Nat) (ps : List PartD) (push : Bool) (hT : ∀ W, Below base w W → Tabs W) (h : EdAt 35 w base X s) (hop : OpIn (Off w X s) w pA ps) (hm : ps.length ≤ 1048576) (ht : ∀ p ∈ ps, p.text.size ≤ 1048576) (hl : s.n.M.length ≤ 1048576) :
 Calls Tryz.prog 65 #[.pointer (some ⟨X, 0, none⟩), .slice pA ps.length pc, .bool push] w (Goes 35 base X w s (shiftD push ps s.d)) := by
 have HMV : Hid (∀ (W : World) (a : Int), Tabs W → OpIn (· < W.heap.size) W pA ps → Calls Tryz.prog 108 #[.int .i64 a, .slice pA ps.length pc, .bool push] W fun e w' => ∃ er, e = .returned (.tuple #[.int .i64 (mvI push ps a), .int .i64 er]) ∧ Below W.heap.size W w') := h_ (fun W a hT hs => (yw_ W a push pA pc ps hT hs hm ht).mono fun e w' h => ⟨_, h.1, h.2⟩)
 have HT := h_ hT
 have HB := h_ h
 have HOP := h_ hop
 have hbw := h.base_le
 clear hT h hop hm ht
 obtain ⟨x0, x1, x2, x3, x4, x5, x6, x7, x8, x9, xz⟩ := f_ HB.out.busy.blk
 go_enter Tryz.func65, Tryz.ntmps65
 go_wp2_with fail
 go_loopw [6] (fun i wr => ∃ (k : Nat), k ≤ s.n.M.length ∧ i = .int .i64 k ∧ Hid (EdAt 35 wr base X (s.withM s.n.mA s.n.mc (mvK push ps s.n.M k))) ∧ Hid (Below base w wr) ∧ Hid (Stay w X s wr (s.withM s.n.mA s.n.mc (mvK push ps s.n.M k)))) (fun i _ => s.n.M.length - (intOf i).toNat)
 case atStart => exact ⟨0, Nat.zero_le _, rfl, h_ (by rw [gy_]; exact HB.out), h_ (Below.refl _ _), h_ (by rw [gy_]; exact Stay.refl w X s)⟩
 case round =>
  obtain ⟨k, hk, rfl, HR, HBW, HST⟩ := hrel
  (try clear x0 x1 x2 x3 x4 x5 x6 x7 x8 x9 xz)
  obtain ⟨x0, x1, x2, x3, x4, x5, x6, x7, x8, x9, xz⟩ := f_ HR.out.busy.blk
  have hML := sp_ push ps s.n.M k
  replace x7 : wr.cell? ⟨X, 7, none⟩ = some (.slice s.n.mA s.n.M.length s.n.mc) := by rw [← hML]; exact x7
  have HL := h_ hML
  by_cases hlt : k < s.n.M.length
  · obtain ⟨g, hg⟩ : ∃ g, s.n.mA = some ⟨g, 0, none⟩ := by
     obtain ⟨g, cap, hv, _, _⟩ := HB.out.mrow.form (by omega)
     exact ⟨g, by injection hv⟩
    have hr := HR.out.mrow
    have hrl := hr
    rw [hg] at x7
    rw [hg]
    have HG := h_ hg
    have hMk : (mvK push ps s.n.M k)[k]? = some s.n.M[k] := wf_ hlt
    have hcs : ∀ j u, (markCells s.n.M[k])[j]? = some u → wr.cell? ⟨g, k * 2 + j, none⟩ = some u := fun j u hu => by
     have hq : wr.ownsRow base 53 2 (.slice s.n.mA (mvK push ps s.n.M k).length s.n.mc) (mvK push ps s.n.M k).length ((mvK push ps s.n.M k).flatMap markCells) := hr
     rw [hg] at hq
     have hj : j < 2 := (List.getElem?_eq_some_iff.1 hu).1
     have hk2 : k < (mvK push ps s.n.M k).length := by omega
     rw [hq.cellAt (k * 2 + j) (by omega), ce_ markCells 2 bb_ _ k j hk2 hj]
     rw [List.getElem?_eq_getElem hk2] at hMk
     rw [Option.some.inj hMk]
     exact hu
    have c0 : wr.cell? ⟨g, k * 2, none⟩ = some (.int .i64 s.n.M[k].1) := hcs 0 _ rfl
    have c1 : wr.cell? ⟨g, k * 2 + 1, none⟩ = some (.int .i64 s.n.M[k].2) := hcs 1 _ rfl
    have hgl : base ≤ g ∧ g < wr.heap.size := hr.lt g (by show (Value.slice s.n.mA _ _).ownBlock = some g; rw [hg]; rfl)
    have HSET := h_ (fun (W : World) (hW : Below wr.heap.size wr W) => EdAt.setMark (k := k) cm_ (HR.out.later hW) (by rw [show (s.withM s.n.mA s.n.mc (mvK push ps s.n.M k)).n.M = mvK push ps s.n.M k from rfl, HL.out]; exact hlt) HG.out (mvI push ps s.n.M[k].1) (mvI push ps s.n.M[k].2))
    have HSU := h_ (qp_ (push := push) (ps := ps) hlt)
    have HLT := h_ hlt
    have hki : (k : Int) < (s.n.M.length : Int) := by omega
    have HOK := h_ (HOP.out.moved fun b hb => HST.out b hb)
    clear hcs hMk hr hrl hML hg
    generalize s.n.M[k] = m at *
    obtain ⟨m1, m2⟩ := m
    dsimp only at c0 c1
    have HSU := h_ (show (mvK push ps s.n.M k).set k (mvI push ps m1, mvI push ps m2) = mvK push ps s.n.M (k + 1) from HSU.out)
    go_wp2_with fail
    have hbw2 := HBW.out.size
    have hwb : base ≤ wr.heap.size := by omega
    refine (HMV.out wr _ (HT.out _ HBW.out) (HOK.out.moved fun b hb => ⟨hb.lt, rfl⟩)).mono ?_
    rintro r w2 ⟨er, rfl, hb2⟩
    have HB2 := h_ hb2
    have b1 := (World.cell?_of_block (a := ⟨g, k * 2 + 1, none⟩) (hb2.block g hgl.2)).trans c1
    have b7 := (World.cell?_of_block (a := ⟨X, 7, none⟩) (hb2.block X xz)).trans x7
    clear hb2 c0 c1 x0 x1 x2 x3 x4 x5 x6 x7 x8 x9 xz
    go_wp2_with fail
    refine (HMV.out w2 _ (HT.out _ (HBW.out.trans (HB2.out.mono hwb))) ((HOK.out.moved fun b hb => ⟨hb.lt, rfl⟩).later HB2.out)).mono ?_
    rintro r w3 ⟨er2, rfl, hb3⟩
    have HB3 := h_ (bThen HB2.out hb3)
    obtain ⟨p1, p2, p3, p4⟩ := HSET.out w3 HB3.out
    have hq := (HR.out.later HB3.out).mrow
    have hq : w3.ownsRow base 53 2 (.slice s.n.mA (mvK push ps s.n.M k).length s.n.mc) (mvK push ps s.n.M k).length ((mvK push ps s.n.M k).flatMap markCells) := hq
    rw [HG.out] at hq
    have hlen : ((mvK push ps s.n.M k).flatMap markCells).length = (mvK push ps s.n.M k).length * 2 := hq.1
    have hkl : k < (mvK push ps s.n.M k).length := by rw [HL.out]; exact HLT.out
    have e0 : ∃ v, w3.cell? ⟨g, k * 2, none⟩ = some v := ⟨_, by rw [hq.cellAt (k * 2) (by omega)]; exact List.getElem?_eq_getElem (by omega)⟩
    have e1 : ∃ v, w3.cell? ⟨g, k * 2 + 1, none⟩ = some v := ⟨_, by rw [hq.cellAt (k * 2 + 1) (by omega)]; exact List.getElem?_eq_getElem (by omega)⟩
    obtain ⟨v0, e0⟩ := e0
    obtain ⟨v1, e1⟩ := e1
    have fr := hq.frozenAt
    have f0 := fr (k * 2)
    have f1 := fr (k * 2 + 1)
    obtain ⟨x0, x1, x2, x3, x4, x5, x6, x7, x8, x9, xz⟩ := f_ (HR.out.later HB3.out).busy.blk
    replace x7 : w3.cell? ⟨X, 7, none⟩ = some (.slice (some ⟨g, 0, none⟩) s.n.M.length s.n.mc) := by rw [← HL.out, ← HG.out]; exact x7
    have HP1 := h_ (show EdAt 35 ((w3.setCell ⟨g, k * 2, none⟩ (.int .i64 (mvI push ps m1))).setCell ⟨g, k * 2 + 1, none⟩ (.int .i64 (mvI push ps m2))) base X (s.withM s.n.mA s.n.mc ((mvK push ps s.n.M k).set k (mvI push ps m1, mvI push ps m2))) from p1)
    have HP3 := h_ p3
    have HPS := h_ (show Stay w X s ((w3.setCell ⟨g, k * 2, none⟩ (.int .i64 (mvI push ps m1))).setCell ⟨g, k * 2 + 1, none⟩ (.int .i64 (mvI push ps m2))) (s.withM s.n.mA s.n.mc ((mvK push ps s.n.M k).set k (mvI push ps m1, mvI push ps m2))) from HST.out.trans ((Stay.of_below HB3.out).trans p4))
    have HPB := h_ ((HBW.out.trans (HB3.out.mono hwb)).trans (p2.below p3 (by have := HB3.out.size; omega)))
    clear p1 p2 p3 p4 hq hlen hkl fr hb3 b1 b7
    go_wp2_with fail
    rw [HSU.out, HG.out] at HP1 HPS
    go_roundw
    case rel => exact ⟨k + 1, by have := HLT.out; omega, by go_num, HP1, HPB, HPS⟩
    case measure => have := HLT.out; simp [intOf]; omega
  · obtain rfl : k = s.n.M.length := by omega
    rw [qo_] at HR HST
    go_wp2_with fail
    exact bodyPost_end (results_none rfl _ _ _) rfl ⟨rfl, _, HR.out, rfl, HBW.out, HST.out⟩
end Go.Proofs.YtacacoklddogmaaGreatDoor
