/- A part of the proof of NodeUndoes. -/
import Derived.Test.YtacacoklddogmaaGreatDoorKEB
namespace Go.Proofs.YtacacoklddogmaaGreatDoor
set_option maxHeartbeats 4000000
open Go.ChangeShapes Go.WideShapes Go.ChangeAt Go.RowKit
set_option maxRecDepth 100000
abbrev RecV.key (r : RecV) : Int × List PartD := (r.ep, r.o.ps)
theorem op_ (w : World) (A A' : Option Addr) (c c' n : Nat) (L L' : List RecV) (hs : RecsIn w A L) (hs' : RecsIn w A' L') (hp : L'.map RecV.key = L.map RecV.key) (hn : L.length = n) (hm : n ≤ 8388608) (hl : ∀ r ∈ L, r.o.ps.length ≤ 1048576) :
 Calls Tryz.prog 24 #[.slice A n c, .slice A' n c'] w (R_ w (.bool true)) := by
 have hn' : L'.length = n := by rw [← hn, ← List.length_map (f := RecV.key), hp, List.length_map]
 have HS := h_ hs
 have HS' := h_ hs'
 have HL := h_ hl
 have HN := h_ hn
 have HN' := h_ hn'
 have HE := h_ (show ∀ k (h : k < L.length) (h' : k < L'.length), L'[k].key = L[k].key from fun k h h' => by
  have := congrArg (fun l => l[k]?) hp
  simpa [h, h'] using this)
 clear hs hs' hl hn hn' hp
 go_enter Tryz.func24, Tryz.ntmps24
 go_wp2_with fail
 go_loopw [4, 5] (fun r i wr => ∃ (k : Nat), k ≤ n ∧ i = .int .i64 k ∧ r = .bool false ∧ Below w.heap.size w wr) (fun _ i _ => n - (intOf i).toNat)
 case atStart => exact ⟨0, Nat.zero_le _, rfl, rfl, Below.refl _ _⟩
 case round =>
  obtain ⟨k, hk, rfl, rfl, hbw⟩ := hrel
  by_cases hlt : k < n
  · obtain ⟨b, o, rfl, hbs, g0, g1, hop⟩ := (HS.out.later hbw).at_ (k := k) (by rw [HN.out]; exact hlt)
    obtain ⟨b', o', rfl, hbs', g0', g1', hop'⟩ := (HS'.out.later hbw).at_ (k := k) (by rw [HN'.out]; exact hlt)
    have he := HE.out k (by rw [HN.out]; exact hlt) (by rw [HN'.out]; exact hlt)
    have hlen := HL.out _ (List.getElem_mem (show k < L.length by rw [HN.out]; exact hlt))
    generalize L[k]'(by rw [HN.out]; exact hlt) = q at *
    generalize L'[k]'(by rw [HN'.out]; exact hlt) = q' at *
    obtain ⟨qe, qA, qc, qp⟩ := q
    obtain ⟨qe', qA', qc', qp'⟩ := q'
    unfold RecV.key at he
    dsimp only at *
    injection he with he1 he2
    subst he1
    subst he2
    have HC := h_ (fun W h h' => kp_ W qA qA' qc qc' qp' h h' hlen)
    have HP := h_ hop
    have HP' := h_ hop'
    clear hop hop' hlen
    go_wp2_with (refine r_ ?_)
    refine ⟨?_⟩
    go_region_held3 (fun w' => w'.cell? ⟨b, o + k * 2, none⟩ = some (.int .i64 qe') ∧ w'.cell? ⟨b', o' + k * 2, none⟩ = some (.int .i64 qe') ∧ w'.cell? ⟨b, o + k * 2 + 1, none⟩ = some (.slice qA qp'.length qc) ∧ w'.cell? ⟨b', o' + k * 2 + 1, none⟩ = some (.slice qA' qp'.length qc'))
     (go_keep)
     ((first
       | (go_at_call 67; refine (HC.out _ ?_ ?_).mono ?_; exact HP.out; exact HP'.out; rintro e w2 ⟨rfl, hb2⟩; obtain ⟨⟨d2, os2⟩, rfl⟩ := a_ hb2)))
    all_goals
     go_wp2_with fail
     go_roundw
     case rel => exact ⟨k + 1, by omega, by go_num, rfl, bf_⟩
     case measure => simp [intOf]; omega
  · obtain rfl : k = n := by omega
    go_wp2_with fail
    go_ret
    exact ⟨rfl, bf_⟩
structure TurnPair (w : World) (vs us : Array Value) (W : World) : Prop where
 a : W.heap[w.heap.size]? = some (.cells vs 35 (0, 0))
 b : W.heap[w.heap.size + 1]? = some (.cells us 35 (0, 0))
 k : Below w.heap.size w W
 z : w.heap.size + 1 < W.heap.size
theorem TurnPair.new (w : World) (vs us : Array Value) : TurnPair w vs us ((w.alloc (.cells vs 35)).alloc (.cells us 35)) :=
 ⟨(q_ _ _ _ (by simp)).trans (World.alloc_heap_new _ _), by have := World.alloc_heap_new (w.alloc (.cells vs 35)) (.cells us 35); rwa [World.size_alloc] at this, bAlloc bA_ _, by simp⟩
theorem TurnPair.later {w W W' : World} {vs us : Array Value} (k : TurnPair w vs us W) (hb : Below W.heap.size W W') : TurnPair w vs us W' := by
 have h2 := k.z
 have h3 := hb.size
 exact ⟨(hb.block _ (by omega)).trans k.a, (hb.block _ h2).trans k.b, bThen k.k hb, by omega⟩
abbrev turn2 (n : NodeV) (A : Option Addr) (k c : Nat) (B : Option Addr) (l d : Nat) : Value := .agg #[.int .i64 n.me, .int .i64 n.ep, .int .i64 n.up, .bool n.rd, .string n.t, .slice n.sA n.S.length n.sc, .slice n.uA n.U.length n.uc, .slice n.mA n.M.length n.mc, .slice A k c, .slice B l d]
theorem oq_ (w : World) (n n' : NodeV) (A A' : Option Addr) (c c' m : Nat) (L L' : List PostV) (hi : n.In w) (hi' : n'.In w) (hd : n'.d = n.d) (hm : n.Mid) (hs : PostsIn w A L) (hs' : PostsIn w A' L') (hp : L'.map PostV.d = L.map PostV.d) (hn : L.length = m) (hq : m ≤ 1099511627776) (hl : ∀ x ∈ L, x.p.f.o.ps.length ≤ 1048576) (B B' : Option Addr) (d d' k2 : Nat) (HRC : Hid (∀ W, Below w.heap.size w W → Calls Tryz.prog 24 #[.slice B k2 d, .slice B' k2 d'] W (R_ W (.bool true)))) :
 Calls Tryz.prog 10 #[turn2 n A m c B k2 d, turn2 n' A' m c' B' k2 d'] w (R_ w (.bool true)) := by
 have hn' : L'.length = m := by rw [← hn, ← List.length_map (f := PostV.d), hp, List.length_map]
 have HS := h_ hs
 have HS' := h_ hs'
 have HL := h_ hl
 have HNN := h_ hn
 have HNN' := h_ hn'
 have HE := h_ (show ∀ k (h : k < L.length) (h' : k < L'.length), L'[k].d = L[k].d from fun k h h' => by
  have := congrArg (fun l => l[k]?) hp
  simpa [h, h'] using this)
 have HN := h_ (fun W g g' => ly_ W n n' g g' hd hm)
 have HI := h_ hi
 have HI' := h_ hi'
 clear hi hi' hd hm hs hs' hl hn hn' hp
 obtain ⟨a0, a1, a2, a3, a4, a5, a6, aS, a7, a8, aU, a9, a10, aM⟩ := n
 obtain ⟨b0, b1, b2, b3, b4, b5, b6, bS, b7, b8, bU, b9, b10, bM⟩ := n'
 have HA := h_ (TurnPair.new w #[.int .i64 a0, .int .i64 a1, .int .i64 a2, .bool a3, .string a4, .slice a5 aS.length a6, .slice a7 aU.length a8, .slice a9 aM.length a10, .slice A m c, .slice B k2 d] #[.int .i64 b0, .int .i64 b1, .int .i64 b2, .bool b3, .string b4, .slice b5 bS.length b6, .slice b7 bU.length b8, .slice b9 bM.length b10, .slice A' m c', .slice B' k2 d'])
 obtain ⟨WA, hWA⟩ : ∃ WA, WA = ((w.alloc (.cells #[.int .i64 a0, .int .i64 a1, .int .i64 a2, .bool a3, .string a4, .slice a5 aS.length a6, .slice a7 aU.length a8, .slice a9 aM.length a10, .slice A m c, .slice B k2 d] 35)).alloc (.cells #[.int .i64 b0, .int .i64 b1, .int .i64 b2, .bool b3, .string b4, .slice b5 bS.length b6, .slice b7 bU.length b8, .slice b9 bM.length b10, .slice A' m c', .slice B' k2 d'] 35)) := ⟨_, rfl⟩
 rw [← hWA] at HA
 have HW := h_ hWA.symm
 clear hWA
 go_enter Tryz.func10, Tryz.ntmps10
 go_wp2_with fail
 rw [HW.out]
 refine (HN.out _ (HI.out.later HA.out.k) (HI'.out.later HA.out.k)).mono ?_
 rintro r w1 ⟨rfl, hb1⟩
 have HB := h_ (HA.out.later hb1)
 clear hb1
 obtain ⟨_, _, _, _, _, _, _, _, u8, u9, uz⟩ := f_ HB.out.a
 obtain ⟨_, _, _, _, _, _, _, _, v8, v9, vz⟩ := f_ HB.out.b
 go_wp2_with fail
 refine (HRC.out _ HB.out.k).mono ?_
 rintro r w2 ⟨rfl, hb2⟩
 have HC := h_ (HB.out.later hb2)
 clear hb2 u8 u9 uz v8 v9 vz
 obtain ⟨_, _, _, _, _, _, _, _, u8, u9, uz⟩ := f_ HC.out.a
 obtain ⟨_, _, _, _, _, _, _, _, v8, v9, vz⟩ := f_ HC.out.b
 go_wp2_with fail
 go_loopw [5] (fun i wr => ∃ (k : Nat), k ≤ m ∧ i = .int .i64 k ∧ Hid (TurnPair w #[.int .i64 a0, .int .i64 a1, .int .i64 a2, .bool a3, .string a4, .slice a5 aS.length a6, .slice a7 aU.length a8, .slice a9 aM.length a10, .slice A m c, .slice B k2 d] #[.int .i64 b0, .int .i64 b1, .int .i64 b2, .bool b3, .string b4, .slice b5 bS.length b6, .slice b7 bU.length b8, .slice b9 bM.length b10, .slice A' m c', .slice B' k2 d'] wr)) (fun i _ => m - (intOf i).toNat)
 case atStart => exact ⟨0, Nat.zero_le _, rfl, HC⟩
 case round =>
  obtain ⟨k, hk, rfl, HR⟩ := hrel
  clear u8 u9 uz v8 v9 vz
  obtain ⟨_, _, _, _, _, _, _, _, u8, u9, uz⟩ := f_ HR.out.a
  obtain ⟨_, _, _, _, _, _, _, _, v8, v9, vz⟩ := f_ HR.out.b
  by_cases hlt : k < m
  · obtain ⟨b, o, rfl, hbs, g0, g1, g2, g3, g4, g5, g6, g7, g8, g9, hop⟩ := (HS.out.later HR.out.k).at_ (k := k) (by rw [HNN.out]; exact hlt)
    obtain ⟨b', o', rfl, hbs', e0, e1, e2, e3, e4, e5, e6, e7, e8, e9, hop'⟩ := (HS'.out.later HR.out.k).at_ (k := k) (by rw [HNN'.out]; exact hlt)
    have he := HE.out k (by rw [HNN.out]; exact hlt) (by rw [HNN'.out]; exact hlt)
    have hlen := HL.out _ (List.getElem_mem (show k < L.length by rw [HNN.out]; exact hlt))
    generalize L[k]'(by rw [HNN.out]; exact hlt) = q at *
    generalize L'[k]'(by rw [HNN'.out]; exact hlt) = q' at *
    obtain ⟨who, ⟨ep, nu, bb, ak, ⟨fk, fh, fe, ⟨qA, qc, qp⟩, fs⟩⟩⟩ := q
    obtain ⟨who', ⟨ep', nu', bb', ak', ⟨fk', fh', fe', ⟨qA', qc', qp'⟩, fs'⟩⟩⟩ := q'
    dsimp only at *
    simp only [PostV.d, PostD.mk.injEq, PacketV.d, FrameV.d, PacketD.mk.injEq, FrameD.mk.injEq] at he
    obtain ⟨rfl, rfl, rfl, rfl, rfl, rfl, rfl, rfl, rfl, rfl⟩ := he
    have HCC := h_ (fun W h h' => ra_ W ep' nu' bb' ak' fk' fh' fe' qA qA' qc qc' qp' fs' h h' hlen)
    have HP := h_ hop
    have HP' := h_ hop'
    clear hop hop' hlen
    clear u9 v9 HI HI' HN HA HB HC HW HL HE HS HS'
    go_wp2_with fail
    go_region_held3 (fun w' => w'.cell? ⟨w.heap.size, 8, none⟩ = some (.slice (some ⟨b, o, none⟩) m c) ∧ w'.cell? ⟨w.heap.size + 1, 8, none⟩ = some (.slice (some ⟨b', o', none⟩) m c') ∧ w'.cell? ⟨b, o + k * 10, none⟩ = some (.int .i64 who') ∧ w'.cell? ⟨b, o + k * 10 + 1, none⟩ = some (.int .i64 ep') ∧ w'.cell? ⟨b, o + k * 10 + 2, none⟩ = some (.int .i64 nu') ∧ w'.cell? ⟨b, o + k * 10 + 3, none⟩ = some (.bool bb') ∧ w'.cell? ⟨b, o + k * 10 + 4, none⟩ = some (.int .i64 ak') ∧ w'.cell? ⟨b, o + k * 10 + 5, none⟩ = some (.int .i64 fk') ∧ w'.cell? ⟨b, o + k * 10 + 6, none⟩ = some (.int .i64 fh') ∧ w'.cell? ⟨b, o + k * 10 + 7, none⟩ = some (.int .i64 fe') ∧ w'.cell? ⟨b, o + k * 10 + 8, none⟩ = some (.slice qA qp'.length qc) ∧ w'.cell? ⟨b, o + k * 10 + 9, none⟩ = some (.string fs') ∧ w'.cell? ⟨b', o' + k * 10, none⟩ = some (.int .i64 who') ∧ w'.cell? ⟨b', o' + k * 10 + 1, none⟩ = some (.int .i64 ep') ∧ w'.cell? ⟨b', o' + k * 10 + 2, none⟩ = some (.int .i64 nu') ∧ w'.cell? ⟨b', o' + k * 10 + 3, none⟩ = some (.bool bb') ∧ w'.cell? ⟨b', o' + k * 10 + 4, none⟩ = some (.int .i64 ak') ∧ w'.cell? ⟨b', o' + k * 10 + 5, none⟩ = some (.int .i64 fk') ∧ w'.cell? ⟨b', o' + k * 10 + 6, none⟩ = some (.int .i64 fh') ∧ w'.cell? ⟨b', o' + k * 10 + 7, none⟩ = some (.int .i64 fe') ∧ w'.cell? ⟨b', o' + k * 10 + 8, none⟩ = some (.slice qA' qp'.length qc') ∧ w'.cell? ⟨b', o' + k * 10 + 9, none⟩ = some (.string fs'))
     (go_keep)
     ((go_at_call 25; refine (HCC.out _ (Sl.later HP.out bz_) (Sl.later HP'.out bz_)).mono ?_; rintro e w2 ⟨rfl, hb2⟩; obtain ⟨⟨d2, os2⟩, rfl⟩ := a_ hb2))
    all_goals (
     go_wp2_with fail
     go_roundw
     case rel => exact ⟨k + 1, by omega, by go_num, h_ (HR.out.later bz_)⟩
     case measure => simp [intOf]; omega)
  · obtain rfl : k = m := by omega
    go_wp2_with fail
    go_ret
    exact ⟨rfl, HR.out.k⟩
end Go.Proofs.YtacacoklddogmaaGreatDoor
