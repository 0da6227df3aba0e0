/-
  Contract of the reference's PacketBytes.
-/
import Derived.Test.YtiooimnlkcpnnaaDoorRows
import Derived.Test.YtiooimnlkcpnnaaDoorSends
namespace Go.Proofs.YtiooimnlkcpnnaaDoor
open Go.ChangeShapes Go.WideShapes Go.ChangeAt Go.RowKit
set_option maxRecDepth 100000
theorem joined_four (W : World) (A A1 A2 A3 A4 : Option Addr) (c c1 c2 c3 c4 n1 n2 n3 n4 : Nat) (b1 b2 b3 b4 : List UInt8) (t : TypeId) (hA : A = some ⟨W.heap.size, 0, none⟩) (e1 : n1 = b1.length) (e2 : n2 = b2.length) (e3 : n3 = b3.length) (e4 : n4 = b4.length)
    (h1 : Sl (· < W.heap.size) W 1 A1 n1 (b1.map byteV)) (h2 : Sl (· < W.heap.size) W 1 A2 n2 (b2.map byteV)) (h3 : Sl (· < W.heap.size) W 1 A3 n3 (b3.map byteV)) (h4 : Sl (· < W.heap.size) W 1 A4 n4 (b4.map byteV)) (hf : b1.length + b2.length + b3.length + b4.length ≤ 140737488351232) :
    Calls Tryd.prog 90 #[.slice A 4 c] (W.alloc (.cells #[.slice A1 n1 c1, .slice A2 n2 c2, .slice A3 n3 c3, .slice A4 n4 c4] t)) (RetBytes (W.alloc (.cells #[.slice A1 n1 c1, .slice A2 n2 c2, .slice A3 n3 c3, .slice A4 n4 c4] t)) (b1 ++ b2 ++ b3 ++ b4)) := by
  subst e1 e2 e3 e4
  exact joined_list W A 4 c [⟨A1, c1, b1⟩, ⟨A2, c2, b2⟩, ⟨A3, c3, b3⟩, ⟨A4, c4, b4⟩] t _ _ hA rfl rfl (by simp) (by
    intro x hx
    simp only [List.mem_cons, List.not_mem_nil, or_false] at hx
    rcases hx with rfl | rfl | rfl | rfl
    · exact h1
    · exact h2
    · exact h3
    · exact h4) (by decide) (by simp only [List.length_append]; omega)
theorem post_hide {K : Exit → Act → World → Prop} {e : Exit} {a : Act} {W : World} (Q : World → Prop) (hQ : Q W) (h : ∀ W', Q W' → K e a W') : K e a W := h W hQ
theorem PacketBytes_no (w : World) (ep nu : Int) (b : Bool) (ak k h e : Int) (A : Option Addr) (c : Nat) (ps : List PartD) (s : ByteArray) (hT : Tabs w) (hs : OpIn (· < w.heap.size) w A ps) (hm : ps.length ≤ 1048576) (ht : ∀ p ∈ ps, p.text.size ≤ 1048576) (hst : s.size ≤ 1048576) (hf : packetFault ⟨ep, nu, b, ak, ⟨k, h, e, ps, s⟩⟩ ≠ 0) :
    Calls Tryd.prog 35 #[packetV ep nu b ak k h e A ps.length c s] w (RetBytesE w [] (packetFault ⟨ep, nu, b, ak, ⟨k, h, e, ps, s⟩⟩)) := by
  have H := Lib.hid (fun W hT hs => PacketFault_c W ep nu b ak k h e A c ps s hT hs hm ht hst)
  have hb0 : (packetFault ⟨ep, nu, b, ak, ⟨k, h, e, ps, s⟩⟩ != 0) = true := by simpa using hf
  generalize packetFault ⟨ep, nu, b, ak, ⟨k, h, e, ps, s⟩⟩ = x at *
  clear hf ht
  go_enter Tryd.func35, Tryd.ntmps35
  go_wp2_with fail
  refine (H.out _ (hT.later (by repeat (first | exact Below.refl _ _ | apply bGrow | apply bAlloc | apply Below.drew | apply bDrewN | apply bIter))) (Sl.later hs (by repeat (first | exact Below.refl _ _ | apply bGrow | apply bAlloc | apply Below.drew | apply bDrewN | apply bIter)))).mono ?_
  rintro er w1 ⟨rfl, hb1⟩
  go_wp2_with fail
  go_ret2
  exact ⟨none, 0, rfl, World.ownsRow_nil _ _ _ _, box_below hb1⟩
set_option maxHeartbeats 2000000 in
theorem PacketBytes_0 (w : World) (ep nu : Int) (b : Bool) (ak h e : Int) (A : Option Addr) (c : Nat) (ps : List PartD) (s : ByteArray) (q1 : 0 ≤ ep) (q2 : ep ≤ 1048576) (q3 : 0 ≤ ak) (q4 : ak ≤ 1048576) (q5 : 0 ≤ nu) (q6 : nu ≤ 1048576)
    (_h0 : 0 ≤ h) (_h1 : h ≤ 1048576) (_e0 : 0 ≤ e) (_e1 : e ≤ 1048576) (_hm : ps.length ≤ 8001) (_hp : ∀ p ∈ ps, p.Writ) (_hst : s.size ≤ 1048576) (hs : OpIn (· < w.heap.size) w A ps)
    (H : Hid (∀ W, Below w.heap.size w W → Calls Tryd.prog 89 #[packetV ep nu b ak 0 h e A ps.length c s] W fun r w' => r = .returned (.int .i64 0) ∧ Below W.heap.size W w')) :
    Calls Tryd.prog 35 #[packetV ep nu b ak 0 h e A ps.length c s] w (RetBytesE w (sevensL ep.toNat ++ sevensL ak.toNat ++ sevensL nu.toNat) 0) := by
  have HE := Lib.hid (fun W => sevens_z ep W q1 (by omega))
  have HA := Lib.hid (fun W => sevens_z ak W q3 (by omega))
  have HN := Lib.hid (fun W => sevens_z nu W q5 (by omega))
  have he := sevens_ten (n := ep.toNat) (by omega)
  have ha := sevens_ten (n := ak.toNat) (by omega)
  have hn := sevens_ten (n := nu.toNat) (by omega)
  generalize sevensL ep.toNat = be at *
  generalize sevensL ak.toNat = ba at *
  generalize sevensL nu.toNat = bn at *
  clear _hp
  go_enter Tryd.func35, Tryd.ntmps35
  go_wp2_with fail
  refine (H.out _ (by repeat (first | exact Below.refl _ _ | apply bGrow | apply bAlloc | apply Below.drew | apply bDrewN | apply bIter))).mono ?_
  rintro er w1 ⟨rfl, hb1⟩
  have x0 := box_at hb1 0
  have x1 := box_at hb1 1
  have x2 := box_at hb1 2
  have x3 := box_at hb1 3
  have x4 := box_at hb1 4
  have x5 := box_at hb1 5
  have x6 := box_at hb1 6
  have x7 := box_at hb1 7
  have x8 := box_at hb1 8
  simp at x0 x1 x2 x3 x4 x5 x6 x7 x8
  have hz : w.heap.size < w1.heap.size := by have := hb1.size; simp at this; omega
  have HB := Lib.hid (box_below hb1)
  have HS1 := Lib.hid (Sl.later hs HB.out)
  clear hb1
  go_wp2_with fail
  go_region_held3 (fun w' => w'.cell? ⟨w.heap.size, 0, none⟩ = some (.int .i64 ep) ∧ w'.cell? ⟨w.heap.size, 1, none⟩ = some (.int .i64 nu) ∧ w'.cell? ⟨w.heap.size, 3, none⟩ = some (.int .i64 ak))
    (go_keep)
    ((first
      | (go_at_call 91; (with_reducible refine (HE.out _).mono ?_); rintro er wa ⟨Aa, ca, rfl, hoa, hba⟩; obtain ⟨⟨da, osa⟩, rfl⟩ := beyond_of hba)
      | (go_at_call 91; (with_reducible refine (HA.out _).mono ?_); rintro er wb ⟨Ab, cb, rfl, hob, hbb⟩; obtain ⟨⟨db, osb⟩, rfl⟩ := beyond_of hbb)
      | (go_at_call 91; (with_reducible refine (HN.out _).mono ?_); rintro er wc ⟨Ac, cc, rfl, hoc, hbc⟩; obtain ⟨⟨dc, osc⟩, rfl⟩ := beyond_of hbc)
      | (go_at_call 90; refine (joined_three _ _ _ _ _ _ _ _ _ _ _ _ be ba bn _ ?_ rfl rfl rfl ?_ ?_ ?_ ?_).mono ?_; simp; (first | exact own_sl hoa | exact Sl.later (own_sl hoa) (below_regrown _ _ _) | exact Sl.later (own_sl hoa) (bThen (below_regrown _ _ _) (below_regrown _ _ _)) | exact Sl.later (own_sl hoa) (bThen (bThen (below_regrown _ _ _) (below_regrown _ _ _)) (below_regrown _ _ _))); (first | exact own_sl hob | exact Sl.later (own_sl hob) (below_regrown _ _ _) | exact Sl.later (own_sl hob) (bThen (below_regrown _ _ _) (below_regrown _ _ _)) | exact Sl.later (own_sl hob) (bThen (bThen (below_regrown _ _ _) (below_regrown _ _ _)) (below_regrown _ _ _))); (first | exact own_sl hoc | exact Sl.later (own_sl hoc) (below_regrown _ _ _) | exact Sl.later (own_sl hoc) (bThen (below_regrown _ _ _) (below_regrown _ _ _)) | exact Sl.later (own_sl hoc) (bThen (bThen (below_regrown _ _ _) (below_regrown _ _ _)) (below_regrown _ _ _))); omega; (rintro er w4 ⟨A4, c4, rfl, ho4, hb4⟩; obtain ⟨⟨d4, os4⟩, rfl⟩ := beyond_of hb4))))
  all_goals
    refine post_hide (fun W => Below w1.heap.size w1 W ∧ W.ownsRow w.heap.size 5 1 (.slice A4 (be ++ ba ++ bn).length c4) (be ++ ba ++ bn).length ((be ++ ba ++ bn).map byteV)) ⟨bThen (by repeat (first | exact Below.refl _ _ | apply bGrow | apply bAlloc | apply Below.drew | apply bDrewN | apply bIter)) hb4, own_lower ho4 (by simp; omega)⟩ ?_
    clear hb4 ho4 hoa hob hoc hba hbb hbc
    rintro w4 ⟨hb4, ho4⟩
    have HB4 := Lib.hid hb4
    have y4 := (HB4.out.cell (p := ⟨w.heap.size, 4, none⟩) hz).trans x4
    have y5 := (HB4.out.cell (p := ⟨w.heap.size, 5, none⟩) hz).trans x5
    have y6 := (HB4.out.cell (p := ⟨w.heap.size, 6, none⟩) hz).trans x6
    have y7 := (HB4.out.cell (p := ⟨w.heap.size, 7, none⟩) hz).trans x7
    have y8 := (HB4.out.cell (p := ⟨w.heap.size, 8, none⟩) hz).trans x8
    have HO4 := Lib.hid ho4
    have HR4 := Lib.hid (own_sl ho4)
    have hz4 := HB4.out.size
    clear hb4 ho4
    generalize hpre : be ++ ba ++ bn = pre at *
    have hlp : pre.length ≤ 30 := by rw [← hpre, List.length_append, List.length_append]; omega
    have HPL := Lib.hid (show be.length + (ba.length + bn.length) = pre.length by rw [← hpre, List.length_append, List.length_append]; omega)
    clear hpre
    go_wp2_with fail
    go_ret2
    exact ⟨A4, c4, by rw [← HPL.out]; rfl, World.ownsRow.alloc HO4.out _, bAlloc (bThen HB.out HB4.out) _⟩
set_option maxHeartbeats 2000000 in
theorem PacketBytes_1 (w : World) (ep nu : Int) (b : Bool) (ak h e : Int) (A : Option Addr) (c : Nat) (ps : List PartD) (s : ByteArray) (q1 : 0 ≤ ep) (q2 : ep ≤ 1048576) (q3 : 0 ≤ ak) (q4 : ak ≤ 1048576) (q5 : 0 ≤ nu) (q6 : nu ≤ 1048576)
    (_h0 : 0 ≤ h) (_h1 : h ≤ 1048576) (_e0 : 0 ≤ e) (_e1 : e ≤ 1048576) (_hm : ps.length ≤ 8001) (_hp : ∀ p ∈ ps, p.Writ) (_hst : s.size ≤ 1048576) (hs : OpIn (· < w.heap.size) w A ps)
    (H : Hid (∀ W, Below w.heap.size w W → Calls Tryd.prog 89 #[packetV ep nu b ak 1 h e A ps.length c s] W fun r w' => r = .returned (.int .i64 0) ∧ Below W.heap.size W w')) :
    Calls Tryd.prog 35 #[packetV ep nu b ak 1 h e A ps.length c s] w (RetBytesE w (sevensL ep.toNat ++ sevensL ak.toNat ++ sevensL nu.toNat ++ (sevensL (1 : Int).toNat ++ (sevensL h.toNat ++ opL ps))) 0) := by
  have HE := Lib.hid (fun W => sevens_z ep W q1 (by omega))
  have HA := Lib.hid (fun W => sevens_z ak W q3 (by omega))
  have HN := Lib.hid (fun W => sevens_z nu W q5 (by omega))
  have he := sevens_ten (n := ep.toNat) (by omega)
  have ha := sevens_ten (n := ak.toNat) (by omega)
  have hn := sevens_ten (n := nu.toNat) (by omega)
  have HK := Lib.hid (fun W => sevens_z 1 W (by omega) (by omega))
  have hk := sevens_ten (n := (1 : Int).toNat) (by decide)
  have HH := Lib.hid (fun W => sevens_z h W _h0 (by omega))
  have hh := sevens_ten (n := h.toNat) (by omega)
  have HO := Lib.hid (fun W hs => opBytes_c W A c ps hs _hm _hp)
  have ho := opL_bound _hm _hp
  generalize sevensL ep.toNat = be at *
  generalize sevensL ak.toNat = ba at *
  generalize sevensL nu.toNat = bn at *
  generalize sevensL (1 : Int).toNat = bk at *
  generalize sevensL h.toNat = bh at *
  generalize hG : opL ps = bo at *
  clear hG
  clear _hp
  go_enter Tryd.func35, Tryd.ntmps35
  go_wp2_with fail
  refine (H.out _ (by repeat (first | exact Below.refl _ _ | apply bGrow | apply bAlloc | apply Below.drew | apply bDrewN | apply bIter))).mono ?_
  rintro er w1 ⟨rfl, hb1⟩
  have x0 := box_at hb1 0
  have x1 := box_at hb1 1
  have x2 := box_at hb1 2
  have x3 := box_at hb1 3
  have x4 := box_at hb1 4
  have x5 := box_at hb1 5
  have x6 := box_at hb1 6
  have x7 := box_at hb1 7
  have x8 := box_at hb1 8
  simp at x0 x1 x2 x3 x4 x5 x6 x7 x8
  have hz : w.heap.size < w1.heap.size := by have := hb1.size; simp at this; omega
  have HB := Lib.hid (box_below hb1)
  have HS1 := Lib.hid (Sl.later hs HB.out)
  clear hb1
  go_wp2_with fail
  go_region_held3 (fun w' => w'.cell? ⟨w.heap.size, 0, none⟩ = some (.int .i64 ep) ∧ w'.cell? ⟨w.heap.size, 1, none⟩ = some (.int .i64 nu) ∧ w'.cell? ⟨w.heap.size, 3, none⟩ = some (.int .i64 ak))
    (go_keep)
    ((first
      | (go_at_call 91; (with_reducible refine (HE.out _).mono ?_); rintro er wa ⟨Aa, ca, rfl, hoa, hba⟩; obtain ⟨⟨da, osa⟩, rfl⟩ := beyond_of hba)
      | (go_at_call 91; (with_reducible refine (HA.out _).mono ?_); rintro er wb ⟨Ab, cb, rfl, hob, hbb⟩; obtain ⟨⟨db, osb⟩, rfl⟩ := beyond_of hbb)
      | (go_at_call 91; (with_reducible refine (HN.out _).mono ?_); rintro er wc ⟨Ac, cc, rfl, hoc, hbc⟩; obtain ⟨⟨dc, osc⟩, rfl⟩ := beyond_of hbc)
      | (go_at_call 90; refine (joined_three _ _ _ _ _ _ _ _ _ _ _ _ be ba bn _ ?_ rfl rfl rfl ?_ ?_ ?_ ?_).mono ?_; simp; (first | exact own_sl hoa | exact Sl.later (own_sl hoa) (below_regrown _ _ _) | exact Sl.later (own_sl hoa) (bThen (below_regrown _ _ _) (below_regrown _ _ _)) | exact Sl.later (own_sl hoa) (bThen (bThen (below_regrown _ _ _) (below_regrown _ _ _)) (below_regrown _ _ _))); (first | exact own_sl hob | exact Sl.later (own_sl hob) (below_regrown _ _ _) | exact Sl.later (own_sl hob) (bThen (below_regrown _ _ _) (below_regrown _ _ _)) | exact Sl.later (own_sl hob) (bThen (bThen (below_regrown _ _ _) (below_regrown _ _ _)) (below_regrown _ _ _))); (first | exact own_sl hoc | exact Sl.later (own_sl hoc) (below_regrown _ _ _) | exact Sl.later (own_sl hoc) (bThen (below_regrown _ _ _) (below_regrown _ _ _)) | exact Sl.later (own_sl hoc) (bThen (bThen (below_regrown _ _ _) (below_regrown _ _ _)) (below_regrown _ _ _))); omega; (rintro er w4 ⟨A4, c4, rfl, ho4, hb4⟩; obtain ⟨⟨d4, os4⟩, rfl⟩ := beyond_of hb4))))
  all_goals
    refine post_hide (fun W => Below w1.heap.size w1 W ∧ W.ownsRow w.heap.size 5 1 (.slice A4 (be ++ ba ++ bn).length c4) (be ++ ba ++ bn).length ((be ++ ba ++ bn).map byteV)) ⟨bThen (by repeat (first | exact Below.refl _ _ | apply bGrow | apply bAlloc | apply Below.drew | apply bDrewN | apply bIter)) hb4, own_lower ho4 (by simp; omega)⟩ ?_
    clear hb4 ho4 hoa hob hoc hba hbb hbc
    rintro w4 ⟨hb4, ho4⟩
    have HB4 := Lib.hid hb4
    have y4 := (HB4.out.cell (p := ⟨w.heap.size, 4, none⟩) hz).trans x4
    have y5 := (HB4.out.cell (p := ⟨w.heap.size, 5, none⟩) hz).trans x5
    have y6 := (HB4.out.cell (p := ⟨w.heap.size, 6, none⟩) hz).trans x6
    have y7 := (HB4.out.cell (p := ⟨w.heap.size, 7, none⟩) hz).trans x7
    have y8 := (HB4.out.cell (p := ⟨w.heap.size, 8, none⟩) hz).trans x8
    have HO4 := Lib.hid ho4
    have HR4 := Lib.hid (own_sl ho4)
    have hz4 := HB4.out.size
    clear hb4 ho4
    generalize hpre : be ++ ba ++ bn = pre at *
    have hlp : pre.length ≤ 30 := by rw [← hpre, List.length_append, List.length_append]; omega
    have HPL := Lib.hid (show be.length + (ba.length + bn.length) = pre.length by rw [← hpre, List.length_append, List.length_append]; omega)
    clear hpre
    obtain ⟨W5, hW5⟩ : ∃ W5, W5 = w4.alloc (.cells #[.int .i64 1, .int .i64 h, .int .i64 e, .slice A ps.length c, .string s] 56) := ⟨_, rfl⟩
    have hb5 : Below w4.heap.size w4 W5 := by rw [hW5]; exact bAlloc (Below.refl _ _) _
    have hz5 : w4.heap.size < W5.heap.size := by rw [hW5]; simp
    have hc5 : ∀ j, W5.cell? ⟨w4.heap.size, j, none⟩ = (#[Value.int .i64 1, .int .i64 h, .int .i64 e, .slice A ps.length c, .string s])[j]? := by intro j; rw [hW5, World.cell?_alloc_new]
    have z1 := hc5 1
    have z2 := hc5 2
    have z3 := hc5 3
    have z4 := hc5 4
    simp at z1 z2 z3 z4
    have HS5 := Lib.hid (Sl.later HS1.out (bThen HB4.out hb5))
    have HR5 := Lib.hid (Sl.later HR4.out hb5)
    have HB5 := Lib.hid (bThen HB.out (bThen HB4.out hb5))
    have HW5 := Lib.hid hW5
    clear hc5 hb5 hW5
    go_wp2_with fail
    rw [← HW5.out]
    go_region_held3 (fun w' => w'.cell? ⟨w4.heap.size, 1, none⟩ = some (.int .i64 h) ∧ w'.cell? ⟨w4.heap.size, 2, none⟩ = some (.int .i64 e) ∧ w'.cell? ⟨w4.heap.size, 3, none⟩ = some (.slice A ps.length c) ∧ w'.cell? ⟨w4.heap.size, 4, none⟩ = some (.string s))
      (go_keep)
      ((first
        | (go_at_call 91; (with_reducible refine (HK.out _).mono ?_); rintro er wp ⟨Ap, cp, rfl, hop, hbp⟩; obtain ⟨⟨dp, osp⟩, rfl⟩ := beyond_of hbp)
        | (go_at_call 91; (with_reducible refine (HH.out _).mono ?_); rintro er wq ⟨Aq, cq, rfl, hoq, hbq⟩; obtain ⟨⟨dq, osq⟩, rfl⟩ := beyond_of hbq)
        | (go_at_call 92; refine (HO.out _ ?_).mono ?_; (first | exact HS5.out | exact Sl.later HS5.out (below_regrown _ _ _) | exact Sl.later HS5.out (bThen (below_regrown _ _ _) (below_regrown _ _ _))); (rintro er wr ⟨Ar, cr, rfl, hor, hbr⟩; obtain ⟨⟨dr, osr⟩, rfl⟩ := beyond_of hbr))
        | (go_at_call 90; refine (joined_four _ _ _ _ _ _ _ _ _ _ _ _ _ _ _ pre bk bh bo _ ?_ HPL.out rfl rfl rfl ?_ ?_ ?_ ?_ ?_).mono ?_; simp; (rw [HPL.out]; (first | exact Sl.later HR5.out (bThen (bThen (below_regrown _ _ _) (below_regrown _ _ _)) (below_regrown _ _ _)))); (first | exact own_sl hop | exact Sl.later (own_sl hop) (below_regrown _ _ _) | exact Sl.later (own_sl hop) (bThen (below_regrown _ _ _) (below_regrown _ _ _)) | exact Sl.later (own_sl hop) (bThen (bThen (below_regrown _ _ _) (below_regrown _ _ _)) (below_regrown _ _ _))); (first | exact own_sl hoq | exact Sl.later (own_sl hoq) (below_regrown _ _ _) | exact Sl.later (own_sl hoq) (bThen (below_regrown _ _ _) (below_regrown _ _ _)) | exact Sl.later (own_sl hoq) (bThen (bThen (below_regrown _ _ _) (below_regrown _ _ _)) (below_regrown _ _ _))); exact hor; omega; (rintro er w6 ⟨A6, c6, rfl, ho6, hb6⟩; obtain ⟨⟨d6, os6⟩, rfl⟩ := beyond_of hb6))))
    all_goals
      refine post_hide (fun W => Below W5.heap.size W5 W ∧ W.ownsRow w.heap.size 5 1 (.slice A6 (pre ++ bk ++ bh ++ bo).length c6) (pre ++ bk ++ bh ++ bo).length ((pre ++ bk ++ bh ++ bo).map byteV)) ⟨bThen (by repeat (first | exact Below.refl _ _ | apply bGrow | apply bAlloc | apply Below.drew | apply bDrewN | apply bIter)) hb6, own_lower ho6 (by have := HB5.out.size; simp; omega)⟩ ?_
      clear hb6 ho6
      rintro w6 ⟨hb6, ho6⟩
      have HB6 := Lib.hid hb6
      have HO6 := Lib.hid ho6
      clear hb6 ho6
      go_wp2_with fail
      go_ret2
      exact ⟨A6, c6, by simp [← HPL.out, Nat.add_assoc], by simpa [List.append_assoc] using HO6.out, bThen HB5.out HB6.out⟩
set_option maxHeartbeats 2000000 in
theorem PacketBytes_2 (w : World) (ep nu : Int) (b : Bool) (ak h e : Int) (A : Option Addr) (c : Nat) (ps : List PartD) (s : ByteArray) (q1 : 0 ≤ ep) (q2 : ep ≤ 1048576) (q3 : 0 ≤ ak) (q4 : ak ≤ 1048576) (q5 : 0 ≤ nu) (q6 : nu ≤ 1048576)
    (_h0 : 0 ≤ h) (_h1 : h ≤ 1048576) (_e0 : 0 ≤ e) (_e1 : e ≤ 1048576) (_hm : ps.length ≤ 8001) (_hp : ∀ p ∈ ps, p.Writ) (_hst : s.size ≤ 1048576) (hs : OpIn (· < w.heap.size) w A ps)
    (H : Hid (∀ W, Below w.heap.size w W → Calls Tryd.prog 89 #[packetV ep nu b ak 2 h e A ps.length c s] W fun r w' => r = .returned (.int .i64 0) ∧ Below W.heap.size W w')) :
    Calls Tryd.prog 35 #[packetV ep nu b ak 2 h e A ps.length c s] w (RetBytesE w (sevensL ep.toNat ++ sevensL ak.toNat ++ sevensL nu.toNat ++ (sevensL (2 : Int).toNat ++ (sevensL e.toNat ++ sevensL h.toNat))) 0) := by
  have HE := Lib.hid (fun W => sevens_z ep W q1 (by omega))
  have HA := Lib.hid (fun W => sevens_z ak W q3 (by omega))
  have HN := Lib.hid (fun W => sevens_z nu W q5 (by omega))
  have he := sevens_ten (n := ep.toNat) (by omega)
  have ha := sevens_ten (n := ak.toNat) (by omega)
  have hn := sevens_ten (n := nu.toNat) (by omega)
  have HK := Lib.hid (fun W => sevens_z 2 W (by omega) (by omega))
  have hk := sevens_ten (n := (2 : Int).toNat) (by decide)
  have HH := Lib.hid (fun W => sevens_z h W _h0 (by omega))
  have hh := sevens_ten (n := h.toNat) (by omega)
  have HX := Lib.hid (fun W => sevens_z e W _e0 (by omega))
  have hx := sevens_ten (n := e.toNat) (by omega)
  generalize sevensL ep.toNat = be at *
  generalize sevensL ak.toNat = ba at *
  generalize sevensL nu.toNat = bn at *
  generalize sevensL (2 : Int).toNat = bk at *
  generalize sevensL h.toNat = bh at *
  generalize sevensL e.toNat = bx at *
  clear _hp
  go_enter Tryd.func35, Tryd.ntmps35
  go_wp2_with fail
  refine (H.out _ (by repeat (first | exact Below.refl _ _ | apply bGrow | apply bAlloc | apply Below.drew | apply bDrewN | apply bIter))).mono ?_
  rintro er w1 ⟨rfl, hb1⟩
  have x0 := box_at hb1 0
  have x1 := box_at hb1 1
  have x2 := box_at hb1 2
  have x3 := box_at hb1 3
  have x4 := box_at hb1 4
  have x5 := box_at hb1 5
  have x6 := box_at hb1 6
  have x7 := box_at hb1 7
  have x8 := box_at hb1 8
  simp at x0 x1 x2 x3 x4 x5 x6 x7 x8
  have hz : w.heap.size < w1.heap.size := by have := hb1.size; simp at this; omega
  have HB := Lib.hid (box_below hb1)
  have HS1 := Lib.hid (Sl.later hs HB.out)
  clear hb1
  go_wp2_with fail
  go_region_held3 (fun w' => w'.cell? ⟨w.heap.size, 0, none⟩ = some (.int .i64 ep) ∧ w'.cell? ⟨w.heap.size, 1, none⟩ = some (.int .i64 nu) ∧ w'.cell? ⟨w.heap.size, 3, none⟩ = some (.int .i64 ak))
    (go_keep)
    ((first
      | (go_at_call 91; (with_reducible refine (HE.out _).mono ?_); rintro er wa ⟨Aa, ca, rfl, hoa, hba⟩; obtain ⟨⟨da, osa⟩, rfl⟩ := beyond_of hba)
      | (go_at_call 91; (with_reducible refine (HA.out _).mono ?_); rintro er wb ⟨Ab, cb, rfl, hob, hbb⟩; obtain ⟨⟨db, osb⟩, rfl⟩ := beyond_of hbb)
      | (go_at_call 91; (with_reducible refine (HN.out _).mono ?_); rintro er wc ⟨Ac, cc, rfl, hoc, hbc⟩; obtain ⟨⟨dc, osc⟩, rfl⟩ := beyond_of hbc)
      | (go_at_call 90; refine (joined_three _ _ _ _ _ _ _ _ _ _ _ _ be ba bn _ ?_ rfl rfl rfl ?_ ?_ ?_ ?_).mono ?_; simp; (first | exact own_sl hoa | exact Sl.later (own_sl hoa) (below_regrown _ _ _) | exact Sl.later (own_sl hoa) (bThen (below_regrown _ _ _) (below_regrown _ _ _)) | exact Sl.later (own_sl hoa) (bThen (bThen (below_regrown _ _ _) (below_regrown _ _ _)) (below_regrown _ _ _))); (first | exact own_sl hob | exact Sl.later (own_sl hob) (below_regrown _ _ _) | exact Sl.later (own_sl hob) (bThen (below_regrown _ _ _) (below_regrown _ _ _)) | exact Sl.later (own_sl hob) (bThen (bThen (below_regrown _ _ _) (below_regrown _ _ _)) (below_regrown _ _ _))); (first | exact own_sl hoc | exact Sl.later (own_sl hoc) (below_regrown _ _ _) | exact Sl.later (own_sl hoc) (bThen (below_regrown _ _ _) (below_regrown _ _ _)) | exact Sl.later (own_sl hoc) (bThen (bThen (below_regrown _ _ _) (below_regrown _ _ _)) (below_regrown _ _ _))); omega; (rintro er w4 ⟨A4, c4, rfl, ho4, hb4⟩; obtain ⟨⟨d4, os4⟩, rfl⟩ := beyond_of hb4))))
  all_goals
    refine post_hide (fun W => Below w1.heap.size w1 W ∧ W.ownsRow w.heap.size 5 1 (.slice A4 (be ++ ba ++ bn).length c4) (be ++ ba ++ bn).length ((be ++ ba ++ bn).map byteV)) ⟨bThen (by repeat (first | exact Below.refl _ _ | apply bGrow | apply bAlloc | apply Below.drew | apply bDrewN | apply bIter)) hb4, own_lower ho4 (by simp; omega)⟩ ?_
    clear hb4 ho4 hoa hob hoc hba hbb hbc
    rintro w4 ⟨hb4, ho4⟩
    have HB4 := Lib.hid hb4
    have y4 := (HB4.out.cell (p := ⟨w.heap.size, 4, none⟩) hz).trans x4
    have y5 := (HB4.out.cell (p := ⟨w.heap.size, 5, none⟩) hz).trans x5
    have y6 := (HB4.out.cell (p := ⟨w.heap.size, 6, none⟩) hz).trans x6
    have y7 := (HB4.out.cell (p := ⟨w.heap.size, 7, none⟩) hz).trans x7
    have y8 := (HB4.out.cell (p := ⟨w.heap.size, 8, none⟩) hz).trans x8
    have HO4 := Lib.hid ho4
    have HR4 := Lib.hid (own_sl ho4)
    have hz4 := HB4.out.size
    clear hb4 ho4
    generalize hpre : be ++ ba ++ bn = pre at *
    have hlp : pre.length ≤ 30 := by rw [← hpre, List.length_append, List.length_append]; omega
    have HPL := Lib.hid (show be.length + (ba.length + bn.length) = pre.length by rw [← hpre, List.length_append, List.length_append]; omega)
    clear hpre
    obtain ⟨W5, hW5⟩ : ∃ W5, W5 = w4.alloc (.cells #[.int .i64 2, .int .i64 h, .int .i64 e, .slice A ps.length c, .string s] 56) := ⟨_, rfl⟩
    have hb5 : Below w4.heap.size w4 W5 := by rw [hW5]; exact bAlloc (Below.refl _ _) _
    have hz5 : w4.heap.size < W5.heap.size := by rw [hW5]; simp
    have hc5 : ∀ j, W5.cell? ⟨w4.heap.size, j, none⟩ = (#[Value.int .i64 2, .int .i64 h, .int .i64 e, .slice A ps.length c, .string s])[j]? := by intro j; rw [hW5, World.cell?_alloc_new]
    have z1 := hc5 1
    have z2 := hc5 2
    have z3 := hc5 3
    have z4 := hc5 4
    simp at z1 z2 z3 z4
    have HS5 := Lib.hid (Sl.later HS1.out (bThen HB4.out hb5))
    have HR5 := Lib.hid (Sl.later HR4.out hb5)
    have HB5 := Lib.hid (bThen HB.out (bThen HB4.out hb5))
    have HW5 := Lib.hid hW5
    clear hc5 hb5 hW5
    go_wp2_with fail
    rw [← HW5.out]
    go_region_held3 (fun w' => w'.cell? ⟨w4.heap.size, 1, none⟩ = some (.int .i64 h) ∧ w'.cell? ⟨w4.heap.size, 2, none⟩ = some (.int .i64 e) ∧ w'.cell? ⟨w4.heap.size, 3, none⟩ = some (.slice A ps.length c) ∧ w'.cell? ⟨w4.heap.size, 4, none⟩ = some (.string s))
      (go_keep)
      ((first
        | (go_at_call 91; (with_reducible refine (HK.out _).mono ?_); rintro er wp ⟨Ap, cp, rfl, hop, hbp⟩; obtain ⟨⟨dp, osp⟩, rfl⟩ := beyond_of hbp)
        | (go_at_call 91; (with_reducible refine (HX.out _).mono ?_); rintro er wq ⟨Aq, cq, rfl, hoq, hbq⟩; obtain ⟨⟨dq, osq⟩, rfl⟩ := beyond_of hbq)
        | (go_at_call 91; (with_reducible refine (HH.out _).mono ?_); rintro er wr ⟨Ar, cr, rfl, hor, hbr⟩; obtain ⟨⟨dr, osr⟩, rfl⟩ := beyond_of hbr)
        | (go_at_call 90; refine (joined_four _ _ _ _ _ _ _ _ _ _ _ _ _ _ _ pre bk bx bh _ ?_ HPL.out rfl rfl rfl ?_ ?_ ?_ ?_ ?_).mono ?_; simp; (rw [HPL.out]; (first | exact Sl.later HR5.out (bThen (bThen (below_regrown _ _ _) (below_regrown _ _ _)) (below_regrown _ _ _)))); (first | exact own_sl hop | exact Sl.later (own_sl hop) (below_regrown _ _ _) | exact Sl.later (own_sl hop) (bThen (below_regrown _ _ _) (below_regrown _ _ _)) | exact Sl.later (own_sl hop) (bThen (bThen (below_regrown _ _ _) (below_regrown _ _ _)) (below_regrown _ _ _))); (first | exact own_sl hoq | exact Sl.later (own_sl hoq) (below_regrown _ _ _) | exact Sl.later (own_sl hoq) (bThen (below_regrown _ _ _) (below_regrown _ _ _)) | exact Sl.later (own_sl hoq) (bThen (bThen (below_regrown _ _ _) (below_regrown _ _ _)) (below_regrown _ _ _))); (first | exact own_sl hor | exact Sl.later (own_sl hor) (below_regrown _ _ _) | exact Sl.later (own_sl hor) (bThen (below_regrown _ _ _) (below_regrown _ _ _)) | exact Sl.later (own_sl hor) (bThen (bThen (below_regrown _ _ _) (below_regrown _ _ _)) (below_regrown _ _ _))); omega; (rintro er w6 ⟨A6, c6, rfl, ho6, hb6⟩; obtain ⟨⟨d6, os6⟩, rfl⟩ := beyond_of hb6))))
    all_goals
      refine post_hide (fun W => Below W5.heap.size W5 W ∧ W.ownsRow w.heap.size 5 1 (.slice A6 (pre ++ bk ++ bx ++ bh).length c6) (pre ++ bk ++ bx ++ bh).length ((pre ++ bk ++ bx ++ bh).map byteV)) ⟨bThen (by repeat (first | exact Below.refl _ _ | apply bGrow | apply bAlloc | apply Below.drew | apply bDrewN | apply bIter)) hb6, own_lower ho6 (by have := HB5.out.size; simp; omega)⟩ ?_
      clear hb6 ho6
      rintro w6 ⟨hb6, ho6⟩
      have HB6 := Lib.hid hb6
      have HO6 := Lib.hid ho6
      clear hb6 ho6
      go_wp2_with fail
      go_ret2
      exact ⟨A6, c6, by simp [← HPL.out, Nat.add_assoc], by simpa [List.append_assoc] using HO6.out, bThen HB5.out HB6.out⟩
set_option maxHeartbeats 2000000 in
theorem PacketBytes_3 (w : World) (ep nu : Int) (b : Bool) (ak h e : Int) (A : Option Addr) (c : Nat) (ps : List PartD) (s : ByteArray) (q1 : 0 ≤ ep) (q2 : ep ≤ 1048576) (q3 : 0 ≤ ak) (q4 : ak ≤ 1048576) (q5 : 0 ≤ nu) (q6 : nu ≤ 1048576)
    (_h0 : 0 ≤ h) (_h1 : h ≤ 1048576) (_e0 : 0 ≤ e) (_e1 : e ≤ 1048576) (_hm : ps.length ≤ 8001) (_hp : ∀ p ∈ ps, p.Writ) (_hst : s.size ≤ 1048576) (hs : OpIn (· < w.heap.size) w A ps)
    (H : Hid (∀ W, Below w.heap.size w W → Calls Tryd.prog 89 #[packetV ep nu b ak 3 h e A ps.length c s] W fun r w' => r = .returned (.int .i64 0) ∧ Below W.heap.size W w')) :
    Calls Tryd.prog 35 #[packetV ep nu b ak 3 h e A ps.length c s] w (RetBytesE w (sevensL ep.toNat ++ sevensL ak.toNat ++ sevensL nu.toNat ++ (sevensL (3 : Int).toNat ++ (sevensL e.toNat ++ textL s))) 0) := by
  have HE := Lib.hid (fun W => sevens_z ep W q1 (by omega))
  have HA := Lib.hid (fun W => sevens_z ak W q3 (by omega))
  have HN := Lib.hid (fun W => sevens_z nu W q5 (by omega))
  have he := sevens_ten (n := ep.toNat) (by omega)
  have ha := sevens_ten (n := ak.toNat) (by omega)
  have hn := sevens_ten (n := nu.toNat) (by omega)
  have HK := Lib.hid (fun W => sevens_z 3 W (by omega) (by omega))
  have hk := sevens_ten (n := (3 : Int).toNat) (by decide)
  have HX := Lib.hid (fun W => sevens_z e W _e0 (by omega))
  have hx := sevens_ten (n := e.toNat) (by omega)
  have HO := Lib.hid (fun W => textBytes_c s W _hst)
  have ho := textL_length _hst
  generalize sevensL ep.toNat = be at *
  generalize sevensL ak.toNat = ba at *
  generalize sevensL nu.toNat = bn at *
  generalize sevensL (3 : Int).toNat = bk at *
  generalize sevensL e.toNat = bx at *
  generalize hG : textL s = bo at *
  clear hG
  clear _hp
  go_enter Tryd.func35, Tryd.ntmps35
  go_wp2_with fail
  refine (H.out _ (by repeat (first | exact Below.refl _ _ | apply bGrow | apply bAlloc | apply Below.drew | apply bDrewN | apply bIter))).mono ?_
  rintro er w1 ⟨rfl, hb1⟩
  have x0 := box_at hb1 0
  have x1 := box_at hb1 1
  have x2 := box_at hb1 2
  have x3 := box_at hb1 3
  have x4 := box_at hb1 4
  have x5 := box_at hb1 5
  have x6 := box_at hb1 6
  have x7 := box_at hb1 7
  have x8 := box_at hb1 8
  simp at x0 x1 x2 x3 x4 x5 x6 x7 x8
  have hz : w.heap.size < w1.heap.size := by have := hb1.size; simp at this; omega
  have HB := Lib.hid (box_below hb1)
  have HS1 := Lib.hid (Sl.later hs HB.out)
  clear hb1
  go_wp2_with fail
  go_region_held3 (fun w' => w'.cell? ⟨w.heap.size, 0, none⟩ = some (.int .i64 ep) ∧ w'.cell? ⟨w.heap.size, 1, none⟩ = some (.int .i64 nu) ∧ w'.cell? ⟨w.heap.size, 3, none⟩ = some (.int .i64 ak))
    (go_keep)
    ((first
      | (go_at_call 91; (with_reducible refine (HE.out _).mono ?_); rintro er wa ⟨Aa, ca, rfl, hoa, hba⟩; obtain ⟨⟨da, osa⟩, rfl⟩ := beyond_of hba)
      | (go_at_call 91; (with_reducible refine (HA.out _).mono ?_); rintro er wb ⟨Ab, cb, rfl, hob, hbb⟩; obtain ⟨⟨db, osb⟩, rfl⟩ := beyond_of hbb)
      | (go_at_call 91; (with_reducible refine (HN.out _).mono ?_); rintro er wc ⟨Ac, cc, rfl, hoc, hbc⟩; obtain ⟨⟨dc, osc⟩, rfl⟩ := beyond_of hbc)
      | (go_at_call 90; refine (joined_three _ _ _ _ _ _ _ _ _ _ _ _ be ba bn _ ?_ rfl rfl rfl ?_ ?_ ?_ ?_).mono ?_; simp; (first | exact own_sl hoa | exact Sl.later (own_sl hoa) (below_regrown _ _ _) | exact Sl.later (own_sl hoa) (bThen (below_regrown _ _ _) (below_regrown _ _ _)) | exact Sl.later (own_sl hoa) (bThen (bThen (below_regrown _ _ _) (below_regrown _ _ _)) (below_regrown _ _ _))); (first | exact own_sl hob | exact Sl.later (own_sl hob) (below_regrown _ _ _) | exact Sl.later (own_sl hob) (bThen (below_regrown _ _ _) (below_regrown _ _ _)) | exact Sl.later (own_sl hob) (bThen (bThen (below_regrown _ _ _) (below_regrown _ _ _)) (below_regrown _ _ _))); (first | exact own_sl hoc | exact Sl.later (own_sl hoc) (below_regrown _ _ _) | exact Sl.later (own_sl hoc) (bThen (below_regrown _ _ _) (below_regrown _ _ _)) | exact Sl.later (own_sl hoc) (bThen (bThen (below_regrown _ _ _) (below_regrown _ _ _)) (below_regrown _ _ _))); omega; (rintro er w4 ⟨A4, c4, rfl, ho4, hb4⟩; obtain ⟨⟨d4, os4⟩, rfl⟩ := beyond_of hb4))))
  all_goals
    refine post_hide (fun W => Below w1.heap.size w1 W ∧ W.ownsRow w.heap.size 5 1 (.slice A4 (be ++ ba ++ bn).length c4) (be ++ ba ++ bn).length ((be ++ ba ++ bn).map byteV)) ⟨bThen (by repeat (first | exact Below.refl _ _ | apply bGrow | apply bAlloc | apply Below.drew | apply bDrewN | apply bIter)) hb4, own_lower ho4 (by simp; omega)⟩ ?_
    clear hb4 ho4 hoa hob hoc hba hbb hbc
    rintro w4 ⟨hb4, ho4⟩
    have HB4 := Lib.hid hb4
    have y4 := (HB4.out.cell (p := ⟨w.heap.size, 4, none⟩) hz).trans x4
    have y5 := (HB4.out.cell (p := ⟨w.heap.size, 5, none⟩) hz).trans x5
    have y6 := (HB4.out.cell (p := ⟨w.heap.size, 6, none⟩) hz).trans x6
    have y7 := (HB4.out.cell (p := ⟨w.heap.size, 7, none⟩) hz).trans x7
    have y8 := (HB4.out.cell (p := ⟨w.heap.size, 8, none⟩) hz).trans x8
    have HO4 := Lib.hid ho4
    have HR4 := Lib.hid (own_sl ho4)
    have hz4 := HB4.out.size
    clear hb4 ho4
    generalize hpre : be ++ ba ++ bn = pre at *
    have hlp : pre.length ≤ 30 := by rw [← hpre, List.length_append, List.length_append]; omega
    have HPL := Lib.hid (show be.length + (ba.length + bn.length) = pre.length by rw [← hpre, List.length_append, List.length_append]; omega)
    clear hpre
    obtain ⟨W5, hW5⟩ : ∃ W5, W5 = w4.alloc (.cells #[.int .i64 3, .int .i64 h, .int .i64 e, .slice A ps.length c, .string s] 56) := ⟨_, rfl⟩
    have hb5 : Below w4.heap.size w4 W5 := by rw [hW5]; exact bAlloc (Below.refl _ _) _
    have hz5 : w4.heap.size < W5.heap.size := by rw [hW5]; simp
    have hc5 : ∀ j, W5.cell? ⟨w4.heap.size, j, none⟩ = (#[Value.int .i64 3, .int .i64 h, .int .i64 e, .slice A ps.length c, .string s])[j]? := by intro j; rw [hW5, World.cell?_alloc_new]
    have z1 := hc5 1
    have z2 := hc5 2
    have z3 := hc5 3
    have z4 := hc5 4
    simp at z1 z2 z3 z4
    have HS5 := Lib.hid (Sl.later HS1.out (bThen HB4.out hb5))
    have HR5 := Lib.hid (Sl.later HR4.out hb5)
    have HB5 := Lib.hid (bThen HB.out (bThen HB4.out hb5))
    have HW5 := Lib.hid hW5
    clear hc5 hb5 hW5
    go_wp2_with fail
    rw [← HW5.out]
    go_region_held3 (fun w' => w'.cell? ⟨w4.heap.size, 1, none⟩ = some (.int .i64 h) ∧ w'.cell? ⟨w4.heap.size, 2, none⟩ = some (.int .i64 e) ∧ w'.cell? ⟨w4.heap.size, 3, none⟩ = some (.slice A ps.length c) ∧ w'.cell? ⟨w4.heap.size, 4, none⟩ = some (.string s))
      (go_keep)
      ((first
        | (go_at_call 91; (with_reducible refine (HK.out _).mono ?_); rintro er wp ⟨Ap, cp, rfl, hop, hbp⟩; obtain ⟨⟨dp, osp⟩, rfl⟩ := beyond_of hbp)
        | (go_at_call 91; (with_reducible refine (HX.out _).mono ?_); rintro er wq ⟨Aq, cq, rfl, hoq, hbq⟩; obtain ⟨⟨dq, osq⟩, rfl⟩ := beyond_of hbq)
        | (go_at_call 93; refine (HO.out _).mono ?_; rintro er wr ⟨Ar, cr, rfl, hor, hbr⟩; obtain ⟨⟨dr, osr⟩, rfl⟩ := beyond_of hbr)
        | (go_at_call 90; refine (joined_four _ _ _ _ _ _ _ _ _ _ _ _ _ _ _ pre bk bx bo _ ?_ HPL.out rfl rfl rfl ?_ ?_ ?_ ?_ ?_).mono ?_; simp; (rw [HPL.out]; (first | exact Sl.later HR5.out (bThen (bThen (below_regrown _ _ _) (below_regrown _ _ _)) (below_regrown _ _ _)))); (first | exact own_sl hop | exact Sl.later (own_sl hop) (below_regrown _ _ _) | exact Sl.later (own_sl hop) (bThen (below_regrown _ _ _) (below_regrown _ _ _)) | exact Sl.later (own_sl hop) (bThen (bThen (below_regrown _ _ _) (below_regrown _ _ _)) (below_regrown _ _ _))); (first | exact own_sl hoq | exact Sl.later (own_sl hoq) (below_regrown _ _ _) | exact Sl.later (own_sl hoq) (bThen (below_regrown _ _ _) (below_regrown _ _ _)) | exact Sl.later (own_sl hoq) (bThen (bThen (below_regrown _ _ _) (below_regrown _ _ _)) (below_regrown _ _ _))); (first | exact own_sl hor | exact Sl.later (own_sl hor) (below_regrown _ _ _) | exact Sl.later (own_sl hor) (bThen (below_regrown _ _ _) (below_regrown _ _ _)) | exact Sl.later (own_sl hor) (bThen (bThen (below_regrown _ _ _) (below_regrown _ _ _)) (below_regrown _ _ _))); omega; (rintro er w6 ⟨A6, c6, rfl, ho6, hb6⟩; obtain ⟨⟨d6, os6⟩, rfl⟩ := beyond_of hb6))))
    all_goals
      refine post_hide (fun W => Below W5.heap.size W5 W ∧ W.ownsRow w.heap.size 5 1 (.slice A6 (pre ++ bk ++ bx ++ bo).length c6) (pre ++ bk ++ bx ++ bo).length ((pre ++ bk ++ bx ++ bo).map byteV)) ⟨bThen (by repeat (first | exact Below.refl _ _ | apply bGrow | apply bAlloc | apply Below.drew | apply bDrewN | apply bIter)) hb6, own_lower ho6 (by have := HB5.out.size; simp; omega)⟩ ?_
      clear hb6 ho6
      rintro w6 ⟨hb6, ho6⟩
      have HB6 := Lib.hid hb6
      have HO6 := Lib.hid ho6
      clear hb6 ho6
      go_wp2_with fail
      go_ret2
      exact ⟨A6, c6, by simp [← HPL.out, Nat.add_assoc], by simpa [List.append_assoc] using HO6.out, bThen HB5.out HB6.out⟩
end Go.Proofs.YtiooimnlkcpnnaaDoor
