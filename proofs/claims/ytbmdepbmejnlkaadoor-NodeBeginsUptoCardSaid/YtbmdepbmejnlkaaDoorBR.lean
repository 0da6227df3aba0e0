/-
  Contract of (*work).send where it sends.
  Contract of (*work).join.
-/
import Derived.Test.YtbmdepbmejnlkaaDoorRows
import Derived.Test.YtbmdepbmejnlkaaDoorBusy
import Derived.Test.YtbmdepbmejnlkaaDoorPost
import Derived.Test.YtbmdepbmejnlkaaDoorBO
import Derived.Test.YtbmdepbmejnlkaaDoorBM
import Derived.Test.YtbmdepbmejnlkaaDoorLinkA
namespace Go.Proofs.YtbmdepbmejnlkaaDoor
open Go.ChangeShapes Go.WideShapes Go.ChangeAt Go.RowKit
set_option maxRecDepth 100000
set_option maxHeartbeats 1000000 in
theorem send_c (w : World) (base X : Nat) (n : NodeV) (A : Option Addr) (c : Nat) (L : List PostV) (R : Value) (s : Nat) (hs : s < n.S.length) (f : FrameV) (hT : Tabs w) (h : Busy 75 w base X n A c L R) (hm : n.S[s].k.Small) (hf : OpIn (· < w.heap.size) w f.o.A f.o.ps) (hfm : f.Small)
    (hk : linkMay n.S[s].k) (h0 : n.S[s].k.e ≠ 0) (he : frameFault f.d = 0) (h1 : n.S[s].k.n ≠ 1048576) (hl : L.length ≤ 1099511000000) :
    Calls Tryd.prog 68 #[.pointer (some ⟨X, 0, none⟩), .int .i64 s, frameV f.k f.h f.e f.o.A f.o.ps.length f.o.c f.s] w fun e w' => e = .returned (.tuple #[]) ∧ ∃ l' A' c' L', Busy 75 w' base X (n.link s l') A' c' L' R ∧ l'.d = fillL (waitL n.S[s].k.d f.d) ∧ L'.map PostV.d = L.map PostV.d ++ (fillP (waitL n.S[s].k.d f.d)).map (PostD.mk n.S[s].p) ∧ Below base w w' := by
  have HSE := Lib.hid (fun W hT (hi : n.S[s].k.In W) hf => SendF_ok W n.S[s].k f hT hi hm hf hfm hk h0 he h1)
  have HP8 := Lib.hid (fillP_eight (waitL n.S[s].k.d f.d))
  obtain ⟨g, hg⟩ : ∃ g, n.sA = some ⟨g, 0, none⟩ := by
    obtain ⟨g, cap, hv, _, _⟩ := h.srow.form (by omega)
    exact ⟨g, by injection hv⟩
  have HT := Lib.hid hT
  have HB := Lib.hid h
  have HO := Lib.hid hf
  have HG := Lib.hid hg
  obtain ⟨fk, fh, fe, ⟨fA, fc, fp⟩, fs⟩ := f
  dsimp only at *
  generalize fillL (waitL n.S[s].k.d _) = ld at *
  generalize fillP (waitL n.S[s].k.d _) = pd at *
  clear hT h hm hf hfm hk h0 he h1
  have HFA := Lib.hid (show (w.alloc (.cells #[.int .i64 fk, .int .i64 fh, .int .i64 fe, .slice fA fp.length fc, .string fs] 83)).heap[w.heap.size]? = some (.cells #[.int .i64 fk, .int .i64 fh, .int .i64 fe, .slice fA fp.length fc, .string fs] 83 (0, 0)) from World.alloc_heap_new _ _)
  obtain ⟨WA, hWA⟩ : ∃ WA, WA = w.alloc (.cells #[.int .i64 fk, .int .i64 fh, .int .i64 fe, .slice fA fp.length fc, .string fs] 83) := ⟨_, rfl⟩
  rw [← hWA] at HFA
  have HBA := Lib.hid (show Below w.heap.size w WA by rw [hWA]; exact bAlloc (Below.refl _ _) _)
  have HW := Lib.hid hWA.symm
  clear hWA
  have HK := Lib.hid (HB.out.later HBA.out)
  obtain ⟨x0, x1, x2, x3, x4, x5, x6, x7, x8, x9, xz⟩ := ten_cell HK.out.blk
  rw [hg] at x5
  clear hg
  go_enter Tryd.func68, Tryd.ntmps68
  go_wp2_with fail
  rw [HW.out]
  refine (workNode_c _ X).mono ?_
  rintro r w1 ⟨rfl, rfl⟩
  have hcs : ∀ j u, (SideV.cells n.S[s])[j]? = some u → WA.cell? ⟨g, s * 10 + j, none⟩ = some u := fun j u hu => by
    have hr := HK.out.srow
    rw [HG.out] at hr
    have hj : j < 10 := by
      have := (List.getElem?_eq_some_iff.1 hu).1
      rwa [SideV.cells_len] at this
    rw [hr.cellAt (s * 10 + j) (by omega), flat_get SideV.cells 10 SideV.cells_len n.S s j hs hj]
    exact hu
  have s5 : WA.cell? ⟨g, s * 10 + 5, none⟩ = some (.int .i64 n.S[s].k.e) := hcs 5 _ rfl
  have s6 : WA.cell? ⟨g, s * 10 + 6, none⟩ = some (.int .i64 n.S[s].k.n) := hcs 6 _ rfl
  have s7 : WA.cell? ⟨g, s * 10 + 7, none⟩ = some (.slice n.S[s].k.sA n.S[s].k.s.length n.S[s].k.sc) := hcs 7 _ rfl
  have s8 : WA.cell? ⟨g, s * 10 + 8, none⟩ = some (.slice n.S[s].k.qA n.S[s].k.q.length n.S[s].k.qc) := hcs 8 _ rfl
  have s9 : WA.cell? ⟨g, s * 10 + 9, none⟩ = some (.int .i64 n.S[s].k.h) := hcs 9 _ rfl
  have HLI := Lib.hid ((HK.out.side _ (List.getElem_mem hs)).link.in_ (fun b hb => hb.1.2))
  obtain ⟨q0, q1, q2, q3, q4, _, _, _, _, _, qz⟩ := five_cell HFA.out
  have hgz : g < WA.heap.size := by
    have hr := HK.out.srow
    rw [HG.out] at hr
    exact (hr.lt g rfl).2
  clear hcs
  go_wp2_with fail
  go_region_law (go_simp; go_at_call 93; (with_reducible refine (HSE.out _ ?_ ?_ ?_).mono ?_); exact (HT.out.later HBA.out).later (by repeat (first | exact Below.refl _ _ | apply bGrow | apply bAlloc | apply Below.drew | apply bDrewN | apply bIter)); exact HLI.out.later (by repeat (first | exact Below.refl _ _ | apply bGrow | apply bAlloc | apply Below.drew | apply bDrewN | apply bIter)); exact Sl.later (Sl.later HO.out HBA.out) (by repeat (first | exact Below.refl _ _ | apply bGrow | apply bAlloc | apply Below.drew | apply bDrewN | apply bIter)); rintro r w2 ⟨l2, A2, c2, K, rfl, hd2, hk2, hl2, hp2, hb2⟩; have HB2 : Below WA.heap.size WA w2 := bThen (by repeat (first | exact Below.refl _ _ | apply bAlloc | apply Below.drew)) hb2; first | (have HX2 : w2.heap[WA.heap.size]? = some (.cells #[.int .i64 0, .int .i64 0, .slice none 0 0, .slice none 0 0, .int .i64 0] 63 (0, 0)) := (hb2.block _ (by simp)).trans (World.alloc_heap_new _ _); obtain ⟨z0, z1, z2, z3, z4, f0, f1, f2, f3, f4, xz2⟩ := five_cell HX2) | skip)
  all_goals (
    first
    | (obtain ⟨B, hB⟩ : ∃ B, B = w2.heap.size := ⟨_, rfl⟩
       rw [← hB]
       have hbx : Below w2.heap.size w2 (w2.alloc (.cells #[.int .i64 l2.e, .int .i64 l2.n, .slice l2.sA l2.s.length l2.sc, .slice l2.qA l2.q.length l2.qc, .int .i64 l2.h] 63)) := bAlloc (Below.refl _ _) _
       have hzx : (w2.alloc (.cells #[.int .i64 l2.e, .int .i64 l2.n, .slice l2.sA l2.s.length l2.sc, .slice l2.qA l2.q.length l2.qc, .int .i64 l2.h] 63)).heap.size = w2.heap.size + 1 := by simp
       refine post_hide (fun G => Busy 75 G base X n A c L R ∧ Below w.heap.size w G ∧ WA.heap.size ≤ B ∧ l2.InS (fun b => WA.heap.size ≤ b ∧ b < G.heap.size) G ∧ PksS (fun b => WA.heap.size ≤ b ∧ b < G.heap.size) G A2 K ∧ G.heap[B]? = some (.cells #[.int .i64 l2.e, .int .i64 l2.n, .slice l2.sA l2.s.length l2.sc, .slice l2.qA l2.q.length l2.qc, .int .i64 l2.h] 63 (0, 0))) ⟨(HK.out.later HB2).later hbx, bThen (bThen HBA.out HB2) hbx, by rw [hB]; exact HB2.size, hl2.moved fun b hb => ⟨⟨hb.1, by rw [hzx]; have := hb.2; omega⟩, hbx.block b hb.2⟩, hp2.moved fun b hb => ⟨⟨hb.1, by rw [hzx]; have := hb.2; omega⟩, hbx.block b hb.2⟩, by rw [hB]; exact World.alloc_heap_new _ _⟩ ?_)
    | (obtain ⟨B, hB⟩ : ∃ B, B = WA.heap.size := ⟨_, rfl⟩
       rw [← hB] at HX2
       rw [← hB]
       have hO : Only B w2 (((((w2.setCell ⟨B, 0, none⟩ (.int .i64 l2.e)).setCell ⟨B, 1, none⟩ (.int .i64 l2.n)).setCell ⟨B, 2, none⟩ (.slice l2.sA l2.s.length l2.sc)).setCell ⟨B, 3, none⟩ (.slice l2.qA l2.q.length l2.qc)).setCell ⟨B, 4, none⟩ (.int .i64 l2.h)) := ((((Only.set _ _ _).trans (Only.set _ _ _)).trans (Only.set _ _ _)).trans (Only.set _ _ _)).trans (Only.set _ _ _)
       have HBf := HB2.trans (hO.below (by omega) HB2.size)
       have hzO : (((((w2.setCell ⟨B, 0, none⟩ (.int .i64 l2.e)).setCell ⟨B, 1, none⟩ (.int .i64 l2.n)).setCell ⟨B, 2, none⟩ (.slice l2.sA l2.s.length l2.sc)).setCell ⟨B, 3, none⟩ (.slice l2.qA l2.q.length l2.qc)).setCell ⟨B, 4, none⟩ (.int .i64 l2.h)).heap.size = w2.heap.size := by simp [World.setCell]
       refine post_hide (fun G => Busy 75 G base X n A c L R ∧ Below w.heap.size w G ∧ WA.heap.size ≤ B ∧ l2.InS (fun b => WA.heap.size ≤ b ∧ b < G.heap.size) G ∧ PksS (fun b => WA.heap.size ≤ b ∧ b < G.heap.size) G A2 K ∧ G.heap[B]? = some (.cells #[.int .i64 l2.e, .int .i64 l2.n, .slice l2.sA l2.s.length l2.sc, .slice l2.qA l2.q.length l2.qc, .int .i64 l2.h] 63 (0, 0))) ⟨HK.out.later HBf, bThen HBA.out HBf, by omega, hl2.moved fun b hb => ⟨⟨by have h9 := hb.1; simp at h9; omega, by rw [hzO]; exact hb.2⟩, hO.block b hb.2 (by have h9 := hb.1; simp at h9; omega)⟩, hp2.moved fun b hb => ⟨⟨by have h9 := hb.1; simp at h9; omega, by rw [hzO]; exact hb.2⟩, hO.block b hb.2 (by have h9 := hb.1; simp at h9; omega)⟩, any_set 4 _ (any_set 3 _ (any_set 2 _ (any_set 1 _ (any_set 0 _ HX2))))⟩ ?_))
  all_goals (
    rintro G ⟨g1, g2, g3, g4, g5, g6⟩
    have HG1 := Lib.hid g1
    have HG2 := Lib.hid g2
    have HG4 := Lib.hid g4
    have HG5 := Lib.hid g5
    have HD2 := Lib.hid hd2
    have HKD := Lib.hid hk2
    have hKL : K.length ≤ 8 := by rw [← List.length_map (f := PacketV.d), hk2]; exact HP8.out
    have hgB : ¬ g = B := by omega
    have hBg : ¬ B = g := by omega
    have hgG : g < G.heap.size := by have := (Array.getElem?_eq_some_iff.1 g6).1; omega
    have hr := g1.srow
    rw [HG.out] at hr
    have hlen : (n.S.flatMap SideV.cells).length = n.S.length * 10 := by have h9 := hr.1; exact h9
    have e5 : ∃ v, G.cell? ⟨g, s * 10 + 5, none⟩ = some v := ⟨_, by rw [hr.cellAt (s * 10 + 5) (by omega)]; exact List.getElem?_eq_getElem (by omega)⟩
    have e6 : ∃ v, G.cell? ⟨g, s * 10 + 6, none⟩ = some v := ⟨_, by rw [hr.cellAt (s * 10 + 6) (by omega)]; exact List.getElem?_eq_getElem (by omega)⟩
    have e7 : ∃ v, G.cell? ⟨g, s * 10 + 7, none⟩ = some v := ⟨_, by rw [hr.cellAt (s * 10 + 7) (by omega)]; exact List.getElem?_eq_getElem (by omega)⟩
    have e8 : ∃ v, G.cell? ⟨g, s * 10 + 8, none⟩ = some v := ⟨_, by rw [hr.cellAt (s * 10 + 8) (by omega)]; exact List.getElem?_eq_getElem (by omega)⟩
    have e9 : ∃ v, G.cell? ⟨g, s * 10 + 9, none⟩ = some v := ⟨_, by rw [hr.cellAt (s * 10 + 9) (by omega)]; exact List.getElem?_eq_getElem (by omega)⟩
    obtain ⟨v5, e5⟩ := e5
    obtain ⟨v6, e6⟩ := e6
    obtain ⟨v7, e7⟩ := e7
    obtain ⟨v8, e8⟩ := e8
    obtain ⟨v9, e9⟩ := e9
    have fr := hr.frozenAt
    have f5 := fr (s * 10 + 5)
    have f6 := fr (s * 10 + 6)
    have f7 := fr (s * 10 + 7)
    have f8 := fr (s * 10 + 8)
    have f9 := fr (s * 10 + 9)
    obtain ⟨b0, b1, b2, b3, b4, _, _, _, _, _, bz⟩ := five_cell g6
    clear hB g1 g2 g4 g5 g6 hr hlen fr hd2 hk2 hl2 hp2 hb2 s5 s6 s7 s8 s9 x0 x1 x2 x3 x4 x5 x6 x7 x8 x9 q0 q1 q2 q3 q4 qz
    go_wp2_with fail
    obtain ⟨G2, hG2⟩ : ∃ G2, G2 = (((((G.setCell ⟨g, s * 10 + 5, none⟩ (.int .i64 l2.e)).setCell ⟨g, s * 10 + 5 + 1, none⟩ (.int .i64 l2.n)).setCell ⟨g, s * 10 + 5 + 2, none⟩ (.slice l2.sA l2.s.length l2.sc)).setCell ⟨g, s * 10 + 5 + 3, none⟩ (.slice l2.qA l2.q.length l2.qc)).setCell ⟨g, s * 10 + 5 + 4, none⟩ (.int .i64 l2.h)) := ⟨_, rfl⟩
    rw [← hG2]
    have hKX := HK.out.lt
    have hlo := HK.out.lo
    have hpl : ∀ y, (Value.slice A L.length c).ownBlock = some y → X + 1 ≤ y ∧ y < WA.heap.size := fun y hy => HK.out.prow.lt y hy
    have hql : ∀ y, (Value.slice n.sA n.S.length n.sc).ownBlock = some y → base ≤ y ∧ y < WA.heap.size := fun y hy => HK.out.srow.lt y hy
    have hqg : (Value.slice n.sA n.S.length n.sc).ownBlock = some g := by rw [HG.out]; rfl
    have hfree : ∀ b, WA.heap.size ≤ b → b < G.heap.size → FreeB G base X (Value.slice A L.length c).ownBlock (Value.slice n.sA n.S.length n.sc).ownBlock b := fun b h8 h9 =>
      ⟨⟨by omega, h9⟩, by omega, fun e => by have := hpl b e; omega, fun e => by have := hql b e; omega⟩
    have HS2 := Lib.hid (show Busy 75 G2 base X (n.link s l2) A c L R by
      rw [hG2]
      exact HG1.out.setLink (by decide) hs HG.out l2 (HG4.out.moved fun b hb => ⟨hfree b hb.1 hb.2, rfl⟩))
    have hO2 : Only g G G2 := by rw [hG2]; exact ((((Only.set _ _ _).trans (Only.set _ _ _)).trans (Only.set _ _ _)).trans (Only.set _ _ _)).trans (Only.set _ _ _)
    have hz2 : G2.heap.size = G.heap.size := by rw [hG2]; simp [World.setCell]
    have hgW : g < WA.heap.size := (hql g hqg).2
    have hll : (n.link s l2).S.length = n.S.length := by simp [NodeV.link]
    have hPS := HG5.out.moved (S' := fun b => WA.heap.size ≤ b ∧ b < G2.heap.size) (w' := G2) fun b hb => ⟨⟨hb.1, by rw [hz2]; exact hb.2⟩, hO2.block b hb.2 (by have := hb.1; omega)⟩
    have hPC := post_c G2 X (n.link s l2) A c L R s (by rw [hll]; exact hs) A2 c2 K (HS2.out.work (by decide)) (hPS.row.moved fun b hb => ⟨⟨hb.2, by have := hb.1; omega, fun e => by have := hpl b e; have := hb.1; omega⟩, rfl⟩)
      (fun q hq => (hPS.each q hq).moved fun b hb => ⟨⟨⟨by have := hb.1; omega, hb.2⟩, fun e => by have := hpl b e; have := hb.1; omega⟩, rfl⟩) (by omega)
    have hpe : ∀ h : s < (n.link s l2).S.length, (n.link s l2).S[s].p = n.S[s].p := fun h => by simp [NodeV.link, List.getD_eq_getElem?_getD, List.getElem?_eq_getElem hs]
    rw [hpe] at hPC
    have HPC := Lib.hid hPC
    have HKK := Lib.hid (show ∀ q ∈ K, OpIn (fun b => X + 1 ≤ b ∧ FreeB G2 base X (Value.slice A L.length c).ownBlock (Value.slice (n.link s l2).sA (n.link s l2).S.length (n.link s l2).sc).ownBlock b) G2 q.f.o.A q.f.o.ps from fun q hq => (hPS.each q hq).moved fun b hb => ⟨⟨by have := hb.1; omega, by
      have h9 := hfree b hb.1 (by rw [← hz2]; exact hb.2)
      rw [hll]
      exact ⟨⟨h9.1.1, hb.2⟩, h9.2⟩⟩, rfl⟩)
    have HBL := Lib.hid (show Below base w G2 from (HG2.out.mono (by have := HBA.out.size; have := (HB.out.lt); omega)).trans (hO2.below (by have := hql g hqg; omega) (by have := HG1.out.lt; omega)))
    have HPL := Lib.hid hpl
    clear hPC hPS hpe hO2 hz2 hfree hql hqg hpl hG2 e5 e6 e7 e8 e9 f5 f6 f7 f8 f9 b0 b1 b2 b3 b4 bz hgB hBg hgG
    refine HPC.out.mono ?_
    rintro r w4 ⟨rfl, A', c', hp4⟩
    have HP4 := Lib.hid hp4
    clear hp4
    go_wp2_with fail
    refine bodyPost_end (results_none rfl _ _ _) rfl ⟨rfl, l2, A', c', _, HS2.out.posted (by decide) HP4.out HKK.out, HD2.out, ?_, ?_⟩
    · rw [List.map_append, List.map_map, ← HKD.out, List.map_map]
      rfl
    · have h7 := HG1.out.lt
      exact HBL.out.trans (HP4.out.turned.below HK.out.lo (fun y hy => by have := HPL.out y hy; omega) (by have := HS2.out.lt; omega)))
end Go.Proofs.YtbmdepbmejnlkaaDoor
namespace Go.Proofs.YtbmdepbmejnlkaaDoor
open Go.ChangeShapes Go.WideShapes Go.ChangeAt Go.RowKit
set_option maxRecDepth 100000
/-- A link that was opened. -/
def openL (e : Int) : LinkV := ⟨e, 1, none, 0, [], none, 0, [], 0⟩
/-- The frame that asks for the text. -/
def joinF (e u : Int) : FrameV := ⟨2, u, e, ⟨none, 0, []⟩, ⟨#[]⟩⟩
theorem openL_may {e : Int} (h : 1 ≤ e ∧ e ≤ 1048576) : linkMay (openL e) := by
  unfold linkMay linkNums linkLens linkNone framesOk openL
  simp
  omega
theorem joinF_ok {e u : Int} (h : 1 ≤ e ∧ e ≤ 1048576) (hu : 0 ≤ u ∧ u ≤ 1048576) : frameFault (joinF e u).d = 0 := by
  have h1 : textFault ⟨#[]⟩ = 0 := by unfold textFault; rw [if_neg (by decide), if_neg (by decide)]
  have h2 : opFault [] = 0 := by decide
  unfold frameFault joinF
  dsimp only
  rw [if_neg (by omega), if_neg (by omega), if_neg (by simpa using h2), if_neg (by simpa using h1), if_pos]
  unfold formOk
  have h9 : ¬ e = 0 := by omega
  simp [h9]
theorem openL_small (e : Int) : (openL e).Small := ⟨Nat.zero_le _, Nat.zero_le _, (by intro f hf; cases hf), (by intro f hf; cases hf)⟩
theorem openL_inS (S : Nat → Prop) (w : World) (e : Int) : (openL e).InS S w := ⟨Sl.nil, (by intro f hf; cases hf), Sl.nil, (by intro f hf; cases hf)⟩
theorem link_link {n : NodeV} {s : Nat} (a b : LinkV) (hs : s < n.S.length) : (n.link s a).link s b = n.link s b := by
  unfold NodeV.link
  simp [List.getD_eq_getElem?_getD, hs]
set_option maxHeartbeats 1000000 in
theorem join_c (w : World) (base X : Nat) (n : NodeV) (A : Option Addr) (c : Nat) (L : List PostV) (R : Value) (hs : 0 < n.S.length) (hT : ∀ W, Below base w W → Tabs W) (h : Busy 75 w base X n A c L R) (he : 1 ≤ n.ep ∧ n.ep ≤ 1048576) (hu : 0 ≤ n.up ∧ n.up ≤ 1048576) (hl : L.length ≤ 1099511000000) :
    Calls Tryd.prog 40 #[.pointer (some ⟨X, 0, none⟩)] w fun e w' => e = .returned (.tuple #[]) ∧ ∃ l' A' c' L', Busy 75 w' base X (n.link 0 l') A' c' L' R ∧ l'.d = fillL (waitL (openL n.ep).d (joinF n.ep n.up).d) ∧ L'.map PostV.d = L.map PostV.d ++ (fillP (waitL (openL n.ep).d (joinF n.ep n.up).d)).map (PostD.mk n.S[0].p) ∧ Below base w w' := by
  obtain ⟨g, hg⟩ : ∃ g, n.sA = some ⟨g, 0, none⟩ := by
    obtain ⟨g, cap, hv, _, _⟩ := h.srow.form (by omega)
    exact ⟨g, by injection hv⟩
  have HOG := Lib.hid (fun W => open_good n.ep W he.1 he.2)
  have HT := Lib.hid hT
  have HB := Lib.hid h
  have HG := Lib.hid hg
  have HE := Lib.hid he
  have HU := Lib.hid hu
  obtain ⟨x0, x1, x2, x3, x4, x5, x6, x7, x8, x9, xz⟩ := ten_cell HB.out.blk
  rw [hg] at x5
  clear hg hT h he hu
  go_enter Tryd.func40, Tryd.ntmps40
  go_wp2_with fail
  refine (workNode_c _ X).mono ?_
  rintro r w1 ⟨rfl, rfl⟩
  go_wp2_with fail
  refine (HOG.out _).mono ?_
  rintro r w1 ⟨rfl, hb1⟩
  have HB1 := Lib.hid hb1
  have HK := Lib.hid (HB.out.later hb1)
  clear hb1 x0 x1 x2 x3 x4 x5 x6 x7 x8 x9 xz
  have hgw : g < w1.heap.size := by
    have hr := HK.out.srow
    rw [HG.out] at hr
    exact (hr.lt g rfl).2
  go_wp2_with fail
  have hbx : Below w1.heap.size w1 (w1.alloc (.cells #[.int .i64 n.ep, .int .i64 1, .slice none 0 0, .slice none 0 0, .int .i64 0] 63)) := bAlloc (Below.refl _ _) _
  obtain ⟨B, hB⟩ : ∃ B, B = w1.heap.size := ⟨_, rfl⟩
  rw [← hB]
  refine wp_hide (fun G => Busy 75 G base X n A c L R ∧ Below w.heap.size w G ∧ G.heap[B]? = some (.cells #[.int .i64 n.ep, .int .i64 1, .slice none 0 0, .slice none 0 0, .int .i64 0] 63 (0, 0))) ⟨HK.out.later hbx, bThen HB1.out hbx, by rw [hB]; exact World.alloc_heap_new _ _⟩ ?_
  rintro G ⟨g1, g2, g6⟩
  have HG1 := Lib.hid g1
  have HG2 := Lib.hid g2
  have hgB : ¬ g = B := by omega
  have hBg : ¬ B = g := by omega
  have hgG : g < G.heap.size := by have := (Array.getElem?_eq_some_iff.1 g6).1; omega
  have hr := g1.srow
  rw [HG.out] at hr
  have hlen : (n.S.flatMap SideV.cells).length = n.S.length * 10 := by have h9 := hr.1; exact h9
  have e5 : ∃ v, G.cell? ⟨g, 5, none⟩ = some v := ⟨_, by rw [hr.cellAt 5 (by omega)]; exact List.getElem?_eq_getElem (by omega)⟩
  have e6 : ∃ v, G.cell? ⟨g, 6, none⟩ = some v := ⟨_, by rw [hr.cellAt 6 (by omega)]; exact List.getElem?_eq_getElem (by omega)⟩
  have e7 : ∃ v, G.cell? ⟨g, 7, none⟩ = some v := ⟨_, by rw [hr.cellAt 7 (by omega)]; exact List.getElem?_eq_getElem (by omega)⟩
  have e8 : ∃ v, G.cell? ⟨g, 8, none⟩ = some v := ⟨_, by rw [hr.cellAt 8 (by omega)]; exact List.getElem?_eq_getElem (by omega)⟩
  have e9 : ∃ v, G.cell? ⟨g, 9, none⟩ = some v := ⟨_, by rw [hr.cellAt 9 (by omega)]; exact List.getElem?_eq_getElem (by omega)⟩
  obtain ⟨v5, e5⟩ := e5
  obtain ⟨v6, e6⟩ := e6
  obtain ⟨v7, e7⟩ := e7
  obtain ⟨v8, e8⟩ := e8
  obtain ⟨v9, e9⟩ := e9
  have fr := hr.frozenAt
  have f5 := fr 5
  have f6 := fr 6
  have f7 := fr 7
  have f8 := fr 8
  have f9 := fr 9
  obtain ⟨b0, b1, b2, b3, b4, _, _, _, _, _, bz⟩ := five_cell g6
  obtain ⟨_, _, _, _, _, x5, _, _, _, _, xz⟩ := ten_cell g1.blk
  rw [HG.out] at x5
  clear hB g1 g2 g6 hr hlen fr hbx
  have HS := Lib.hid (show Busy 75 (((((G.setCell ⟨g, 5, none⟩ (.int .i64 n.ep)).setCell ⟨g, 6, none⟩ (.int .i64 1)).setCell ⟨g, 7, none⟩ (.slice none 0 0)).setCell ⟨g, 8, none⟩ (.slice none 0 0)).setCell ⟨g, 9, none⟩ (.int .i64 0)) base X (n.link 0 (openL n.ep)) A c L R from HG1.out.setLink (by decide) hs HG.out (openL n.ep) (openL_inS _ _ _))
  have hO2 : Only g G (((((G.setCell ⟨g, 5, none⟩ (.int .i64 n.ep)).setCell ⟨g, 6, none⟩ (.int .i64 1)).setCell ⟨g, 7, none⟩ (.slice none 0 0)).setCell ⟨g, 8, none⟩ (.slice none 0 0)).setCell ⟨g, 9, none⟩ (.int .i64 0)) := ((((Only.set _ _ _).trans (Only.set _ _ _)).trans (Only.set _ _ _)).trans (Only.set _ _ _)).trans (Only.set _ _ _)
  have hgb : base ≤ g := by
    have hr := HG1.out.srow
    rw [HG.out] at hr
    exact (hr.lt g rfl).1
  have hbw : base < w.heap.size := by have := HB.out.lt; have := HB.out.lo; omega
  have HBL := Lib.hid (show Below base w (((((G.setCell ⟨g, 5, none⟩ (.int .i64 n.ep)).setCell ⟨g, 6, none⟩ (.int .i64 1)).setCell ⟨g, 7, none⟩ (.slice none 0 0)).setCell ⟨g, 8, none⟩ (.slice none 0 0)).setCell ⟨g, 9, none⟩ (.int .i64 0)) from (HG2.out.mono (by omega)).trans (hO2.below hgb (by have := HG2.out.size; omega)))
  clear hO2
  go_region
  all_goals (
    refine post_hide (fun H => Busy 75 H base X (n.link 0 (openL n.ep)) A c L R ∧ Below base w H) ⟨HS.out.later (Below.drew (Below.refl _ _)), HBL.out.trans ((Below.drew (Below.refl _ _)).mono (by have := HBL.out.size; omega))⟩ ?_
    clear e5 e6 e7 e8 e9 f5 f6 f7 f8 f9 b0 b1 b2 b3 b4 bz x5 xz HS HBL
    rintro H ⟨h1, h2⟩
    have HH1 := Lib.hid h1
    have HH2 := Lib.hid h2
    clear h1 h2
    obtain ⟨x0, x1, x2, x3, x4, x5, x6, x7, x8, x9, xz⟩ := ten_cell HH1.out.blk
    have hll : (n.link 0 (openL n.ep)).S.length = n.S.length := by simp [NodeV.link]
    have hk0 : ∀ h : 0 < (n.link 0 (openL n.ep)).S.length, (n.link 0 (openL n.ep)).S[0].k = openL n.ep ∧ (n.link 0 (openL n.ep)).S[0].p = n.S[0].p := fun h => by simp [NodeV.link, List.getD_eq_getElem?_getD, List.getElem?_eq_getElem hs]
    have x1' : H.cell? ⟨X, 1, none⟩ = some (.int .i64 n.ep) := x1
    have x2' : H.cell? ⟨X, 2, none⟩ = some (.int .i64 n.up) := x2
    have hs' : 0 < (n.link 0 (openL n.ep)).S.length := by rw [hll]; exact hs
    have HSN : Hid (∀ W, Below H.heap.size H W → Calls Tryd.prog 68 #[.pointer (some ⟨X, 0, none⟩), .int .i64 0, .agg #[.int .i64 2, .int .i64 n.up, .int .i64 n.ep, .slice none 0 0, .string ⟨#[]⟩]] W fun e w' => e = .returned (.tuple #[]) ∧ ∃ l' A' c' L', Busy 75 w' base X (n.link 0 l') A' c' L' R ∧ l'.d = fillL (waitL (openL n.ep).d (joinF n.ep n.up).d) ∧ L'.map PostV.d = L.map PostV.d ++ (fillP (waitL (openL n.ep).d (joinF n.ep n.up).d)).map (PostD.mk n.S[0].p) ∧ Below base W w') := Lib.hid (fun W hb => by
      have hk := hk0 hs'
      have hc := send_c W base X (n.link 0 (openL n.ep)) A c L R 0 hs' (joinF n.ep n.up) (HT.out W (HH2.out.trans (hb.mono (by have := HH2.out.size; omega)))) (HH1.out.later hb) (by rw [hk.1]; exact openL_small _) Sl.nil ⟨⟨Nat.zero_le _, (by intro p hp; cases hp)⟩, Nat.zero_le _⟩ (by rw [hk.1]; exact openL_may HE.out) (by rw [hk.1]; have := HE.out; show n.ep ≠ 0; omega) (joinF_ok HE.out HU.out) (by rw [hk.1]; show (1 : Int) ≠ 1048576; omega) hl
      rw [hk.1, hk.2] at hc
      simp only [link_link _ _ hs] at hc
      exact hc)
    clear x0 x1 x2 x3 x4 x5 x6 x7 x8 x9
    go_wp2_with fail
    go_region_law (go_simp; go_at_call 68; refine (HSN.out _ (by repeat (first | exact Below.refl _ _ | apply bGrow | apply bAlloc | apply Below.drew | apply bDrewN | apply bIter))).mono ?_; rintro r w4 ⟨rfl, hq⟩)
    all_goals (
      go_wp2_with fail
      obtain ⟨l', A', c', L', q1, q2, q3, q4⟩ := hq
      exact bodyPost_end (results_none rfl _ _ _) rfl ⟨rfl, l', A', c', L', q1, q2, q3, HH2.out.trans (Below.trans (show Below base H _ from (by repeat (first | exact Below.refl _ _ | apply bGrow | apply bAlloc | apply Below.drew | apply bDrewN | apply bIter))) q4)⟩))
end Go.Proofs.YtbmdepbmejnlkaaDoor
