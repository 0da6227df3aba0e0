/- A part of the proof of NodeUndoes. -/
import Derived.Test.YtacacoklddogmaaGreatDoorKFD
import Derived.Test.YtacacoklddogmaaGreatDoorKEC
namespace Go.Proofs.YtacacoklddogmaaGreatDoor
set_option maxHeartbeats 4000000
open Go.ChangeShapes Go.WideShapes Go.ChangeAt Go.RowKit
set_option maxRecDepth 100000
section
variable {w : World} {P base : Nat} {nb : Option Nat} {e n h : Int} {sA qA A : Option Addr} {sc qc c m : Nat} {s q L : List FrameV}
end
theorem yf_ {w : World} {base base' size n : Nat} {e : TypeId} {v : Value} {xs : List Value} (h : w.ownsRow base e size v n xs) (hb : base' ≤ base) : w.ownsRow base' e size v n xs :=
 ⟨h.1, h.2.imp id fun ⟨g, cap, cur, e1, hg, rest⟩ => ⟨g, cap, cur, e1, Nat.le_trans hb hg, rest⟩⟩
theorem nt_ {w w' : World} {base size n : Nat} {e : TypeId} {v : Value} {xs : List Value} (h : w.ownsRow base e size v n xs) (hb : Below w.heap.size w w') : w'.ownsRow base e size v n xs :=
 h.kept (row := none) ⟨hb.os, hb.tape, hb.output, hb.size, fun k hk _ => hb.block k hk⟩ (by cases v.ownBlock <;> simp)
theorem ms_ {w : World} {base size n P j : Nat} {e : TypeId} {v x : Value} {xs : List Value} (h : w.ownsRow base e size v n xs) (hP : v.ownBlock ≠ some P) : (w.setCell ⟨P, j, none⟩ x).ownsRow base e size v n xs :=
 h.kept (row := some P) ⟨rfl, rfl, rfl, by simp [World.setCell], fun k _ hk => bH_ (fun e1 => hk (by simp [e1]))⟩ (.inr hP)
theorem vz_ {L L' : List FrameV} (h : L'.map FrameV.d = L.map FrameV.d) {N : Nat} (hk : ∀ f ∈ L, f.o.ps.length ≤ N) : ∀ f ∈ L', f.o.ps.length ≤ N := by
 intro f hf
 have : f.d ∈ L.map FrameV.d := by rw [← h]; exact List.mem_map.2 ⟨f, hf, rfl⟩
 obtain ⟨g, hg, e⟩ := List.mem_map.1 this
 have h2 := congrArg (fun x => x.op.length) e
 have h3 := hk g hg
 dsimp only at h2
 omega
theorem infoInt : (Tryz.prog.info? 3).map (fun i => (i.zero, i.size, i.bytes)) = some (some (.int .i64 0), 1, 8) := by kernel_rfl
structure LinkSy (lo : Nat) (w : World) (P : Nat) (nb : Option Nat) (l : LinkV) : Prop where
 at_ : LinkAt w P l
 sr : Sl (fun b => (lo ≤ b ∧ b < w.heap.size) ∧ b ≠ P ∧ b ≠ P + 1 ∧ nb ≠ some b) w 5 l.sA l.s.length (l.s.flatMap FrameV.cells)
 s : ∀ f ∈ l.s, OpIn (fun b => (lo ≤ b ∧ b < w.heap.size) ∧ b ≠ P ∧ b ≠ P + 1 ∧ nb ≠ some b) w f.o.A f.o.ps
 qr : Sl (fun b => (lo ≤ b ∧ b < w.heap.size) ∧ b ≠ P ∧ b ≠ P + 1 ∧ nb ≠ some b) w 5 l.qA l.q.length (l.q.flatMap FrameV.cells)
 q : ∀ f ∈ l.q, OpIn (fun b => (lo ≤ b ∧ b < w.heap.size) ∧ b ≠ P ∧ b ≠ P + 1 ∧ nb ≠ some b) w f.o.A f.o.ps
 qcap : l.q.length ≤ l.qc
theorem LinkSy.later {lo : Nat} {w w' : World} {P : Nat} {nb : Option Nat} {l : LinkV} (h : LinkSy lo w P nb l) (hb : Below w.heap.size w w') : LinkSy lo w' P nb l := by
 have hz := hb.size
 have key : ∀ b, ((lo ≤ b ∧ b < w.heap.size) ∧ b ≠ P ∧ b ≠ P + 1 ∧ nb ≠ some b) → ((lo ≤ b ∧ b < w'.heap.size) ∧ b ≠ P ∧ b ≠ P + 1 ∧ nb ≠ some b) ∧ w'.heap[b]? = w.heap[b]? := fun b hx => ⟨⟨⟨hx.1.1, by omega⟩, hx.2⟩, hb.block b hx.1.2⟩
 exact ⟨(hb.block _ (i_ h.at_).2.2.2.2.2.2.2.2.2.2).trans h.at_, h.sr.moved key, fun f hf => (h.s f hf).moved key, h.qr.moved key, fun f hf => (h.q f hf).moved key, h.qcap⟩
theorem LinkSy.in_ {lo : Nat} {w : World} {P : Nat} {nb : Option Nat} {l : LinkV} (h : LinkSy lo w P nb l) : l.In w :=
 ⟨⟨h.sr.moved fun _ hb => ⟨hb.1.2, rfl⟩, fun f hf => (h.s f hf).moved fun _ hb => ⟨hb.1.2, rfl⟩⟩, ⟨h.qr.moved fun _ hb => ⟨hb.1.2, rfl⟩, fun f hf => (h.q f hf).moved fun _ hb => ⟨hb.1.2, rfl⟩⟩⟩
theorem LinkSy.inS_only {lo : Nat} {w w' : World} {P : Nat} {nb : Option Nat} {l : LinkV} (h : LinkSy lo w P nb l) (ho : Only (P + 1) w w') : l.InS (fun b => lo ≤ b ∧ b < w'.heap.size) w' := by
 have hz := ho.size
 have key : ∀ b, ((lo ≤ b ∧ b < w.heap.size) ∧ b ≠ P ∧ b ≠ P + 1 ∧ nb ≠ some b) → (lo ≤ b ∧ b < w'.heap.size) ∧ w'.heap[b]? = w.heap[b]? := fun b hx => ⟨⟨hx.1.1, by omega⟩, ho.block b hx.1.2 hx.2.2.1⟩
 exact ⟨h.sr.moved key, fun f hf => (h.s f hf).moved key, h.qr.moved key, fun f hf => (h.q f hf).moved key⟩
theorem LinkSy.of {lo : Nat} {w W : World} {l : LinkV} (hi : l.InS (fun b => lo ≤ b ∧ b < w.heap.size) w) (hc : l.q.length ≤ l.qc) (hb : Below w.heap.size w W) (hl : LinkAt W w.heap.size l) : LinkSy lo W w.heap.size none l := by
 have hz := hb.size
 have key : ∀ b, (lo ≤ b ∧ b < w.heap.size) → ((lo ≤ b ∧ b < W.heap.size) ∧ b ≠ w.heap.size ∧ b ≠ w.heap.size + 1 ∧ (none : Option Nat) ≠ some b) ∧ W.heap[b]? = w.heap[b]? := fun b hx => ⟨⟨⟨hx.1, by omega⟩, by omega, by omega, by simp⟩, hb.block b hx.2⟩
 exact ⟨hl, hi.s.moved key, fun f hf => (hi.so f hf).moved key, hi.q.moved key, fun f hf => (hi.qo f hf).moved key, hc⟩
theorem LinkSy.grown {lo : Nat} {w W2 w3 : World} {P : Nat} {nb nb' : Option Nat} {l : LinkV} (k : LinkSy lo w P nb l) (hP : nb ≠ some P) (hW : Below w.heap.size w W2) (hg : W2.grownBy w3 nb) (hn : nb' = nb ∨ nb' = some W2.heap.size) : LinkSy lo w3 P nb' l := by
 have hz := hW.size
 have hz3 := hg.size
 have key : ∀ b, ((lo ≤ b ∧ b < w.heap.size) ∧ b ≠ P ∧ b ≠ P + 1 ∧ nb ≠ some b) → ((lo ≤ b ∧ b < w3.heap.size) ∧ b ≠ P ∧ b ≠ P + 1 ∧ nb' ≠ some b) ∧ w3.heap[b]? = w.heap[b]? := fun b hx => by
  refine ⟨⟨⟨hx.1.1, by omega⟩, hx.2.1, hx.2.2.1, fun e1 => ?_⟩, (hg.block b (by omega) (fun e1 => hx.2.2.2 e1.symm)).trans (hW.block b hx.1.2)⟩
  rcases hn with h | h
  · exact hx.2.2.2 (h.symm.trans e1)
  · rw [h] at e1
    injection e1 with e1
    omega
 have hPl := (i_ k.at_).2.2.2.2.2.2.2.2.2.2
 exact ⟨(hg.block P (by omega) (fun e1 => hP e1.symm)).trans ((hW.block P hPl).trans k.at_), k.sr.moved key, fun f hf => (k.s f hf).moved key, k.qr.moved key, fun f hf => (k.q f hf).moved key, k.qcap⟩
section
variable {lo : Nat} {w : World} {P base : Nat} {nb : Option Nat} {e n h : Int} {sA qA A : Option Addr} {sc qc c m : Nat} {s q L : List FrameV}
theorem LinkSy.sent (k : LinkSy lo w P nb ⟨e, n, sA, sc, s, qA, qc, q, h⟩) (hn : FramesOwn w base A c L) (hlo : lo ≤ base) (hb : P + 1 < base) (hnb : ∀ g, nb = some g → g < base) (hm : L.length = m) : LinkSy lo (w.setCell ⟨P, 2, none⟩ (.slice A m c)) P nb ⟨e, n, A, c, L, qA, qc, q, h⟩ := by
 subst hm
 have hs : (w.setCell ⟨P, 2, none⟩ (.slice A L.length c)).heap.size = w.heap.size := by simp [World.setCell]
 have key : ∀ b, ((lo ≤ b ∧ b < w.heap.size) ∧ b ≠ P ∧ b ≠ P + 1 ∧ nb ≠ some b) → ((lo ≤ b ∧ b < (w.setCell ⟨P, 2, none⟩ (.slice A L.length c)).heap.size) ∧ b ≠ P ∧ b ≠ P + 1 ∧ nb ≠ some b) ∧ (w.setCell ⟨P, 2, none⟩ (.slice A L.length c)).heap[b]? = w.heap[b]? := fun b hx => ⟨by rw [hs]; exact hx, bH_ hx.2.1⟩
 refine ⟨e_ 2 _ k.at_, ((Sl.of_own _ hn.row).moved (S' := fun b => (lo ≤ b ∧ b < w.heap.size) ∧ b ≠ P ∧ b ≠ P + 1 ∧ nb ≠ some b) (w' := w) fun b hx => ⟨⟨⟨by omega, hx.2⟩, by omega, by omega, fun e1 => by have := hnb b e1; omega⟩, rfl⟩).moved key, fun f hf => ((hn.each f hf).moved (S' := fun b => (lo ≤ b ∧ b < w.heap.size) ∧ b ≠ P ∧ b ≠ P + 1 ∧ nb ≠ some b) (w' := w) fun b hx => ⟨⟨⟨by omega, hx.1.2⟩, by omega, by omega, fun e1 => by have := hnb b e1; omega⟩, rfl⟩).moved key, k.qr.moved key, fun f hf => (k.q f hf).moved key, k.qcap⟩
theorem LinkSy.queue (k : LinkSy lo w P nb ⟨e, n, sA, sc, s, qA, qc, q, h⟩) (hn : FramesOwn w base A c L) (hlo : lo ≤ base) (hb : P + 1 < base) (hnb : ∀ g, nb = some g → g < base) (hm : L.length = m) : LinkSy lo (w.setCell ⟨P, 3, none⟩ (.slice A m c)) P nb ⟨e, n, sA, sc, s, A, c, L, h⟩ := by
 subst hm
 have hs : (w.setCell ⟨P, 3, none⟩ (.slice A L.length c)).heap.size = w.heap.size := by simp [World.setCell]
 have key : ∀ b, ((lo ≤ b ∧ b < w.heap.size) ∧ b ≠ P ∧ b ≠ P + 1 ∧ nb ≠ some b) → ((lo ≤ b ∧ b < (w.setCell ⟨P, 3, none⟩ (.slice A L.length c)).heap.size) ∧ b ≠ P ∧ b ≠ P + 1 ∧ nb ≠ some b) ∧ (w.setCell ⟨P, 3, none⟩ (.slice A L.length c)).heap[b]? = w.heap[b]? := fun b hx => ⟨by rw [hs]; exact hx, bH_ hx.2.1⟩
 refine ⟨e_ 3 _ k.at_, k.sr.moved key, fun f hf => (k.s f hf).moved key, ((Sl.of_own _ hn.row).moved (S' := fun b => (lo ≤ b ∧ b < w.heap.size) ∧ b ≠ P ∧ b ≠ P + 1 ∧ nb ≠ some b) (w' := w) fun b hx => ⟨⟨⟨by omega, hx.2⟩, by omega, by omega, fun e1 => by have := hnb b e1; omega⟩, rfl⟩).moved key, fun f hf => ((hn.each f hf).moved (S' := fun b => (lo ≤ b ∧ b < w.heap.size) ∧ b ≠ P ∧ b ≠ P + 1 ∧ nb ≠ some b) (w' := w) fun b hx => ⟨⟨⟨by omega, hx.1.2⟩, by omega, by omega, fun e1 => by have := hnb b e1; omega⟩, rfl⟩).moved key, (gm_ hn.row).1⟩
theorem LinkSy.next (k : LinkSy lo w P nb ⟨e, n, sA, sc, s, qA, qc, q, h⟩) (n' : Int) : LinkSy lo (w.setCell ⟨P, 1, none⟩ (.int .i64 n')) P nb ⟨e, n', sA, sc, s, qA, qc, q, h⟩ := by
 have hs : (w.setCell ⟨P, 1, none⟩ (.int .i64 n')).heap.size = w.heap.size := by simp [World.setCell]
 have key : ∀ b, ((lo ≤ b ∧ b < w.heap.size) ∧ b ≠ P ∧ b ≠ P + 1 ∧ nb ≠ some b) → ((lo ≤ b ∧ b < (w.setCell ⟨P, 1, none⟩ (.int .i64 n')).heap.size) ∧ b ≠ P ∧ b ≠ P + 1 ∧ nb ≠ some b) ∧ (w.setCell ⟨P, 1, none⟩ (.int .i64 n')).heap[b]? = w.heap[b]? := fun b hx => ⟨by rw [hs]; exact hx, bH_ hx.2.1⟩
 exact ⟨e_ 1 _ k.at_, k.sr.moved key, fun f hf => (k.s f hf).moved key, k.qr.moved key, fun f hf => (k.q f hf).moved key, k.qcap⟩
end
def RetFilledF (lo : Nat) (w : World) (d : LinkD) (e : Ending) (w' : World) : Prop :=
 ∃ (l : LinkV) (A : Option Addr) (c : Nat) (L : List PacketV), e = .returned (.tuple #[l.val, .slice A L.length c]) ∧ l.d = fillL d ∧ L.map PacketV.d = fillP d ∧ l.InS (fun b => lo ≤ b ∧ b < w'.heap.size) w' ∧ PacketsOwn w' w.heap.size A c L ∧ Below w.heap.size w w'
theorem vi_ (lo : Nat) (w : World) (l : LinkV) (hi : l.InS (fun b => lo ≤ b ∧ b < w.heap.size) w) (hqc : l.q.length ≤ l.qc) (hs : l.s.length ≤ 8) (hn : 1 ≤ l.n ∧ l.n ≤ 1048576) (hq : l.q.length ≤ 1048577) (hm : (∀ f ∈ l.s, f.o.ps.length ≤ 1048576) ∧ ∀ f ∈ l.q, f.o.ps.length ≤ 1048576) :
 Calls Tryz.prog 117 #[l.val] w (RetFilledF lo w l.d) := by
 obtain ⟨i0, hi0, hz0, hz1, hz2⟩ := info_parts infoPacket
 obtain ⟨j0, hj0, hy0, hy1, hy2⟩ := info_parts infoFrame
 obtain ⟨k0, hk0, hx0, hx1, hx2⟩ := info_parts infoInt
 obtain ⟨W1, hW1⟩ : ∃ W1, W1 = w.alloc (.cells #[.int .i64 l.e, .int .i64 l.n, .slice l.sA l.s.length l.sc, .slice l.qA l.q.length l.qc, .int .i64 l.h] 58) := ⟨_, rfl⟩
 obtain ⟨WA, hWA⟩ : ∃ WA, WA = W1.alloc (.cells #[.int .i64 0, .int .i64 0, .slice none 0 0, .slice none 0 0, .int .i64 0] 58) := ⟨_, rfl⟩
 have g1 : W1.heap.size = w.heap.size + 1 := by rw [hW1]; simp
 have g2 : WA.heap.size = W1.heap.size + 1 := by rw [hWA]; simp
 have k1 : Below w.heap.size w W1 := by rw [hW1]; exact bA_
 have k2 : Below W1.heap.size W1 WA := by rw [hWA]; exact bA_
 have HBA := h_ (bThen k1 k2)
 have HLA := h_ (LinkSy.of hi hqc HBA.out ((k2.block _ (by omega)).trans (by rw [hW1]; exact heap_alloc_new _ _)))
 have HRA := h_ (show LinkAt WA (w.heap.size + 1) zeroL by rw [← g1, hWA]; exact heap_alloc_new _ _)
 have HW := h_ (show (w.alloc (.cells #[.int .i64 l.e, .int .i64 l.n, .slice l.sA l.s.length l.sc, .slice l.qA l.q.length l.qc, .int .i64 l.h] 58)).alloc (.cells #[.int .i64 0, .int .i64 0, .slice none 0 0, .slice none 0 0, .int .i64 0] 58) = WA by rw [hWA, hW1])
 obtain ⟨P, hP⟩ : ∃ P, P = w.heap.size := ⟨_, rfl⟩
 have HE := h_ hP
 have hPz : P + 2 = WA.heap.size := by omega
 rw [← hP] at HLA HRA
 have HM := h_ hm
 clear hP k1 k2 g1 g2 hWA hW1 hi hm
 go_enter Tryz.func117, Tryz.ntmps117
 go_wp2_with fail
 rw [HW.out, ← HE.out]
 go_loopw [4] (fun new wr => ∃ (m : Nat) (lm : LinkV) (An : Option Addr) (cn : Nat), new = .slice An m cn ∧ lm.d = moveL l.d m ∧ m ≤ l.q.length ∧ l.s.length + m ≤ 8 ∧ l.n + m ≤ 1048576 ∧ wr.ownsRow WA.heap.size 3 1 (.slice An m cn) m ((List.range m).map fun i => Value.int .i64 (l.n + (i : Nat))) ∧ LinkSy lo wr P (Value.slice An m cn).ownBlock lm ∧ LinkAt wr (P + 1) zeroL ∧ ((∀ f ∈ lm.s, f.o.ps.length ≤ 1048576) ∧ ∀ f ∈ lm.q, f.o.ps.length ≤ 1048576) ∧ Below w.heap.size w wr ∧ WA.heap.size ≤ wr.heap.size) (fun _ wr => 8 - lenAt wr P)
 case atStart => exact ⟨0, l, none, 0, rfl, by unfold moveL; simp, Nat.zero_le _, by omega, by omega, World.ownsRow_nil _ _ _ _, HLA.out, HRA.out, HM.out, HBA.out, Nat.le_refl _⟩
 case round =>
  obtain ⟨m, lm, An, cn, rfl, hd, hm1, hm2, hm3, hnew, hL, hR, hM, hbw, hsz⟩ := hrel
  obtain ⟨e, n, sA, sc, s, qA, qc, q, hh⟩ := lm
  have hd' := hd
  simp only [LinkV.d, moveL, LinkD.mk.injEq] at hd'
  obtain ⟨d1, d2, d3, d4, d5⟩ := hd'
  have HSL := h_ (show s.length = l.s.length + m by
   have := congrArg List.length d3
   simp at this
   omega)
  have HQL := h_ (show q.length = l.q.length - m by
   have := congrArg List.length d4
   simpa using this)
  have HN := h_ d2
  dsimp only at hM
  have HD := h_ hd
  have HL := h_ hL
  have HM := h_ hM
  have HNW := h_ hnew
  have HR := h_ hR
  have HBW := h_ hbw
  obtain ⟨x0, x1, x2, x3, x4, f0, f1, f2, f3, f4, hxz⟩ := i_ hL.at_
  have hl0 := h_ (gw_ x2)
  (try dsimp only at x0 x1 x2 x3 x4)
  clear hd hL hR hM hbw hnew d1 d2 d3 d4 d5
  by_cases hgo : 0 < q.length ∧ s.length < 8 ∧ n < 1048576
  · obtain ⟨c1, c2, c3⟩ := hgo
    cases q with
    | nil => simp at c1
    | cons fr q =>
    go_wp2_with (refine bg_ rfl ?_)
    refine ⟨?_⟩
    refine j_ _ rfl _ _ 22 rfl WA.heap.size 3 k0 (.int .i64 0) 1 8 Tryz.underlying22 hk0 hx0 hx1 hx2 rfl (by decide) _ _ _ rfl (HNW.out.alloc _) (fun _ => True) _ _ _ _ rfl (bl_ (by rfl) (by simp)) ?c1 ?c2 ?c3 ?c4 ?_
    case c1 => intro u hu; simp at hu; subst hu; rfl
    case c2 => unfold maxLen; omega
    case c3 => omega
    case c4 => simp; omega
    intro A1 c1' wa hownN hgrowN hatN
    have hnP : (Value.slice An m cn).ownBlock ≠ some P := fun e1 => by have := (HNW.out.lt P e1).1; omega
    have hnR : (Value.slice An m cn).ownBlock ≠ some (P + 1) := fun e1 => by have := (HNW.out.lt _ e1).1; omega
    have HLA2 := h_ (HL.out.grown hnP bA_ hgrowN hatN)
    have HRA2 := h_ (show LinkAt wa (P + 1) zeroL from (hgrowN.block _ (by simp; omega) (fun e1 => hnR e1.symm)).trans ((q_ _ _ _ (by omega)).trans HR.out))
    have HBA2 := h_ (Below.grown (bAlloc HBW.out _) hgrowN (by have := HBW.out.size; simp; omega) (fun g hg => by have := (HNW.out.lt g hg).1; have := HE.out; omega))
    have hza := hgrowN.size
    simp at hza
    have HNA := h_ (show wa.ownsRow WA.heap.size 3 1 (.slice A1 (m + 1) c1') (m + 1) ((List.range (m + 1)).map fun i => Value.int .i64 (l.n + (i : Nat))) by
     rw [List.range_succ, List.map_append]
     have h9 := HN.out
     (try dsimp only at h9)
     simpa [h9] using hownN)
    clear hownN hgrowN hatN hnP hnR x0 x1 x2 x3 x4 f0 f1 f2 f3 f4 hxz
    obtain ⟨b, o, rfl, hbs, hcq⟩ := x_ FrameV.cells 5 FrameV.cells_len HLA2.out.qr (k := 0) c1
    have g0 := hcq 0 _ rfl
    have g1 := hcq 1 _ rfl
    have g2 := hcq 2 _ rfl
    have g3 := hcq 3 _ rfl
    have g4 := hcq 4 _ rfl
    simp only [List.getElem_cons_zero, Nat.zero_mul, Nat.add_zero] at g0 g1 g2 g3 g4
    have HOP := h_ (show OpIn (· < wa.heap.size) wa fr.o.A fr.o.ps from (HLA2.out.q fr (by simp)).moved fun _ hb => ⟨hb.1.2, rfl⟩)
    have hsm := HM.out.2 fr (by simp)
    obtain ⟨fk, fh, fe, ⟨fA, fc, fp⟩, fs⟩ := fr
    dsimp only [FrameV.o, OpV.val] at g0 g1 g2 g3 g4
    (try dsimp only at hsm)
    clear hcq
    obtain ⟨x0, x1, x2, x3, x4, f0, f1, f2, f3, f4, hxz⟩ := i_ HLA2.out.at_
    (try dsimp only at x0 x1 x2 x3 x4)
    have HC1 := h_ (fun W hs => co_ W sA sc s hs (by have := HSL.out; omega) HM.out.1)
    have HC2 := h_ (fun W hs => en_ W fk fh fe fA fc fp fs hs hsm)
    go_wp2_with (refine r_ ?_)
    refine ⟨?_⟩
    have hnb : ∀ g, (Value.slice A1 (m + 1) c1').ownBlock = some g → g < wa.heap.size := fun g hg => (HNA.out.lt g hg).2
    have hPw : P < WA.heap.size := by omega
    have hnP : (Value.slice A1 (m + 1) c1').ownBlock ≠ some P := fun e1 => by have := (HNA.out.lt P e1).1; omega
    apply cutH
    · intro hΦ
      go_region_law (first
       | (refine w_ _ rfl _ _ 56 rfl _ 46 j0 (.agg #[.int .i64 0, .int .i64 0, .int .i64 0, .slice none 0 0, .string ⟨#[]⟩]) 5 64 Tryz.underlying56 hj0 hy0 hy1 hy2 rfl (by decide) _ _ _ rfl (RowOwn.later ho2 bz_).row (fun _ => True) _ _ _ _ rfl (bl_ (by rfl) (by simp)) ?_ ?_ ?_ ?_ ?_; (intro u hu; simp at hu; rcases hu with rfl | rfl | rfl | rfl | rfl <;> rfl); (have := HSL.out; have := hl2.out; unfold maxLen; omega); (have := HSL.out; have := hl2.out; omega); (simp <;> omega); intro A4 c4 we hown' hgrow hat; obtain ⟨v0, v1, v2, v3, v4, z0, z1, z2, z3, z4, yz⟩ := i_ (HLA2.out.later (gf_ hgrow bz_ (fun g hg => by have := (ho2.row.lt g hg).1; simp at this; omega))).at_)
       | (go_simp; go_at_call 42; refine (HC1.out _ ?_).mono ?_; exact HLA2.out.in_.s.later bz_; rintro r wc ⟨A2, c2', L2, rfl, hd2, ho2, hb2⟩; (have hl2 := h_ (show L2.length = s.length from (by rw [← List.length_map (f := FrameV.d), hd2, List.length_map]))); obtain ⟨⟨d2, os2⟩, rfl⟩ := a_ hb2)
       | (go_simp; go_at_call 82; refine (HC2.out _ ?_).mono ?_; exact Sl.later HOP.out bz_; rintro r wd ⟨A3, c3, rfl, ho3, hb3⟩; obtain ⟨⟨d3, os3⟩, rfl⟩ := a_ hb3))
      all_goals (
       obtain ⟨WQ, hWQ, hgQ, hbQ⟩ := fb_ (W4 := wa) hgrow bz_
       have hll : (L2 ++ [(⟨fk, fh, fe, ⟨A3, c3, fp⟩, fs⟩ : FrameV)]).length = L2.length + 1 := by simp
       have hP2 := RowOwn.push2 (x := (⟨fk, fh, fe, ⟨A3, c3, fp⟩, fs⟩ : FrameV)) (base := wa.heap.size) (RowOwn.mono ho2 (by simp)) (by simp) (W2 := WQ) (by rw [hWQ]; exact bz_) (dk_ ho3 (by simp) (by rw [hWQ]; exact bz_)) hgQ (yf_ hown' (by simp)) (by rw [hWQ]; exact hat)
       have hBe := gf_ hgQ hbQ (fun g hg => by have := (ho2.row.lt g hg).1; simp at this; omega)
       refine n_ (fun G => LinkSy lo G P (Value.slice A1 (m + 1) c1').ownBlock ⟨e, n, A4, c4, L2 ++ [(⟨fk, fh, fe, ⟨A3, c3, fp⟩, fs⟩ : FrameV)], some ⟨b, o, none⟩, qc, (⟨fk, fh, fe, ⟨fA, fc, fp⟩, fs⟩ : FrameV) :: q, hh⟩ ∧ LinkAt G (P + 1) zeroL ∧ G.ownsRow WA.heap.size 3 1 (.slice A1 (m + 1) c1') (m + 1) ((List.range (m + 1)).map fun i => Value.int .i64 (l.n + (i : Nat))) ∧ Below w.heap.size w G ∧ wa.heap.size ≤ G.heap.size) ⟨(HLA2.out.later hBe).sent hP2 (by omega) (by omega) hnb hll, (bH_ (by show P + 1 ≠ P; omega)).trans ((hBe.block _ (by omega)).trans HRA2.out), ms_ (nt_ HNA.out hBe) hnP, bSet (bThen HBA2.out hBe) (by have := HE.out; show w.heap.size ≤ P; omega) _, by have := hBe.size; simp [World.setCell]; omega⟩ ?_
       have HLL2 := h_ hl2.out
       have HD2 := h_ hd2
       clear hP2 hBe hWQ hgQ hbQ hown' hgrow hat ho2 ho3 hb2 hb3 v0 v1 v2 v3 v4 z0 z1 z2 z3 z4 yz hl2 hd2
       clear WQ we d2 d3
       revert os2 os3 A2 c2' L2 A3 c3 A4 c4
       exact Hid.out hΦ)
    · intro A2 c2' L2 os2 A3 c3 os3 A4 c4 hll HLL2 HD2
      rintro G ⟨hLG, hRG, hNG, hBG, hzG⟩
      have HLG := h_ hLG
      have HRG := h_ hRG
      have HNG := h_ hNG
      have HBG := h_ hBG
      clear x0 x1 x2 x3 x4 f0 f1 f2 f3 f4 hxz g0 g1 g2 g3 g4
      obtain ⟨x0, x1, x2, x3, x4, f0, f1, f2, f3, f4, hxz⟩ := i_ hLG.at_
      (try dsimp only at x0 x1 x2 x3 x4)
      have HFI := h_ (show (qc = 1 → FramesIn G (some ⟨b, o, none⟩) q) ∧ (¬ qc = 1 → FramesIn G (some ⟨b, o + 5, none⟩) q) from by
       have hcap : q.length + 1 ≤ qc := hLG.qcap
       refine ⟨fun h1 => ?_, fun h1 => ?_⟩
       · have hq0 : q = [] := List.eq_nil_of_length_eq_zero (by omega)
         subst hq0
         exact ⟨⟨by simp, fun h => absurd h (by simp)⟩, by simp⟩
       · have hqr : Sl (fun b => (lo ≤ b ∧ b < G.heap.size) ∧ b ≠ P ∧ b ≠ P + 1 ∧ (Value.slice A1 (m + 1) c1').ownBlock ≠ some b) G 5 (some ⟨b, o, none⟩) (q.length + 1) ((⟨fk, fh, fe, ⟨fA, fc, fp⟩, fs⟩ : FrameV).cells ++ q.flatMap FrameV.cells) := hLG.qr
         exact ⟨(hqr.tail rfl (by omega)).moved fun _ hb => ⟨hb.1.2, rfl⟩, fun f hf => (hLG.q f (List.mem_cons_of_mem _ hf)).moved fun _ hb => ⟨hb.1.2, rfl⟩⟩)
      have HC3 := h_ (fun W A' cc hs => co_ W A' cc q hs (by have := HQL.out; simp at this; omega) (fun f hf => HM.out.2 f (List.mem_cons_of_mem _ hf)))
      clear hLG hRG hNG hBG
      have hw : wrap64 (n + 1) = n + 1 := by have := HN.out; unfold wrap64; omega
      have hcase : qc = 1 ∨ ¬ qc = 1 := by omega
      rcases hcase with rfl | hq1
      all_goals (
       go_wp2_with fail
       refine (HC3.out _ _ _ (by first | exact HFI.out.1 trivial | exact HFI.out.1 rfl | exact HFI.out.1 (by assumption) | exact HFI.out.2 (by assumption) | exact HFI.out.2 (by omega))).mono ?_
       rintro r wf ⟨A5, c5, L5, rfl, hd5, ho5, hb5⟩
       have HLF := h_ (HLG.out.later hb5)
       have hRf := h_ ((hb5.block _ (i_ HRG.out).2.2.2.2.2.2.2.2.2.2).trans HRG.out)
       have hNf := h_ (nt_ HNG.out hb5)
       have hBf := h_ (bThen HBG.out hb5)
       have hzf := hb5.size
       have HO5 := h_ ho5
       have HD5 := h_ hd5
       clear ho5 hd5 hb5 x0 x1 x2 x3 x4 f0 f1 f2 f3 f4 hxz
       obtain ⟨x0, x1, x2, x3, x4, f0, f1, f2, f3, f4, hxz⟩ := i_ HLF.out.at_
       (try dsimp only at x0 x1 x2 x3 x4)
       go_wp2_with fail
       (try rw [hw])
       have hPP : ∀ j : Nat, (⟨P, j, none⟩ : Addr).block = P := fun _ => rfl
       have hF := (HLF.out.queue HO5.out (by omega) (by omega) (fun g hg => by have := hnb g hg; omega) rfl).next (n + 1)
       have hll2 : (L2 ++ [(⟨fk, fh, fe, ⟨A3, c3, fp⟩, fs⟩ : FrameV)]).length = s.length + 1 := by rw [hll, HLL2.out]
       have hsl := HSL.out
       have hql := HQL.out
       have hnn := HN.out
       have hw1 := HE.out
       go_roundw
       case rel =>
        exact ⟨m + 1, ⟨e, n + 1, A4, c4, L2 ++ [(⟨fk, fh, fe, ⟨A3, c3, fp⟩, fs⟩ : FrameV)], A5, c5, L5, hh⟩, A1, c1', by simp, (show LinkD.mk e (n + 1) ((L2 ++ [(⟨fk, fh, fe, ⟨A3, c3, fp⟩, fs⟩ : FrameV)]).map FrameV.d) (L5.map FrameV.d) hh = _ by rw [List.map_append, HD2.out, HD5.out]; exact lq_ HD.out), by simp at hql; omega, by omega, by (try dsimp only at hnn); push_cast; omega, ms_ (ms_ hNf.out hnP) hnP, hF, (bH_ (by show P + 1 ≠ P; omega)).trans ((bH_ (by show P + 1 ≠ P; omega)).trans hRf.out),
         ⟨fun f hf => by
          rcases List.mem_append.1 hf with hf | hf
          · exact vz_ HD2.out HM.out.1 f hf
          · obtain rfl := List.mem_singleton.1 hf
            exact hsm, vz_ HD5.out (fun f hf => HM.out.2 f (List.mem_cons_of_mem _ hf))⟩, bSet (bSet hBf.out (p := ⟨P, 3, none⟩) (by show w.heap.size ≤ P; omega) _) (p := ⟨P, 1, none⟩) (by show w.heap.size ≤ P; omega) _, by simp [World.setCell]; omega⟩
       case measure =>
        have h2 := gw_ (i_ hF.at_).2.2.1
        rw [h2, hl0.out]
        (try dsimp only)
        rw [hll2]
        omega)
  · have hmN : m = fillN l.d := by
     have h1 := HSL.out
     have h2 := HQL.out
     have h3 := HN.out
     (try dsimp only at h3)
     unfold fillN
     simp only [List.length_map]
     omega
    have HF := h_ (show (⟨e, n, sA, sc, s, qA, qc, q, hh⟩ : LinkV).d = fillL l.d from HD.out.trans (by rw [hmN]; rfl))
    have HMN := h_ (show m = fillN l.d from hmN)
    have hn1 : 1 ≤ n ∧ n ≤ 1048576 ∧ s.length ≤ 8 := by have := HN.out; have := HSL.out; exact ⟨by omega, by omega, by omega⟩
    have HPK := h_ (fun W k hk2 hs => uc_ W ⟨e, n, sA, sc, s, qA, qc, q, hh⟩ k hk2 hs HM.out.1 hn1)
    dsimp only at HPK
    obtain ⟨w1, hw1⟩ : ∃ w1, w1 = wr := ⟨_, rfl⟩
    subst hw1
    clear hmN
    have hm8 : m ≤ 8 := by omega
    have HIX := h_ (show ∀ k : Nat, k < m → IntKind.i64.wrap (l.n + (k : Int) - IntKind.i64.wrap (n - (s.length : Int))) = ((l.s.length + k : Nat) : Int) from fun k hk => by
     have h1 := HSL.out
     have h2 := HN.out
     (try dsimp only at h2)
     rw [IntKind.wrap_i64, IntKind.wrap_i64]
     omega)
    have hsm1 := HSL.out
    have HSM := h_ hsm1
    clear hsm1
    go_wp2_with fail
    all_goals (
     go_loopw [5, 6] (fun out i wr => ∃ (L' : List PacketV) (Ao : Option Addr) (co : Nat), i = .int .i64 (L'.length : Nat) ∧ L'.length ≤ m ∧ out = .slice Ao L'.length co ∧ Hid (L'.map PacketV.d = (List.range L'.length).map (fun i => packetX (fillL l.d) (l.s.length + i))) ∧ PacketsOwn wr w1.heap.size Ao co L' ∧ Below w1.heap.size w1 wr) (fun _ i _ => m - (intOf i).toNat)
     case atStart => exact ⟨[], none, 0, rfl, Nat.zero_le _, rfl, rfl, RowOwn.nil _ _, Below.refl _ _⟩
     case round =>
      obtain ⟨L', Ao, co, rfl, hjs, rfl, hps, hown, hbw⟩ := hrel
      clear x0 x1 x2 x3 x4 f0 f1 f2 f3 f4 hxz
      have HLR := h_ (HL.out.later hbw)
      obtain ⟨x0, x1, x2, x3, x4, f0, f1, f2, f3, f4, hxz⟩ := i_ HLR.out.at_
      have hsz2 := hbw.size
      (try dsimp only at x0 x1 x2 x3 x4)
      by_cases hlt : L'.length < m
      · have HT := h_ (show (List.range (L'.length + 1)).map (fun i => packetX (fillL l.d) (l.s.length + i)) = (List.range L'.length).map (fun i => packetX (fillL l.d) (l.s.length + i)) ++ [packetD ⟨e, n, sA, sc, s, qA, qc, q, hh⟩ (l.s.length + L'.length)] by rw [List.range_succ, List.map_append, ← nx_, HF.out]; rfl)
        have HP := h_ (fun W hs => HPK.out W (l.s.length + L'.length) (by have := HSM.out; omega) hs)
        obtain ⟨b, o, rfl, hbn, hcn⟩ := (Sl.of_own _ HNW.out).2 (by omega)
        have hcn1 := hcn L'.length (.int .i64 (l.n + (L'.length : Nat))) (by rw [List.getElem?_map, List.getElem?_range hlt]; rfl)
        have hcn2 := (hbw.cell (p := ⟨b, o + L'.length, none⟩) hbn.2).trans hcn1
        have HO := h_ hown
        have hix := HIX.out L'.length hlt
        have HBW2 := h_ hbw
        have hbr : b < wr.heap.size := by have := hbn.2; omega
        clear hown
        have hcn0 : ((List.range m).map fun i => Value.int .i64 (l.n + (i : Nat)))[L'.length]? = some (.int .i64 (l.n + (L'.length : Nat))) := by rw [List.getElem?_map, List.getElem?_range hlt]; rfl
        generalize packetD ⟨e, n, sA, sc, s, qA, qc, q, hh⟩ (l.s.length + L'.length) = pk at *
        obtain ⟨pe, pn, pb, pa, ⟨fk, fh, fe, fp, fs⟩⟩ := pk
        unfold RetPacket at HP
        dsimp only at HP
        have HIX2 := h_ hix
        clear hix
        go_wp2_with (refine r_ ?_)
        refine ⟨?_⟩
        go_region_held3 (fun w' => w'.cell? ⟨P, 0, none⟩ = some (.int .i64 e) ∧ w'.cell? ⟨P, 1, none⟩ = some (.int .i64 n) ∧ w'.cell? ⟨P, 2, none⟩ = some (.slice sA s.length sc) ∧ w'.cell? ⟨P, 3, none⟩ = some (.slice qA q.length qc) ∧ w'.cell? ⟨P, 4, none⟩ = some (.int .i64 hh) ∧ w'.cell? ⟨b, o + L'.length, none⟩ = some (.int .i64 (l.n + (L'.length : Nat))))
         (go_keep)
         ((first
           | (refine w_ _ rfl _ _ 90 rfl w1.heap.size 48 i0 (.agg #[.int .i64 0, .int .i64 0, .bool false, .int .i64 0, .int .i64 0, .int .i64 0, .int .i64 0, .slice none 0 0, .string ⟨#[]⟩]) 9 96 Tryz.underlying90 hi0 hz0 hz1 hz2 rfl (by decide) _ _ _ rfl (HO.out.later bz_).row (fun _ => True) _ _ _ _ rfl (bl_ (by rfl) (by simp)) ?_ ?_ ?_ ?_ ?_; (intro u hu; simp at hu; rcases hu with rfl | rfl | rfl | rfl | rfl | rfl | rfl | rfl | rfl <;> rfl); (unfold maxLen; omega); omega; (simp <;> omega); intro A4 c4 we hown' hgrow hat; (have hBe0 := gf_ (w0 := w1) hgrow (bThen HBW2.out bz_) (fun g hg => (HO.out.row.lt g hg).1)); obtain ⟨v0, v1, v2, v3, v4, _, _, _, _, _, _⟩ := i_ (HL.out.later hBe0).at_; (have u0 := (hBe0.cell (p := ⟨b, o + L'.length, none⟩) hbn.2).trans (hcn L'.length _ hcn0)))
           | (go_simp; go_at_call 134; (try rw [HIX2.out]); refine (HP.out _ ?_).mono ?_; exact HLR.out.in_.s.later bz_; rintro r wd ⟨A2, c2, rfl, ho2, hb2⟩; obtain ⟨⟨d2, os2⟩, rfl⟩ := a_ hb2)))
        all_goals (
         have hll : (L' ++ [(⟨pe, pn, pb, pa, ⟨fk, fh, fe, ⟨A2, c2, fp⟩, fs⟩⟩ : PacketV)]).length = L'.length + 1 := by simp
         obtain ⟨WQ, hWQ, hgQ, hbQ⟩ := fb_ (W4 := wr) hgrow bz_
         have hP2 := RowOwn.push2 (x := (⟨pe, pn, pb, pa, ⟨fk, fh, fe, ⟨A2, c2, fp⟩, fs⟩⟩ : PacketV)) HO.out hsz2 hbQ (dk_ ho2 (by simp) (by rw [hWQ]; exact bz_)) hgQ hown' (by rw [hWQ]; exact hat)
         clear hWQ hgQ hbQ hown' hgrow hat ho2 hb2
         go_wp2_with fail
         go_roundw
         case rel =>
          have HPS := h_ (show (L' ++ [(⟨pe, pn, pb, pa, ⟨fk, fh, fe, ⟨A2, c2, fp⟩, fs⟩⟩ : PacketV)]).map PacketV.d = (List.range (L' ++ [(⟨pe, pn, pb, pa, ⟨fk, fh, fe, ⟨A2, c2, fp⟩, fs⟩⟩ : PacketV)]).length).map (fun i => packetX (fillL l.d) (l.s.length + i)) by rw [hll, HT.out, List.map_append, hps.out]; rfl)
          exact ⟨L' ++ [(⟨pe, pn, pb, pa, ⟨fk, fh, fe, ⟨A2, c2, fp⟩, fs⟩⟩ : PacketV)], A4, c4, by rw [hll]; go_num, by omega, by rw [hll], HPS, hP2, hBe0⟩
         case measure => simp [intOf]; omega)
      · have HK := h_ (show L'.length = fillN l.d by have := HMN.out; omega)
        have HRw := h_ ((hbw.block _ (i_ HR.out).2.2.2.2.2.2.2.2.2.2).trans HR.out)
        have HBw := h_ (bThen HBW.out hbw)
        have HO := h_ hown
        obtain ⟨r0, r1, r2, r3, r4, s0, s1, s2, s3, s4, hrz⟩ := i_ HRw.out
        clear hown
        go_wp2_with fail
        obtain ⟨W9, hW9⟩ : ∃ W9, W9 = (((((wr.setCell ⟨P + 1, 0, none⟩ (.int .i64 e)).setCell ⟨P + 1, 1, none⟩ (.int .i64 n)).setCell ⟨P + 1, 2, none⟩ (.slice sA s.length sc)).setCell ⟨P + 1, 3, none⟩ (.slice qA q.length qc)).setCell ⟨P + 1, 4, none⟩ (.int .i64 hh)) := ⟨_, rfl⟩
        rw [← hW9]
        have hO : Only (P + 1) wr W9 := by rw [hW9]; exact ((((Only.set _ _ _).trans (Only.set _ _ _)).trans (Only.set _ _ _)).trans (Only.set _ _ _)).trans (Only.set _ _ _)
        have hR9 : LinkAt W9 (P + 1) ⟨e, n, sA, sc, s, qA, qc, q, hh⟩ := by
         rw [hW9]
         exact e_ 4 (.int .i64 hh) (e_ 3 (.slice qA q.length qc) (e_ 2 (.slice sA s.length sc) (e_ 1 (.int .i64 n) (e_ 0 (.int .i64 e) HRw.out))))
        clear hW9 r0 r1 r2 r3 r4
        obtain ⟨r0, r1, r2, r3, r4, _, _, _, _, _, _⟩ := i_ hR9
        refine bodyPost_ret (v := .tuple #[(⟨e, n, sA, sc, s, qA, qc, q, hh⟩ : LinkV).val, .slice Ao L'.length co]) (by simp [results, Tryz.results117, go_sem, r0, r1, r2, r3, r4]) rfl ?_
        have hEP := HE.out
        refine ⟨⟨e, n, sA, sc, s, qA, qc, q, hh⟩, Ao, co, L', rfl, HF.out, ?_, HLR.out.inS_only hO, (HO.out.kept hO.size (fun b hb hl => hO.block b hl (by omega))).mono (by omega), HBw.out.trans (hO.below (by omega) (by omega))⟩
        rw [hps.out, HK.out]
        unfold fillP
        simp only [List.length_map])
end Go.Proofs.YtacacoklddogmaaGreatDoor
