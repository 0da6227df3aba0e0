/-
  What lies in every round of HeardOf's loop (no walk).
  Contract of the reference's HeardOf: what it refuses ahead of its loop.
  Contract of the reference's HeardOf: its loop.
  Contract of the reference's HeardOf: its loop.
-/
import Derived.Test.YtbmdepbmejnlkaaDoorRows
import Derived.Test.YtbmdepbmejnlkaaDoorEdgeRow
import Derived.Test.YtbmdepbmejnlkaaDoorEdgeHearP
import Derived.Test.YtbmdepbmejnlkaaDoorSendP
import Derived.Test.YtbmdepbmejnlkaaDoorIn
import Derived.Test.YtbmdepbmejnlkaaDoorTransR
import Derived.Test.YtbmdepbmejnlkaaDoorStop
import Derived.Test.YtbmdepbmejnlkaaDoorHide
namespace Go.Proofs.YtbmdepbmejnlkaaDoor
open Go.ChangeShapes Go.WideShapes Go.ChangeAt Go.RowKit
set_option maxRecDepth 100000
structure HeardR (w : World) (R X base : Nat) (s h : Int) (A : Option Addr) (n c : Nat) (s' h' : Int) (Ao : Option Addr) (co : Nat) (L' : List OpV) (hA : Option Addr) (hp : List PartD) (G : World) : Prop where
  e : EdgeAt G w.heap.size s h A n c
  r : EdgeAt G R 0 0 none 0 0
  x : EdgeAt G X s' h' Ao L'.length co
  own : OpsOwn G base Ao co L'
  o : OpIn (fun b => (base ≤ b ∧ b < G.heap.size) ∧ (Value.slice Ao L'.length co).ownBlock ≠ some b) G hA hp
  b : Below w.heap.size w G
  wr : w.heap.size < R
  rx : R < X
  xb : X < base
  bz : base ≤ G.heap.size
section
variable {w G W2 w3 : World} {R X base n c co : Nat} {s h s' h' : Int} {A Ao hA : Option Addr} {L' : List OpV} {hp : List PartD}
theorem HeardR.later (k : HeardR w R X base s h A n c s' h' Ao co L' hA hp G) (hb : Below G.heap.size G W2) : HeardR w R X base s h A n c s' h' Ao co L' hA hp W2 := by
  have h1 := k.wr
  have h2 := k.rx
  have h3 := k.xb
  have h4 := k.bz
  have h5 := hb.size
  exact ⟨(hb.block _ (by omega)).trans k.e, (hb.block _ (by omega)).trans k.r, (hb.block _ (by omega)).trans k.x, k.own.kept hb.size (fun b _ h9 => hb.block b h9),
    k.o.moved fun b h9 => ⟨⟨⟨h9.1.1, by omega⟩, h9.2⟩, hb.block b h9.1.2⟩, bThen k.b hb, h1, h2, h3, by omega⟩
theorem HeardR.apart (k : HeardR w R X base s h A n c s' h' Ao co L' hA hp G) {x : Nat} (hx : x < base) : (Value.slice Ao L'.length co).ownBlock ≠ some x := own_low k.own.row hx
theorem HeardR.far (k : HeardR w R X base s h A n c s' h' Ao co L' hA hp G) (hb : Below G.heap.size G W2) {ob : Obj} (hg : (W2.alloc ob).grownBy w3 (Value.slice Ao L'.length co).ownBlock) {x : Nat} (hx : x < base) : w3.heap[x]? = G.heap[x]? := by
  have h4 := k.bz
  have h5 := hb.size
  exact (hg.block x (by simp; omega) (fun e => k.apart hx e.symm)).trans ((heap_alloc_old _ _ x (by omega)).trans (hb.block x (by omega)))
/-- One operation more in the row, another one in the place of the one that came. -/
theorem HeardR.push {A' pA oA : Option Addr} {c' pc oc : Nat} {pp op : List PartD} {ob : Obj} (k : HeardR w R X base s h A n c s' h' Ao co L' hA hp G) (hb : Below G.heap.size G W2)
    (h1 : W2.ownsRow G.heap.size 90 3 (.slice pA pp.length pc) pp.length (opCells pp)) (h2 : W2.ownsRow G.heap.size 90 3 (.slice oA op.length oc) op.length (opCells op))
    (hg : (W2.alloc ob).grownBy w3 (Value.slice Ao L'.length co).ownBlock) (hown : w3.ownsRow base 43 1 (.slice A' (L'.length + 1) c') (L'.length + 1) (L'.map OpV.val ++ [.slice pA pp.length pc]))
    (hat : (Value.slice A' (L'.length + 1) c').ownBlock = (Value.slice Ao L'.length co).ownBlock ∨ (Value.slice A' (L'.length + 1) c').ownBlock = some (W2.alloc ob).heap.size) :
    HeardR w R X base s h A n c s' h' A' c' (L' ++ [⟨pA, pc, pp⟩]) oA op (w3.setCell ⟨X, 2, none⟩ (.slice A' (L'.length + 1) c')) := by
  have g1 := k.wr
  have g2 := k.rx
  have g3 := k.xb
  have g4 := k.bz
  have g5 := hb.size
  have g6 := hg.size
  simp at g6
  have hP := k.own.push g4 hb h1 hg hown hat
  have hz : (w3.setCell ⟨X, 2, none⟩ (.slice A' (L'.length + 1) c')).heap.size = w3.heap.size := by simp [World.setCell]
  have hfar : ∀ x, x ≠ X → (w3.setCell ⟨X, 2, none⟩ (.slice A' (L'.length + 1) c')).heap[x]? = w3.heap[x]? := fun x hx => Below.heap_setCell _ _ _ _ (by simpa using hx)
  have hlen : (L' ++ [(⟨pA, pc, pp⟩ : OpV)]).length = L'.length + 1 := by simp
  refine ⟨(hfar _ (by omega)).trans ((k.far hb hg (by omega)).trans k.e), (hfar _ (by omega)).trans ((k.far hb hg (by omega)).trans k.r), ?_, hP.kept (by omega) (fun b hb' _ => hfar b (by omega)), ?_, ?_, g1, g2, g3, by omega⟩
  · rw [hlen]
    exact three_set2 ((k.far hb hg g3).trans k.x)
  · refine (Sl.of_own _ h2).moved fun b hb' => ?_
    have hne : (Value.slice Ao L'.length co).ownBlock ≠ some b := fun e => by have := (k.own.row.lt b e).2; omega
    refine ⟨⟨⟨by omega, by omega⟩, fun e => ?_⟩, (hfar b (by omega)).trans ((hg.block b (by simp; omega) (fun e => hne e.symm)).trans (heap_alloc_old _ _ b hb'.2))⟩
    rw [hlen] at e
    rcases hat with h9 | h9
    · exact hne (h9.symm.trans e)
    · rw [h9] at e
      simp at e
      omega
  · exact bSet (push_frame k.b hb hg (fun g e => by have := (k.own.row.lt g e).1; omega)) (by show w.heap.size ≤ X; omega) _
theorem HeardR.out {hc : Nat} (k : HeardR w R X base s h A n c s' h' Ao co L' hA hp G) : RetHear w (s', h', L'.map OpV.ps, hp, 0) (.returned (.tuple #[edgeV s' h' Ao L'.length co, .slice hA hp.length hc, .int .i64 0])) (((G.setCell ⟨R, 0, none⟩ (.int .i64 s')).setCell ⟨R, 1, none⟩ (.int .i64 h')).setCell ⟨R, 2, none⟩ (.slice Ao L'.length co)) := by
  have g1 := k.wr
  have g2 := k.rx
  have g3 := k.xb
  have hfar : ∀ x, x ≠ R → (((G.setCell ⟨R, 0, none⟩ (.int .i64 s')).setCell ⟨R, 1, none⟩ (.int .i64 h')).setCell ⟨R, 2, none⟩ (.slice Ao L'.length co)).heap[x]? = G.heap[x]? := fun x hx => (Below.heap_setCell _ _ _ _ hx).trans ((Below.heap_setCell _ _ _ _ hx).trans (Below.heap_setCell _ _ _ _ hx))
  have hsz : (((G.setCell ⟨R, 0, none⟩ (.int .i64 s')).setCell ⟨R, 1, none⟩ (.int .i64 h')).setCell ⟨R, 2, none⟩ (.slice Ao L'.length co)).heap.size = G.heap.size := by simp [World.setCell]
  refine ⟨Ao, co, L', hA, hc, rfl, rfl, (k.own.kept (Nat.le_of_eq hsz.symm) (fun b hb _ => hfar b (by omega))).in_, k.o.moved fun b hb => ⟨by rw [hsz]; exact hb.1.2, hfar b (by have := hb.1.1; omega)⟩, ?_⟩
  exact bSet (bSet (bSet k.b (p := ⟨R, 0, none⟩) (Nat.le_of_lt g1) _) (p := ⟨R, 1, none⟩) (Nat.le_of_lt g1) _) (p := ⟨R, 2, none⟩) (Nat.le_of_lt g1) _
end
end Go.Proofs.YtbmdepbmejnlkaaDoor
namespace Go.Proofs.YtbmdepbmejnlkaaDoor
open Go.ChangeShapes Go.WideShapes Go.ChangeAt Go.RowKit
set_option maxRecDepth 100000
theorem EHeard_state (w : World) (s h : Int) (A : Option Addr) (c : Nat) (L : List OpV) (HT : Hid (Tabs w)) (HS : Hid (OpsIn w A L)) (HM : Hid (∀ o ∈ L, o.Small)) (B : Option Addr) (cc : Nat) (ps : List PartD) (_HP : Hid (OpIn (· < w.heap.size) w B ps)) (hd : Int) (up : Bool) (HC : Hid (∀ W, Tabs W → OpsIn W A L → (∀ o ∈ L, o.Small) → Calls Tryd.prog 50 #[edgeV s h A L.length c] W fun r w' => r = .returned (.bool false) ∧ Below W.heap.size W w')) :
    Calls Tryd.prog 16 #[edgeV s h A L.length c, .slice B ps.length cc, .int .i64 hd, .bool up] w (fun e w' => e = .returned (.tuple #[edgeV 0 0 none 0 0, .slice none 0 0, .int .i64 9]) ∧ Below w.heap.size w w') := by
  obtain ⟨W1, hW1⟩ : ∃ W1, W1 = w.alloc (.cells #[.int .i64 s, .int .i64 h, .slice A L.length c] 41) := ⟨_, rfl⟩
  obtain ⟨WA, hWA⟩ : ∃ WA, WA = W1.alloc (.cells #[.int .i64 0, .int .i64 0, .slice none 0 0] 41) := ⟨_, rfl⟩
  have g1 : W1.heap.size = w.heap.size + 1 := by rw [hW1]; simp
  have g2 : WA.heap.size = W1.heap.size + 1 := by rw [hWA]; simp
  have k1 : Below w.heap.size w W1 := by rw [hW1]; exact bAlloc (Below.refl _ _) _
  have k2 : Below W1.heap.size W1 WA := by rw [hWA]; exact bAlloc (Below.refl _ _) _
  have HA := Lib.hid (show SendAt w WA W1.heap.size s h A L.length c from ⟨(k2.block _ (by omega)).trans (by rw [hW1]; show (w.heap.push _)[w.heap.size]? = _; simp), by rw [hWA]; show (W1.heap.push _)[W1.heap.size]? = _; simp, bThen k1 k2⟩)
  have HW := Lib.hid (show (w.alloc (.cells #[.int .i64 s, .int .i64 h, .slice A L.length c] 41)).alloc (.cells #[.int .i64 0, .int .i64 0, .slice none 0 0] 41) = WA by rw [hWA, hW1])
  obtain ⟨R, hR⟩ : ∃ R, R = W1.heap.size := ⟨_, rfl⟩
  have HE2 := Lib.hid (show w.heap.size + 1 = R by omega)
  have hRB : w.heap.size < R := by omega
  have hRz : R < WA.heap.size := by omega
  rw [← hR] at HA
  clear hR k1 k2 g1 g2 hWA hW1
  go_enter Tryd.func16, Tryd.ntmps16
  go_wp2_with fail
  rw [HW.out, HE2.out]
  refine (HC.out _ (HT.out.later HA.out.b) (HS.out.later HA.out.b) HM.out).mono ?_
  rintro e w1 ⟨rfl, hb1⟩
  have H1 := Lib.hid (HA.out.later hb1)
  have hz1 := hb1.size
  obtain ⟨e0, e1, e2, _, _, _, hez⟩ := three_cell H1.out.e
  obtain ⟨r0, r1, r2, q0, q1, q2, hrz⟩ := three_cell H1.out.r
  clear hb1
  go_wp2_with fail
  have z0 := three_cell (three_set2 (x := .slice none 0 0) (three_set1 (x := .int .i64 0) (three_set0 (x := .int .i64 0) H1.out.r)))
  obtain ⟨z0, z1, z2, _, _, _, _⟩ := z0
  refine bodyPost_ret (v := .tuple #[edgeV 0 0 none 0 0, .slice none 0 0, .int .i64 9]) (by simp [results, Tryd.results16, go_sem, z0, z1, z2]) rfl ?_
  exact ⟨rfl, bSet (bSet (bSet H1.out.b (p := ⟨R, 0, none⟩) (Nat.le_of_lt hRB) _) (p := ⟨R, 1, none⟩) (Nat.le_of_lt hRB) _) (p := ⟨R, 2, none⟩) (Nat.le_of_lt hRB) _⟩
theorem EHeard_fault (w : World) (s h : Int) (A : Option Addr) (c : Nat) (L : List OpV) (HT : Hid (Tabs w)) (HS : Hid (OpsIn w A L)) (HM : Hid (∀ o ∈ L, o.Small)) (B : Option Addr) (cc : Nat) (ps : List PartD) (HP : Hid (OpIn (· < w.heap.size) w B ps)) (hd : Int) (up : Bool) (er : Int) (_hne : (er != 0) = true) (_hno : (er == 0) = false) (HC : Hid (∀ W, Tabs W → OpsIn W A L → (∀ o ∈ L, o.Small) → Calls Tryd.prog 50 #[edgeV s h A L.length c] W fun r w' => r = .returned (.bool true) ∧ Below W.heap.size W w')) (HF : Hid (∀ W, Tabs W → OpIn (· < W.heap.size) W B ps → Calls Tryd.prog 36 #[.slice B ps.length cc] W fun r w' => r = .returned (.int .i64 er) ∧ Below W.heap.size W w')) :
    Calls Tryd.prog 16 #[edgeV s h A L.length c, .slice B ps.length cc, .int .i64 hd, .bool up] w (fun e w' => e = .returned (.tuple #[edgeV 0 0 none 0 0, .slice none 0 0, .int .i64 er]) ∧ Below w.heap.size w w') := by
  obtain ⟨W1, hW1⟩ : ∃ W1, W1 = w.alloc (.cells #[.int .i64 s, .int .i64 h, .slice A L.length c] 41) := ⟨_, rfl⟩
  obtain ⟨WA, hWA⟩ : ∃ WA, WA = W1.alloc (.cells #[.int .i64 0, .int .i64 0, .slice none 0 0] 41) := ⟨_, rfl⟩
  have g1 : W1.heap.size = w.heap.size + 1 := by rw [hW1]; simp
  have g2 : WA.heap.size = W1.heap.size + 1 := by rw [hWA]; simp
  have k1 : Below w.heap.size w W1 := by rw [hW1]; exact bAlloc (Below.refl _ _) _
  have k2 : Below W1.heap.size W1 WA := by rw [hWA]; exact bAlloc (Below.refl _ _) _
  have HA := Lib.hid (show SendAt w WA W1.heap.size s h A L.length c from ⟨(k2.block _ (by omega)).trans (by rw [hW1]; show (w.heap.push _)[w.heap.size]? = _; simp), by rw [hWA]; show (W1.heap.push _)[W1.heap.size]? = _; simp, bThen k1 k2⟩)
  have HW := Lib.hid (show (w.alloc (.cells #[.int .i64 s, .int .i64 h, .slice A L.length c] 41)).alloc (.cells #[.int .i64 0, .int .i64 0, .slice none 0 0] 41) = WA by rw [hWA, hW1])
  obtain ⟨R, hR⟩ : ∃ R, R = W1.heap.size := ⟨_, rfl⟩
  have HE2 := Lib.hid (show w.heap.size + 1 = R by omega)
  have hRB : w.heap.size < R := by omega
  have hRz : R < WA.heap.size := by omega
  rw [← hR] at HA
  clear hR k1 k2 g1 g2 hWA hW1
  go_enter Tryd.func16, Tryd.ntmps16
  go_wp2_with fail
  rw [HW.out, HE2.out]
  refine (HC.out _ (HT.out.later HA.out.b) (HS.out.later HA.out.b) HM.out).mono ?_
  rintro e w1 ⟨rfl, hb1⟩
  have H1 := Lib.hid (HA.out.later hb1)
  have hz1 := hb1.size
  obtain ⟨e0, e1, e2, _, _, _, hez⟩ := three_cell H1.out.e
  obtain ⟨r0, r1, r2, q0, q1, q2, hrz⟩ := three_cell H1.out.r
  clear hb1
  go_wp2_with fail
  refine (HF.out _ (HT.out.later H1.out.b) (Sl.later HP.out H1.out.b)).mono ?_
  rintro e w2 ⟨rfl, hb2⟩
  have H2 := Lib.hid (H1.out.later hb2)
  have hz2 := hb2.size
  clear e0 e1 e2 hez r0 r1 r2 q0 q1 q2 hrz
  obtain ⟨e0, e1, e2, _, _, _, hez⟩ := three_cell H2.out.e
  obtain ⟨r0, r1, r2, q0, q1, q2, hrz⟩ := three_cell H2.out.r
  clear hb2
  go_wp2_with fail
  have z0 := three_cell (three_set2 (x := .slice none 0 0) (three_set1 (x := .int .i64 0) (three_set0 (x := .int .i64 0) H2.out.r)))
  obtain ⟨z0, z1, z2, _, _, _, _⟩ := z0
  refine bodyPost_ret (v := .tuple #[edgeV 0 0 none 0 0, .slice none 0 0, .int .i64 er]) (by simp [results, Tryd.results16, go_sem, z0, z1, z2]) rfl ?_
  exact ⟨rfl, bSet (bSet (bSet H2.out.b (p := ⟨R, 0, none⟩) (Nat.le_of_lt hRB) _) (p := ⟨R, 1, none⟩) (Nat.le_of_lt hRB) _) (p := ⟨R, 2, none⟩) (Nat.le_of_lt hRB) _⟩
theorem EHeard_low (w : World) (s h : Int) (A : Option Addr) (c : Nat) (L : List OpV) (HT : Hid (Tabs w)) (HS : Hid (OpsIn w A L)) (HM : Hid (∀ o ∈ L, o.Small)) (B : Option Addr) (cc : Nat) (ps : List PartD) (HP : Hid (OpIn (· < w.heap.size) w B ps)) (hd : Int) (up : Bool) (hw : wrap64 (s - (L.length : Int)) = s - L.length) (f1 : hd < s - (L.length : Int)) (HC : Hid (∀ W, Tabs W → OpsIn W A L → (∀ o ∈ L, o.Small) → Calls Tryd.prog 50 #[edgeV s h A L.length c] W fun r w' => r = .returned (.bool true) ∧ Below W.heap.size W w')) (HF : Hid (∀ W, Tabs W → OpIn (· < W.heap.size) W B ps → Calls Tryd.prog 36 #[.slice B ps.length cc] W fun r w' => r = .returned (.int .i64 0) ∧ Below W.heap.size W w')) :
    Calls Tryd.prog 16 #[edgeV s h A L.length c, .slice B ps.length cc, .int .i64 hd, .bool up] w (fun e w' => e = .returned (.tuple #[edgeV 0 0 none 0 0, .slice none 0 0, .int .i64 2]) ∧ Below w.heap.size w w') := by
  obtain ⟨W1, hW1⟩ : ∃ W1, W1 = w.alloc (.cells #[.int .i64 s, .int .i64 h, .slice A L.length c] 41) := ⟨_, rfl⟩
  obtain ⟨WA, hWA⟩ : ∃ WA, WA = W1.alloc (.cells #[.int .i64 0, .int .i64 0, .slice none 0 0] 41) := ⟨_, rfl⟩
  have g1 : W1.heap.size = w.heap.size + 1 := by rw [hW1]; simp
  have g2 : WA.heap.size = W1.heap.size + 1 := by rw [hWA]; simp
  have k1 : Below w.heap.size w W1 := by rw [hW1]; exact bAlloc (Below.refl _ _) _
  have k2 : Below W1.heap.size W1 WA := by rw [hWA]; exact bAlloc (Below.refl _ _) _
  have HA := Lib.hid (show SendAt w WA W1.heap.size s h A L.length c from ⟨(k2.block _ (by omega)).trans (by rw [hW1]; show (w.heap.push _)[w.heap.size]? = _; simp), by rw [hWA]; show (W1.heap.push _)[W1.heap.size]? = _; simp, bThen k1 k2⟩)
  have HW := Lib.hid (show (w.alloc (.cells #[.int .i64 s, .int .i64 h, .slice A L.length c] 41)).alloc (.cells #[.int .i64 0, .int .i64 0, .slice none 0 0] 41) = WA by rw [hWA, hW1])
  obtain ⟨R, hR⟩ : ∃ R, R = W1.heap.size := ⟨_, rfl⟩
  have HE2 := Lib.hid (show w.heap.size + 1 = R by omega)
  have hRB : w.heap.size < R := by omega
  have hRz : R < WA.heap.size := by omega
  rw [← hR] at HA
  clear hR k1 k2 g1 g2 hWA hW1
  go_enter Tryd.func16, Tryd.ntmps16
  go_wp2_with fail
  rw [HW.out, HE2.out]
  refine (HC.out _ (HT.out.later HA.out.b) (HS.out.later HA.out.b) HM.out).mono ?_
  rintro e w1 ⟨rfl, hb1⟩
  have H1 := Lib.hid (HA.out.later hb1)
  have hz1 := hb1.size
  obtain ⟨e0, e1, e2, _, _, _, hez⟩ := three_cell H1.out.e
  obtain ⟨r0, r1, r2, q0, q1, q2, hrz⟩ := three_cell H1.out.r
  clear hb1
  go_wp2_with fail
  refine (HF.out _ (HT.out.later H1.out.b) (Sl.later HP.out H1.out.b)).mono ?_
  rintro e w2 ⟨rfl, hb2⟩
  have H2 := Lib.hid (H1.out.later hb2)
  have hz2 := hb2.size
  clear e0 e1 e2 hez r0 r1 r2 q0 q1 q2 hrz
  obtain ⟨e0, e1, e2, _, _, _, hez⟩ := three_cell H2.out.e
  obtain ⟨r0, r1, r2, q0, q1, q2, hrz⟩ := three_cell H2.out.r
  clear hb2
  go_wp2_with fail
  refine (In_no hd (s - (L.length : Int)) s _ (.inl f1)).mono ?_
  rintro e w3 ⟨rfl, rfl⟩
  go_wp2_with fail
  have z0 := three_cell (three_set2 (x := .slice none 0 0) (three_set1 (x := .int .i64 0) (three_set0 (x := .int .i64 0) H2.out.r)))
  obtain ⟨z0, z1, z2, _, _, _, _⟩ := z0
  refine bodyPost_ret (v := .tuple #[edgeV 0 0 none 0 0, .slice none 0 0, .int .i64 2]) (by simp [results, Tryd.results16, go_sem, z0, z1, z2]) rfl ?_
  exact ⟨rfl, bSet (bSet (bSet H2.out.b (p := ⟨R, 0, none⟩) (Nat.le_of_lt hRB) _) (p := ⟨R, 1, none⟩) (Nat.le_of_lt hRB) _) (p := ⟨R, 2, none⟩) (Nat.le_of_lt hRB) _⟩
theorem EHeard_high (w : World) (s h : Int) (A : Option Addr) (c : Nat) (L : List OpV) (HT : Hid (Tabs w)) (HS : Hid (OpsIn w A L)) (HM : Hid (∀ o ∈ L, o.Small)) (B : Option Addr) (cc : Nat) (ps : List PartD) (HP : Hid (OpIn (· < w.heap.size) w B ps)) (hd : Int) (up : Bool) (hw : wrap64 (s - (L.length : Int)) = s - L.length) (f1 : s < hd) (HC : Hid (∀ W, Tabs W → OpsIn W A L → (∀ o ∈ L, o.Small) → Calls Tryd.prog 50 #[edgeV s h A L.length c] W fun r w' => r = .returned (.bool true) ∧ Below W.heap.size W w')) (HF : Hid (∀ W, Tabs W → OpIn (· < W.heap.size) W B ps → Calls Tryd.prog 36 #[.slice B ps.length cc] W fun r w' => r = .returned (.int .i64 0) ∧ Below W.heap.size W w')) :
    Calls Tryd.prog 16 #[edgeV s h A L.length c, .slice B ps.length cc, .int .i64 hd, .bool up] w (fun e w' => e = .returned (.tuple #[edgeV 0 0 none 0 0, .slice none 0 0, .int .i64 2]) ∧ Below w.heap.size w w') := by
  obtain ⟨W1, hW1⟩ : ∃ W1, W1 = w.alloc (.cells #[.int .i64 s, .int .i64 h, .slice A L.length c] 41) := ⟨_, rfl⟩
  obtain ⟨WA, hWA⟩ : ∃ WA, WA = W1.alloc (.cells #[.int .i64 0, .int .i64 0, .slice none 0 0] 41) := ⟨_, rfl⟩
  have g1 : W1.heap.size = w.heap.size + 1 := by rw [hW1]; simp
  have g2 : WA.heap.size = W1.heap.size + 1 := by rw [hWA]; simp
  have k1 : Below w.heap.size w W1 := by rw [hW1]; exact bAlloc (Below.refl _ _) _
  have k2 : Below W1.heap.size W1 WA := by rw [hWA]; exact bAlloc (Below.refl _ _) _
  have HA := Lib.hid (show SendAt w WA W1.heap.size s h A L.length c from ⟨(k2.block _ (by omega)).trans (by rw [hW1]; show (w.heap.push _)[w.heap.size]? = _; simp), by rw [hWA]; show (W1.heap.push _)[W1.heap.size]? = _; simp, bThen k1 k2⟩)
  have HW := Lib.hid (show (w.alloc (.cells #[.int .i64 s, .int .i64 h, .slice A L.length c] 41)).alloc (.cells #[.int .i64 0, .int .i64 0, .slice none 0 0] 41) = WA by rw [hWA, hW1])
  obtain ⟨R, hR⟩ : ∃ R, R = W1.heap.size := ⟨_, rfl⟩
  have HE2 := Lib.hid (show w.heap.size + 1 = R by omega)
  have hRB : w.heap.size < R := by omega
  have hRz : R < WA.heap.size := by omega
  rw [← hR] at HA
  clear hR k1 k2 g1 g2 hWA hW1
  go_enter Tryd.func16, Tryd.ntmps16
  go_wp2_with fail
  rw [HW.out, HE2.out]
  refine (HC.out _ (HT.out.later HA.out.b) (HS.out.later HA.out.b) HM.out).mono ?_
  rintro e w1 ⟨rfl, hb1⟩
  have H1 := Lib.hid (HA.out.later hb1)
  have hz1 := hb1.size
  obtain ⟨e0, e1, e2, _, _, _, hez⟩ := three_cell H1.out.e
  obtain ⟨r0, r1, r2, q0, q1, q2, hrz⟩ := three_cell H1.out.r
  clear hb1
  go_wp2_with fail
  refine (HF.out _ (HT.out.later H1.out.b) (Sl.later HP.out H1.out.b)).mono ?_
  rintro e w2 ⟨rfl, hb2⟩
  have H2 := Lib.hid (H1.out.later hb2)
  have hz2 := hb2.size
  clear e0 e1 e2 hez r0 r1 r2 q0 q1 q2 hrz
  obtain ⟨e0, e1, e2, _, _, _, hez⟩ := three_cell H2.out.e
  obtain ⟨r0, r1, r2, q0, q1, q2, hrz⟩ := three_cell H2.out.r
  clear hb2
  go_wp2_with fail
  refine (In_no hd (s - (L.length : Int)) s _ (.inr f1)).mono ?_
  rintro e w3 ⟨rfl, rfl⟩
  go_wp2_with fail
  have z0 := three_cell (three_set2 (x := .slice none 0 0) (three_set1 (x := .int .i64 0) (three_set0 (x := .int .i64 0) H2.out.r)))
  obtain ⟨z0, z1, z2, _, _, _, _⟩ := z0
  refine bodyPost_ret (v := .tuple #[edgeV 0 0 none 0 0, .slice none 0 0, .int .i64 2]) (by simp [results, Tryd.results16, go_sem, z0, z1, z2]) rfl ?_
  exact ⟨rfl, bSet (bSet (bSet H2.out.b (p := ⟨R, 0, none⟩) (Nat.le_of_lt hRB) _) (p := ⟨R, 1, none⟩) (Nat.le_of_lt hRB) _) (p := ⟨R, 2, none⟩) (Nat.le_of_lt hRB) _⟩
theorem EHeard_full (w : World) (s h : Int) (A : Option Addr) (c : Nat) (L : List OpV) (HT : Hid (Tabs w)) (HS : Hid (OpsIn w A L)) (HM : Hid (∀ o ∈ L, o.Small)) (B : Option Addr) (cc : Nat) (ps : List PartD) (HP : Hid (OpIn (· < w.heap.size) w B ps)) (hd : Int) (up : Bool) (hw : wrap64 (s - (L.length : Int)) = s - L.length) (f1 : s - (L.length : Int) ≤ hd) (f2 : hd ≤ s) (_f3 : decide (1048576 ≤ h) = true) (HC : Hid (∀ W, Tabs W → OpsIn W A L → (∀ o ∈ L, o.Small) → Calls Tryd.prog 50 #[edgeV s h A L.length c] W fun r w' => r = .returned (.bool true) ∧ Below W.heap.size W w')) (HF : Hid (∀ W, Tabs W → OpIn (· < W.heap.size) W B ps → Calls Tryd.prog 36 #[.slice B ps.length cc] W fun r w' => r = .returned (.int .i64 0) ∧ Below W.heap.size W w')) :
    Calls Tryd.prog 16 #[edgeV s h A L.length c, .slice B ps.length cc, .int .i64 hd, .bool up] w (fun e w' => e = .returned (.tuple #[edgeV 0 0 none 0 0, .slice none 0 0, .int .i64 8]) ∧ Below w.heap.size w w') := by
  obtain ⟨W1, hW1⟩ : ∃ W1, W1 = w.alloc (.cells #[.int .i64 s, .int .i64 h, .slice A L.length c] 41) := ⟨_, rfl⟩
  obtain ⟨WA, hWA⟩ : ∃ WA, WA = W1.alloc (.cells #[.int .i64 0, .int .i64 0, .slice none 0 0] 41) := ⟨_, rfl⟩
  have g1 : W1.heap.size = w.heap.size + 1 := by rw [hW1]; simp
  have g2 : WA.heap.size = W1.heap.size + 1 := by rw [hWA]; simp
  have k1 : Below w.heap.size w W1 := by rw [hW1]; exact bAlloc (Below.refl _ _) _
  have k2 : Below W1.heap.size W1 WA := by rw [hWA]; exact bAlloc (Below.refl _ _) _
  have HA := Lib.hid (show SendAt w WA W1.heap.size s h A L.length c from ⟨(k2.block _ (by omega)).trans (by rw [hW1]; show (w.heap.push _)[w.heap.size]? = _; simp), by rw [hWA]; show (W1.heap.push _)[W1.heap.size]? = _; simp, bThen k1 k2⟩)
  have HW := Lib.hid (show (w.alloc (.cells #[.int .i64 s, .int .i64 h, .slice A L.length c] 41)).alloc (.cells #[.int .i64 0, .int .i64 0, .slice none 0 0] 41) = WA by rw [hWA, hW1])
  obtain ⟨R, hR⟩ : ∃ R, R = W1.heap.size := ⟨_, rfl⟩
  have HE2 := Lib.hid (show w.heap.size + 1 = R by omega)
  have hRB : w.heap.size < R := by omega
  have hRz : R < WA.heap.size := by omega
  rw [← hR] at HA
  clear hR k1 k2 g1 g2 hWA hW1
  go_enter Tryd.func16, Tryd.ntmps16
  go_wp2_with fail
  rw [HW.out, HE2.out]
  refine (HC.out _ (HT.out.later HA.out.b) (HS.out.later HA.out.b) HM.out).mono ?_
  rintro e w1 ⟨rfl, hb1⟩
  have H1 := Lib.hid (HA.out.later hb1)
  have hz1 := hb1.size
  obtain ⟨e0, e1, e2, _, _, _, hez⟩ := three_cell H1.out.e
  obtain ⟨r0, r1, r2, q0, q1, q2, hrz⟩ := three_cell H1.out.r
  clear hb1
  go_wp2_with fail
  refine (HF.out _ (HT.out.later H1.out.b) (Sl.later HP.out H1.out.b)).mono ?_
  rintro e w2 ⟨rfl, hb2⟩
  have H2 := Lib.hid (H1.out.later hb2)
  have hz2 := hb2.size
  clear e0 e1 e2 hez r0 r1 r2 q0 q1 q2 hrz
  obtain ⟨e0, e1, e2, _, _, _, hez⟩ := three_cell H2.out.e
  obtain ⟨r0, r1, r2, q0, q1, q2, hrz⟩ := three_cell H2.out.r
  clear hb2
  go_wp2_with fail
  refine (In_yes hd (s - (L.length : Int)) s _ f1 f2).mono ?_
  rintro e w3 ⟨rfl, rfl⟩
  go_wp2_with fail
  have z0 := three_cell (three_set2 (x := .slice none 0 0) (three_set1 (x := .int .i64 0) (three_set0 (x := .int .i64 0) H2.out.r)))
  obtain ⟨z0, z1, z2, _, _, _, _⟩ := z0
  refine bodyPost_ret (v := .tuple #[edgeV 0 0 none 0 0, .slice none 0 0, .int .i64 8]) (by simp [results, Tryd.results16, go_sem, z0, z1, z2]) rfl ?_
  exact ⟨rfl, bSet (bSet (bSet H2.out.b (p := ⟨R, 0, none⟩) (Nat.le_of_lt hRB) _) (p := ⟨R, 1, none⟩) (Nat.le_of_lt hRB) _) (p := ⟨R, 2, none⟩) (Nat.le_of_lt hRB) _⟩
end Go.Proofs.YtbmdepbmejnlkaaDoor
namespace Go.Proofs.YtbmdepbmejnlkaaDoor
open Go.ChangeShapes Go.WideShapes Go.ChangeAt Go.RowKit
set_option maxRecDepth 100000
theorem wrap_mid {x : Int} (h1 : -1048576 ≤ x) (h2 : x ≤ 4194304) : wrap64 x = x := by
  unfold wrap64
  omega
set_option maxHeartbeats 1000000 in
theorem EHeard_go (w : World) (s h0 : Int) (A : Option Addr) (c : Nat) (L : List OpV) (HT : Hid (Tabs w)) (HS : Hid (OpsIn w A L)) (HM : Hid (∀ o ∈ L, o.Small)) (B : Option Addr) (cc : Nat) (ps : List PartD) (HP : Hid (OpIn (· < w.heap.size) w B ps)) (hd : Int) (_hw : wrap64 (s - (L.length : Int)) = s - L.length) (f1 : s - (L.length : Int) ≤ hd) (f2 : hd ≤ s) (_f3 : decide (1048576 ≤ h0) = false) (K : Nat) (_hK : K ≤ L.length) (HKd : Hid (hd = s - (L.length : Int) + K)) (hs1 : 0 ≤ s) (hs2 : s ≤ 1048576) (hls : (L.length : Int) ≤ s) (hh1 : wrap64 (h0 + 1) = h0 + 1) (hsp : SmallD ps) (HC : Hid (∀ W, Tabs W → OpsIn W A L → (∀ o ∈ L, o.Small) → Calls Tryd.prog 50 #[edgeV s h0 A L.length c] W fun r w' => r = .returned (.bool true) ∧ Below W.heap.size W w')) (HF : Hid (∀ W, Tabs W → OpIn (· < W.heap.size) W B ps → Calls Tryd.prog 36 #[.slice B ps.length cc] W fun r w' => r = .returned (.int .i64 0) ∧ Below W.heap.size W w')) :
    Calls Tryd.prog 16 #[edgeV s h0 A L.length c, .slice B ps.length cc, .int .i64 hd, .bool true] w (RetHear w (hearOut s (h0 + 1) (hearG true [] ps ((L.map OpV.ps).drop K)))) := by
  obtain ⟨i0, hi, hz0, hz1, hz2⟩ := info_parts infoOp
  obtain ⟨W1, hW1⟩ : ∃ W1, W1 = w.alloc (.cells #[.int .i64 s, .int .i64 h0, .slice A L.length c] 41) := ⟨_, rfl⟩
  obtain ⟨WA, hWA⟩ : ∃ WA, WA = W1.alloc (.cells #[.int .i64 0, .int .i64 0, .slice none 0 0] 41) := ⟨_, rfl⟩
  have g1 : W1.heap.size = w.heap.size + 1 := by rw [hW1]; simp
  have g2 : WA.heap.size = W1.heap.size + 1 := by rw [hWA]; simp
  have k1 : Below w.heap.size w W1 := by rw [hW1]; exact bAlloc (Below.refl _ _) _
  have k2 : Below W1.heap.size W1 WA := by rw [hWA]; exact bAlloc (Below.refl _ _) _
  have HA := Lib.hid (show SendAt w WA W1.heap.size s h0 A L.length c from ⟨(k2.block _ (by omega)).trans (by rw [hW1]; show (w.heap.push _)[w.heap.size]? = _; simp), by rw [hWA]; show (W1.heap.push _)[W1.heap.size]? = _; simp, bThen k1 k2⟩)
  have HW := Lib.hid (show (w.alloc (.cells #[.int .i64 s, .int .i64 h0, .slice A L.length c] 41)).alloc (.cells #[.int .i64 0, .int .i64 0, .slice none 0 0] 41) = WA by rw [hWA, hW1])
  obtain ⟨R, hR⟩ : ∃ R, R = W1.heap.size := ⟨_, rfl⟩
  have HE2 := Lib.hid (show w.heap.size + 1 = R by omega)
  have hRB : w.heap.size < R := by omega
  have hRz : R < WA.heap.size := by omega
  rw [← hR] at HA
  clear hR k1 k2 g1 g2 hWA hW1
  go_enter Tryd.func16, Tryd.ntmps16
  go_wp2_with fail
  rw [HW.out, HE2.out]
  refine (HC.out _ (HT.out.later HA.out.b) (HS.out.later HA.out.b) HM.out).mono ?_
  rintro e w1 ⟨rfl, hb1⟩
  have H1 := Lib.hid (HA.out.later hb1)
  have hz1 := hb1.size
  obtain ⟨e0, e1, e2, _, _, _, hez⟩ := three_cell H1.out.e
  obtain ⟨r0, r1, r2, q0, q1, q2, hrz⟩ := three_cell H1.out.r
  clear hb1
  go_wp2_with fail
  refine (HF.out _ (HT.out.later H1.out.b) (Sl.later HP.out H1.out.b)).mono ?_
  rintro e w2 ⟨rfl, hb2⟩
  have H2 := Lib.hid (H1.out.later hb2)
  have hz2 := hb2.size
  clear e0 e1 e2 hez r0 r1 r2 q0 q1 q2 hrz
  obtain ⟨e0, e1, e2, _, _, _, hez⟩ := three_cell H2.out.e
  obtain ⟨r0, r1, r2, q0, q1, q2, hrz⟩ := three_cell H2.out.r
  clear hb2
  go_wp2_with fail
  refine (In_yes hd (s - (L.length : Int)) s _ f1 f2).mono ?_
  rintro e w3 ⟨rfl, rfl⟩
  go_wp2_with fail
  have HDC := Lib.hid (fun W hs => OpCopy_c W B cc ps hs hsp.1)
  have HSP := Lib.hid hsp
  clear e0 e1 e2 hez r0 r1 r2 q0 q1 q2 hsp
  all_goals (
    refine calls_hide (fun G => EdgeAt G w2.heap.size s (h0 + 1) none 0 0 ∧ Below w2.heap.size w2 G ∧ G.heap.size = w2.heap.size + 1) ⟨by show (w2.heap.push _)[w2.heap.size]? = _; simp, bAlloc (Below.refl _ _) _, by simp⟩ ?_
    rintro G ⟨hX, hbG, hGz⟩
    refine (HDC.out G (Sl.later HP.out (bThen H2.out.b hbG))).mono ?_
    rintro e wd ⟨A2, c2, rfl, hown2, hbd⟩
    have hdz := hbd.size
    have H3 := Lib.hid (H2.out.later (hbG.trans (hbd.mono hbG.size)))
    have HR0 := Lib.hid (show HeardR w R w2.heap.size (w2.heap.size + 1) s h0 A L.length c s (h0 + 1) none 0 [] A2 ps wd from
      ⟨H3.out.e, H3.out.r, (hbd.block _ (by omega)).trans hX, OpsOwn.nil _ _, (Sl.of_own _ hown2).moved fun b hb => ⟨⟨⟨by omega, hb.2⟩, by simp [Value.ownBlock]⟩, rfl⟩, H3.out.b, hRB, hrz, by omega, by omega⟩)
    obtain ⟨e0, e1, e2, _, _, _, hez⟩ := three_cell H3.out.e
    have HG0 := Lib.hid (show hearG true (([] : List OpV).map OpV.ps) ps ((L.drop (max 0 K)).map OpV.ps) = hearG true [] ps ((L.map OpV.ps).drop K) by rw [List.map_drop]; simp)
    clear hX hbG hGz hown2 hbd hdz
    go_wp2_with fail
    clear e0 e1 e2 hez
    obtain ⟨X, hXe⟩ : ∃ X, X = w2.heap.size := ⟨_, rfl⟩
    rw [← hXe] at HR0 ⊢
    clear hXe hz2 hz1 hrz H2 H1 H3
    go_loopw [13, 14] (fun ov i wr => ∃ (k : Nat) (L' : List OpV) (Ao : Option Addr) (co : Nat) (hA : Option Addr) (hc : Nat) (hp : List PartD), k ≤ L.length ∧ i = .int .i64 k ∧ ov = .slice hA hp.length hc ∧ Hid (L'.length = k - K) ∧ Hid (hearG true (L'.map OpV.ps) hp ((L.drop (max k K)).map OpV.ps) = hearG true [] ps ((L.map OpV.ps).drop K)) ∧ Hid (SmallD hp) ∧ Hid (HeardR w R X (X + 1) s h0 A L.length c s (h0 + 1) Ao co L' hA hp wr)) (fun _ i _ => L.length - (intOf i).toNat)
    case atStart => exact ⟨0, [], none, 0, A2, c2, ps, Nat.zero_le _, rfl, rfl, Lib.hid (by simp), HG0, HSP, HR0⟩
    case round =>
      obtain ⟨k, L', Ao, co, hA, hc, hp, hk, rfl, rfl, hL', HG, HP2, HR⟩ := hrel
      obtain ⟨e0, e1, e2, _, _, _, hez⟩ := three_cell HR.out.e
      obtain ⟨x0, x1, x2, f0, f1', f2', hxz⟩ := three_cell HR.out.x
      by_cases hlt : k < L.length
      · have hw2 : wrap64 (s - (L.length : Int) + (k : Int)) = s - L.length + k := wrap_mid (by omega) (by omega)
        by_cases hkK : k < K
        · have t1 : decide (s - (L.length : Int) + (k : Int) < hd) = true := by have := HKd.out; simp; omega
          obtain rfl : L' = [] := List.eq_nil_of_length_eq_zero (by have := hL'.out; omega)
          go_wp2_with fail
          go_roundw
          case rel => exact ⟨k + 1, [], Ao, co, hA, hc, hp, by omega, by go_num, rfl, Lib.hid (by simp; omega), Lib.hid (by rw [← HG.out, show max (k + 1) K = max k K by omega]), HP2, HR⟩
          case measure => simp [intOf]; omega
        · have t1 : decide (s - (L.length : Int) + (k : Int) < hd) = false := by have := HKd.out; simp; omega
          obtain ⟨b, o, rfl, hbs, c0, hop⟩ := (HS.out.later HR.out.b).at_ hlt
          have hsq := HM.out (L[k]'(by omega)) (List.getElem_mem _)
          have HDR := Lib.hid (show (L.drop (max k K)).map OpV.ps = (L[k]'(by omega)).ps :: (L.drop (max (k + 1) K)).map OpV.ps by rw [show max k K = k by omega, show max (k + 1) K = k + 1 by omega, List.drop_eq_getElem_cons (by omega)]; rfl)
          generalize hqe : L[k]'(by omega) = q at *
          obtain ⟨qA, qc, qp⟩ := q
          have hsq2 : SmallD qp := ⟨hsq.len, hsq.text⟩
          dsimp only at *
          have HTF := Lib.hid (show Calls Tryd.prog 51 #[.slice qA qp.length qc, .slice hA hp.length hc] wr (RetTwoO wr (stP true qp hp) (stH true qp hp) (stE true qp hp)) from Transformed_c wr qA hA qc hc qp hp (HT.out.later HR.out.b) hop (HR.out.o.moved fun b h9 => ⟨h9.1.2, rfl⟩) hsq2.1 HP2.out.1 hsq2.2 HP2.out.2)
          by_cases he : stE true qp hp = 0
          · have HGS := Lib.hid (hearG_step (acc := L'.map OpV.ps) (ps := (L.drop (max (k + 1) K)).map OpV.ps) he)
            have HN2 := Lib.hid (stH_small true qp hp)
            rw [he] at HTF
            generalize stP true qp hp = pp at *
            generalize stH true qp hp = op at *
            clear hop he hqe hsq hsq2
            go_wp2_with fail
            refine (HTF.out).mono ?_
            rintro r w3 ⟨pA, pc, oA, oc, rfl, hP, hO, hb2⟩
            have HO2 := Lib.hid (HR.out.later hb2)
            obtain ⟨y0, y1, y2, g0, g1, g2, hyz⟩ := three_cell HO2.out.x
            clear e0 e1 e2 hez x0 x1 x2 f0 f1' f2' hxz c0
            go_wp2_with (refine stop_append rfl ?_)
            refine ⟨?_⟩
            refine wpList_append_sl _ rfl _ _ 25 rfl (X + 1) 43 i0 (.slice none 0 0) 1 24 Tryd.underlying25 hi hz0 hz1 hz2 rfl (by decide) _ _ _ rfl (HO2.out.own.row.alloc _) (fun _ => True) _ _ _ _ rfl (op_top rfl (by simp)) ?c1 ?c2 ?c3 ?c4 ?_
            case c1 => intro u hu; simp at hu; subst hu; rfl
            case c2 => have := hL'.out; unfold maxLen; omega
            case c3 => have := hL'.out; omega
            case c4 => have := HO2.out.bz; simp; omega
            intro A' c' w4 hown' hgrow hat
            have HPU := Lib.hid (HR.out.push hb2 hP hO hgrow hown' hat)
            obtain ⟨v0, v1, v2, j0, j1, j2, hvz⟩ := three_cell ((HR.out.far hb2 hgrow HR.out.xb).trans HR.out.x)
            clear hown' hgrow hat y0 y1 y2 g0 g1 g2 hyz
            go_wp2_with fail
            go_roundw
            case rel => exact ⟨k + 1, L' ++ [⟨pA, pc, pp⟩], A', c', oA, oc, op, by omega, by go_num, rfl, Lib.hid (by have := hL'.out; simp; omega), Lib.hid (by rw [List.map_append]; exact HGS.out.symm.trans ((by rw [HDR.out] : _ = _).trans HG.out)), HN2, HPU⟩
            case measure => simp [intOf]; omega
          · have HGS := Lib.hid ((HG.out.symm.trans (by rw [HDR.out])).trans (hearG_stop (acc := L'.map OpV.ps) (ps := (L.drop (max (k + 1) K)).map OpV.ps) he))
            have hne : (stE true qp hp != 0) = true := by simpa using he
            have HO0 := Lib.hid (show hearOut s (h0 + 1) ([], [], stE true qp hp) = (0, 0, [], [], stE true qp hp) from hearOut_stop he)
            generalize stE true qp hp = er at *
            generalize stP true qp hp = pp at *
            generalize stH true qp hp = op at *
            clear hop he hqe
            go_wp2_with fail
            refine (HTF.out).mono ?_
            rintro r w3 ⟨pA, pc, oA, oc, rfl, hP, hO, hb2⟩
            obtain ⟨r0, r1, r2, q0, q1, q2, hrz⟩ := three_cell (HR.out.later hb2).r
            go_wp2_with fail
            have z0 := three_cell (three_set2 (x := .slice none 0 0) (three_set1 (x := .int .i64 0) (three_set0 (x := .int .i64 0) (HR.out.later hb2).r)))
            obtain ⟨z0, z1, z2, _, _, _, _⟩ := z0
            refine bodyPost_ret (v := .tuple #[edgeV 0 0 none 0 0, .slice none 0 0, .int .i64 er]) (by simp [results, Tryd.results16, go_sem, z0, z1, z2]) rfl ?_
            rw [HGS.out, HO0.out]
            exact ⟨none, 0, [], none, 0, rfl, rfl, ⟨Sl.nil, by simp⟩, Sl.nil, bSet (bSet (bSet (HR.out.later hb2).b (p := ⟨R, 0, none⟩) (Nat.le_of_lt hRB) _) (p := ⟨R, 1, none⟩) (Nat.le_of_lt hRB) _) (p := ⟨R, 2, none⟩) (Nat.le_of_lt hRB) _⟩
      · obtain rfl : k = L.length := by omega
        have HGS := Lib.hid (show hearG true [] ps ((L.map OpV.ps).drop K) = (L'.map OpV.ps, hp, 0) by rw [← HG.out, show max L.length K = L.length by omega, List.drop_length]; rfl)
        have HO0 := Lib.hid (show hearOut s (h0 + 1) (L'.map OpV.ps, hp, 0) = (s, h0 + 1, L'.map OpV.ps, hp, 0) from hearOut_ok)
        obtain ⟨r0, r1, r2, q0, q1, q2, hrz⟩ := three_cell HR.out.r
        go_wp2_with fail
        have z0 := three_cell (three_set2 (x := .slice Ao L'.length co) (three_set1 (x := .int .i64 (h0 + 1)) (three_set0 (x := .int .i64 s) HR.out.r)))
        obtain ⟨z0, z1, z2, _, _, _, _⟩ := z0
        refine bodyPost_ret (v := .tuple #[edgeV s (h0 + 1) Ao L'.length co, .slice hA hp.length hc, .int .i64 0]) (by simp [results, Tryd.results16, go_sem, z0, z1, z2]) rfl ?_
        rw [HGS.out, HO0.out]
        exact HR.out.out)
end Go.Proofs.YtbmdepbmejnlkaaDoor
namespace Go.Proofs.YtbmdepbmejnlkaaDoor
open Go.ChangeShapes Go.WideShapes Go.ChangeAt Go.RowKit
set_option maxRecDepth 100000
theorem wrap_midF {x : Int} (h1 : -1048576 ≤ x) (h2 : x ≤ 4194304) : wrap64 x = x := by
  unfold wrap64
  omega
set_option maxHeartbeats 1000000 in
theorem EHeard_gof (w : World) (s h0 : Int) (A : Option Addr) (c : Nat) (L : List OpV) (HT : Hid (Tabs w)) (HS : Hid (OpsIn w A L)) (HM : Hid (∀ o ∈ L, o.Small)) (B : Option Addr) (cc : Nat) (ps : List PartD) (HP : Hid (OpIn (· < w.heap.size) w B ps)) (hd : Int) (_hw : wrap64 (s - (L.length : Int)) = s - L.length) (f1 : s - (L.length : Int) ≤ hd) (f2 : hd ≤ s) (_f3 : decide (1048576 ≤ h0) = false) (K : Nat) (_hK : K ≤ L.length) (HKd : Hid (hd = s - (L.length : Int) + K)) (hs1 : 0 ≤ s) (hs2 : s ≤ 1048576) (hls : (L.length : Int) ≤ s) (hh1 : wrap64 (h0 + 1) = h0 + 1) (hsp : SmallD ps) (HC : Hid (∀ W, Tabs W → OpsIn W A L → (∀ o ∈ L, o.Small) → Calls Tryd.prog 50 #[edgeV s h0 A L.length c] W fun r w' => r = .returned (.bool true) ∧ Below W.heap.size W w')) (HF : Hid (∀ W, Tabs W → OpIn (· < W.heap.size) W B ps → Calls Tryd.prog 36 #[.slice B ps.length cc] W fun r w' => r = .returned (.int .i64 0) ∧ Below W.heap.size W w')) :
    Calls Tryd.prog 16 #[edgeV s h0 A L.length c, .slice B ps.length cc, .int .i64 hd, .bool false] w (RetHear w (hearOut s (h0 + 1) (hearG false [] ps ((L.map OpV.ps).drop K)))) := by
  obtain ⟨i0, hi, hz0, hz1, hz2⟩ := info_parts infoOp
  obtain ⟨W1, hW1⟩ : ∃ W1, W1 = w.alloc (.cells #[.int .i64 s, .int .i64 h0, .slice A L.length c] 41) := ⟨_, rfl⟩
  obtain ⟨WA, hWA⟩ : ∃ WA, WA = W1.alloc (.cells #[.int .i64 0, .int .i64 0, .slice none 0 0] 41) := ⟨_, rfl⟩
  have g1 : W1.heap.size = w.heap.size + 1 := by rw [hW1]; simp
  have g2 : WA.heap.size = W1.heap.size + 1 := by rw [hWA]; simp
  have k1 : Below w.heap.size w W1 := by rw [hW1]; exact bAlloc (Below.refl _ _) _
  have k2 : Below W1.heap.size W1 WA := by rw [hWA]; exact bAlloc (Below.refl _ _) _
  have HA := Lib.hid (show SendAt w WA W1.heap.size s h0 A L.length c from ⟨(k2.block _ (by omega)).trans (by rw [hW1]; show (w.heap.push _)[w.heap.size]? = _; simp), by rw [hWA]; show (W1.heap.push _)[W1.heap.size]? = _; simp, bThen k1 k2⟩)
  have HW := Lib.hid (show (w.alloc (.cells #[.int .i64 s, .int .i64 h0, .slice A L.length c] 41)).alloc (.cells #[.int .i64 0, .int .i64 0, .slice none 0 0] 41) = WA by rw [hWA, hW1])
  obtain ⟨R, hR⟩ : ∃ R, R = W1.heap.size := ⟨_, rfl⟩
  have HE2 := Lib.hid (show w.heap.size + 1 = R by omega)
  have hRB : w.heap.size < R := by omega
  have hRz : R < WA.heap.size := by omega
  rw [← hR] at HA
  clear hR k1 k2 g1 g2 hWA hW1
  go_enter Tryd.func16, Tryd.ntmps16
  go_wp2_with fail
  rw [HW.out, HE2.out]
  refine (HC.out _ (HT.out.later HA.out.b) (HS.out.later HA.out.b) HM.out).mono ?_
  rintro e w1 ⟨rfl, hb1⟩
  have H1 := Lib.hid (HA.out.later hb1)
  have hz1 := hb1.size
  obtain ⟨e0, e1, e2, _, _, _, hez⟩ := three_cell H1.out.e
  obtain ⟨r0, r1, r2, q0, q1, q2, hrz⟩ := three_cell H1.out.r
  clear hb1
  go_wp2_with fail
  refine (HF.out _ (HT.out.later H1.out.b) (Sl.later HP.out H1.out.b)).mono ?_
  rintro e w2 ⟨rfl, hb2⟩
  have H2 := Lib.hid (H1.out.later hb2)
  have hz2 := hb2.size
  clear e0 e1 e2 hez r0 r1 r2 q0 q1 q2 hrz
  obtain ⟨e0, e1, e2, _, _, _, hez⟩ := three_cell H2.out.e
  obtain ⟨r0, r1, r2, q0, q1, q2, hrz⟩ := three_cell H2.out.r
  clear hb2
  go_wp2_with fail
  refine (In_yes hd (s - (L.length : Int)) s _ f1 f2).mono ?_
  rintro e w3 ⟨rfl, rfl⟩
  go_wp2_with fail
  have HDC := Lib.hid (fun W hs => OpCopy_c W B cc ps hs hsp.1)
  have HSP := Lib.hid hsp
  clear e0 e1 e2 hez r0 r1 r2 q0 q1 q2 hsp
  all_goals (
    refine calls_hide (fun G => EdgeAt G w2.heap.size s (h0 + 1) none 0 0 ∧ Below w2.heap.size w2 G ∧ G.heap.size = w2.heap.size + 1) ⟨by show (w2.heap.push _)[w2.heap.size]? = _; simp, bAlloc (Below.refl _ _) _, by simp⟩ ?_
    rintro G ⟨hX, hbG, hGz⟩
    refine (HDC.out G (Sl.later HP.out (bThen H2.out.b hbG))).mono ?_
    rintro e wd ⟨A2, c2, rfl, hown2, hbd⟩
    have hdz := hbd.size
    have H3 := Lib.hid (H2.out.later (hbG.trans (hbd.mono hbG.size)))
    have HR0 := Lib.hid (show HeardR w R w2.heap.size (w2.heap.size + 1) s h0 A L.length c s (h0 + 1) none 0 [] A2 ps wd from
      ⟨H3.out.e, H3.out.r, (hbd.block _ (by omega)).trans hX, OpsOwn.nil _ _, (Sl.of_own _ hown2).moved fun b hb => ⟨⟨⟨by omega, hb.2⟩, by simp [Value.ownBlock]⟩, rfl⟩, H3.out.b, hRB, hrz, by omega, by omega⟩)
    obtain ⟨e0, e1, e2, _, _, _, hez⟩ := three_cell H3.out.e
    have HG0 := Lib.hid (show hearG false (([] : List OpV).map OpV.ps) ps ((L.drop (max 0 K)).map OpV.ps) = hearG false [] ps ((L.map OpV.ps).drop K) by rw [List.map_drop]; simp)
    clear hX hbG hGz hown2 hbd hdz
    go_wp2_with fail
    clear e0 e1 e2 hez
    obtain ⟨X, hXe⟩ : ∃ X, X = w2.heap.size := ⟨_, rfl⟩
    rw [← hXe] at HR0 ⊢
    clear hXe hz2 hz1 hrz H2 H1 H3
    go_loopw [13, 14] (fun ov i wr => ∃ (k : Nat) (L' : List OpV) (Ao : Option Addr) (co : Nat) (hA : Option Addr) (hc : Nat) (hp : List PartD), k ≤ L.length ∧ i = .int .i64 k ∧ ov = .slice hA hp.length hc ∧ Hid (L'.length = k - K) ∧ Hid (hearG false (L'.map OpV.ps) hp ((L.drop (max k K)).map OpV.ps) = hearG false [] ps ((L.map OpV.ps).drop K)) ∧ Hid (SmallD hp) ∧ Hid (HeardR w R X (X + 1) s h0 A L.length c s (h0 + 1) Ao co L' hA hp wr)) (fun _ i _ => L.length - (intOf i).toNat)
    case atStart => exact ⟨0, [], none, 0, A2, c2, ps, Nat.zero_le _, rfl, rfl, Lib.hid (by simp), HG0, HSP, HR0⟩
    case round =>
      obtain ⟨k, L', Ao, co, hA, hc, hp, hk, rfl, rfl, hL', HG, HP2, HR⟩ := hrel
      obtain ⟨e0, e1, e2, _, _, _, hez⟩ := three_cell HR.out.e
      obtain ⟨x0, x1, x2, f0, f1', f2', hxz⟩ := three_cell HR.out.x
      by_cases hlt : k < L.length
      · have hw2 : wrap64 (s - (L.length : Int) + (k : Int)) = s - L.length + k := wrap_midF (by omega) (by omega)
        by_cases hkK : k < K
        · have t1 : decide (s - (L.length : Int) + (k : Int) < hd) = true := by have := HKd.out; simp; omega
          obtain rfl : L' = [] := List.eq_nil_of_length_eq_zero (by have := hL'.out; omega)
          go_wp2_with fail
          go_roundw
          case rel => exact ⟨k + 1, [], Ao, co, hA, hc, hp, by omega, by go_num, rfl, Lib.hid (by simp; omega), Lib.hid (by rw [← HG.out, show max (k + 1) K = max k K by omega]), HP2, HR⟩
          case measure => simp [intOf]; omega
        · have t1 : decide (s - (L.length : Int) + (k : Int) < hd) = false := by have := HKd.out; simp; omega
          obtain ⟨b, o, rfl, hbs, c0, hop⟩ := (HS.out.later HR.out.b).at_ hlt
          have hsq := HM.out (L[k]'(by omega)) (List.getElem_mem _)
          have HDR := Lib.hid (show (L.drop (max k K)).map OpV.ps = (L[k]'(by omega)).ps :: (L.drop (max (k + 1) K)).map OpV.ps by rw [show max k K = k by omega, show max (k + 1) K = k + 1 by omega, List.drop_eq_getElem_cons (by omega)]; rfl)
          generalize hqe : L[k]'(by omega) = q at *
          obtain ⟨qA, qc, qp⟩ := q
          have hsq2 : SmallD qp := ⟨hsq.len, hsq.text⟩
          dsimp only at *
          have HTF := Lib.hid (show Calls Tryd.prog 51 #[.slice hA hp.length hc, .slice qA qp.length qc] wr (RetTwoO wr (stH false qp hp) (stP false qp hp) (stE false qp hp)) from Transformed_c wr hA qA hc qc hp qp (HT.out.later HR.out.b) (HR.out.o.moved fun b h9 => ⟨h9.1.2, rfl⟩) hop HP2.out.1 hsq2.1 HP2.out.2 hsq2.2)
          by_cases he : stE false qp hp = 0
          · have HGS := Lib.hid (hearG_step (acc := L'.map OpV.ps) (ps := (L.drop (max (k + 1) K)).map OpV.ps) he)
            have HN2 := Lib.hid (stH_small false qp hp)
            rw [he] at HTF
            generalize stP false qp hp = pp at *
            generalize stH false qp hp = op at *
            clear hop he hqe hsq hsq2
            go_wp2_with fail
            refine (HTF.out).mono ?_
            rintro r w3 ⟨oA, oc, pA, pc, rfl, hO, hP, hb2⟩
            have HO2 := Lib.hid (HR.out.later hb2)
            obtain ⟨y0, y1, y2, g0, g1, g2, hyz⟩ := three_cell HO2.out.x
            clear e0 e1 e2 hez x0 x1 x2 f0 f1' f2' hxz c0
            go_wp2_with (refine stop_append rfl ?_)
            refine ⟨?_⟩
            refine wpList_append_sl _ rfl _ _ 25 rfl (X + 1) 43 i0 (.slice none 0 0) 1 24 Tryd.underlying25 hi hz0 hz1 hz2 rfl (by decide) _ _ _ rfl (HO2.out.own.row.alloc _) (fun _ => True) _ _ _ _ rfl (op_top rfl (by simp)) ?c1 ?c2 ?c3 ?c4 ?_
            case c1 => intro u hu; simp at hu; subst hu; rfl
            case c2 => have := hL'.out; unfold maxLen; omega
            case c3 => have := hL'.out; omega
            case c4 => have := HO2.out.bz; simp; omega
            intro A' c' w4 hown' hgrow hat
            have HPU := Lib.hid (HR.out.push hb2 hP hO hgrow hown' hat)
            obtain ⟨v0, v1, v2, j0, j1, j2, hvz⟩ := three_cell ((HR.out.far hb2 hgrow HR.out.xb).trans HR.out.x)
            clear hown' hgrow hat y0 y1 y2 g0 g1 g2 hyz
            go_wp2_with fail
            go_roundw
            case rel => exact ⟨k + 1, L' ++ [⟨pA, pc, pp⟩], A', c', oA, oc, op, by omega, by go_num, rfl, Lib.hid (by have := hL'.out; simp; omega), Lib.hid (by rw [List.map_append]; exact HGS.out.symm.trans ((by rw [HDR.out] : _ = _).trans HG.out)), HN2, HPU⟩
            case measure => simp [intOf]; omega
          · have HGS := Lib.hid ((HG.out.symm.trans (by rw [HDR.out])).trans (hearG_stop (acc := L'.map OpV.ps) (ps := (L.drop (max (k + 1) K)).map OpV.ps) he))
            have hne : (stE false qp hp != 0) = true := by simpa using he
            have HO0 := Lib.hid (show hearOut s (h0 + 1) ([], [], stE false qp hp) = (0, 0, [], [], stE false qp hp) from hearOut_stop he)
            generalize stE false qp hp = er at *
            generalize stP false qp hp = pp at *
            generalize stH false qp hp = op at *
            clear hop he hqe
            go_wp2_with fail
            refine (HTF.out).mono ?_
            rintro r w3 ⟨oA, oc, pA, pc, rfl, hO, hP, hb2⟩
            obtain ⟨r0, r1, r2, q0, q1, q2, hrz⟩ := three_cell (HR.out.later hb2).r
            go_wp2_with fail
            have z0 := three_cell (three_set2 (x := .slice none 0 0) (three_set1 (x := .int .i64 0) (three_set0 (x := .int .i64 0) (HR.out.later hb2).r)))
            obtain ⟨z0, z1, z2, _, _, _, _⟩ := z0
            refine bodyPost_ret (v := .tuple #[edgeV 0 0 none 0 0, .slice none 0 0, .int .i64 er]) (by simp [results, Tryd.results16, go_sem, z0, z1, z2]) rfl ?_
            rw [HGS.out, HO0.out]
            exact ⟨none, 0, [], none, 0, rfl, rfl, ⟨Sl.nil, by simp⟩, Sl.nil, bSet (bSet (bSet (HR.out.later hb2).b (p := ⟨R, 0, none⟩) (Nat.le_of_lt hRB) _) (p := ⟨R, 1, none⟩) (Nat.le_of_lt hRB) _) (p := ⟨R, 2, none⟩) (Nat.le_of_lt hRB) _⟩
      · obtain rfl : k = L.length := by omega
        have HGS := Lib.hid (show hearG false [] ps ((L.map OpV.ps).drop K) = (L'.map OpV.ps, hp, 0) by rw [← HG.out, show max L.length K = L.length by omega, List.drop_length]; rfl)
        have HO0 := Lib.hid (show hearOut s (h0 + 1) (L'.map OpV.ps, hp, 0) = (s, h0 + 1, L'.map OpV.ps, hp, 0) from hearOut_ok)
        obtain ⟨r0, r1, r2, q0, q1, q2, hrz⟩ := three_cell HR.out.r
        go_wp2_with fail
        have z0 := three_cell (three_set2 (x := .slice Ao L'.length co) (three_set1 (x := .int .i64 (h0 + 1)) (three_set0 (x := .int .i64 s) HR.out.r)))
        obtain ⟨z0, z1, z2, _, _, _, _⟩ := z0
        refine bodyPost_ret (v := .tuple #[edgeV s (h0 + 1) Ao L'.length co, .slice hA hp.length hc, .int .i64 0]) (by simp [results, Tryd.results16, go_sem, z0, z1, z2]) rfl ?_
        rw [HGS.out, HO0.out]
        exact HR.out.out)
end Go.Proofs.YtbmdepbmejnlkaaDoor
