/-
  A cell of a row is written (no walk).
-/
import Derived.Test.YtbmdepbmejnlkaaDoorRows
import Derived.Test.YtbmdepbmejnlkaaDoorEdgeOwn
namespace Go.Proofs.YtbmdepbmejnlkaaDoor
open Go.ChangeShapes Go.WideShapes Go.ChangeAt Go.RowKit
set_option maxRecDepth 100000
theorem Sl.set {S : Nat → Prop} {w : World} {b o n k : Nat} {v : Value} {cs : List Value} (h : Sl S w 1 (some ⟨b, o, none⟩) n cs) (hk : k < n) : Sl S (w.setCell ⟨b, o + k, none⟩ v) 1 (some ⟨b, o, none⟩) n (cs.set k v) := by
  refine ⟨by rw [List.length_set]; exact h.1, fun h0 => ?_⟩
  obtain ⟨b', o', e, hb, hc⟩ := h.2 h0
  injection e with e
  injection e with e1 e2
  subst e1 e2
  refine ⟨b, o, rfl, hb, fun j u hu => ?_⟩
  have hl : cs.length = n := by have := h.1; omega
  by_cases hj : k = j
  · subst hj
    have h1 := hc k cs[k] (List.getElem?_eq_getElem (by omega))
    rw [List.getElem?_set_self (by omega)] at hu
    obtain rfl := Option.some.inj hu
    exact World.cell?_setCell_same _ _ _ h1
  · rw [List.getElem?_set_ne hj] at hu
    have h1 := hc j u hu
    exact (World.cell?_setCell_other w _ _ _ (fun e => hj (by injection e with _ e2; omega))).trans h1
/-- A row of operations in blocks of S, the parts of each in blocks of S that are not the row's. -/
structure RowE (S : Nat → Prop) (w : World) (A : Option Addr) (L : List OpV) : Prop where
  row : Sl S w 1 A L.length (L.map OpV.val)
  each : ∀ o ∈ L, OpIn (fun b => S b ∧ A.map (·.block) ≠ some b) w o.A o.ps
theorem RowE.moved {S S' : Nat → Prop} {w w' : World} {A : Option Addr} {L : List OpV} (h : RowE S w A L) (k : ∀ b, S b → S' b ∧ w'.heap[b]? = w.heap[b]?) : RowE S' w' A L :=
  ⟨h.row.moved k, fun o ho => (h.each o ho).moved fun b hb => ⟨⟨(k b hb.1).1, hb.2⟩, (k b hb.1).2⟩⟩
theorem RowE.in_ {S : Nat → Prop} {w : World} {A : Option Addr} {L : List OpV} (h : RowE S w A L) (k : ∀ b, S b → b < w.heap.size) : OpsIn w A L :=
  ⟨h.row.moved fun b hb => ⟨k b hb, rfl⟩, fun o ho => (h.each o ho).moved fun b hb => ⟨k b hb.1, rfl⟩⟩
/-- One operation of the row is written over. -/
theorem RowE.put {S : Nat → Prop} {w : World} {b o k : Nat} {L : List OpV} {q : OpV} (h : RowE S w (some ⟨b, o, none⟩) L) (hk : k < L.length) (hq : OpIn (fun x => S x ∧ x ≠ b) w q.A q.ps) : RowE S (w.setCell ⟨b, o + k, none⟩ q.val) (some ⟨b, o, none⟩) (L.set k q) := by
  refine ⟨?_, fun p hp => ?_⟩
  · have h1 := h.row.set (v := q.val) hk
    rwa [List.length_set, List.map_set]
  · have hfar : ∀ x, x ≠ b → (w.setCell ⟨b, o + k, none⟩ q.val).heap[x]? = w.heap[x]? := fun x hx => Below.heap_setCell w ⟨b, o + k, none⟩ q.val x hx
    rcases List.mem_or_eq_of_mem_set hp with hp | rfl
    · exact (h.each p hp).moved fun x hx => ⟨hx, hfar x (fun e => hx.2 (by rw [e]; rfl))⟩
    · exact hq.moved fun x hx => ⟨⟨hx.1, fun e => hx.2 (by injection e with e; exact e.symm)⟩, hfar x hx.2⟩
/-- The row behind its first K operations. -/
theorem RowE.drop {S : Nat → Prop} {w : World} {b o K : Nat} {L : List OpV} (h : RowE S w (some ⟨b, o, none⟩) L) (hK : K ≤ L.length) : RowE S w (some ⟨b, o + K, none⟩) (L.drop K) := by
  refine ⟨⟨by simp, fun h0 => ?_⟩, fun p hp => h.each p (List.mem_of_mem_drop hp)⟩
  rw [List.length_drop] at h0
  obtain ⟨b', o', e, hb, hc⟩ := h.row.2 (by omega)
  injection e with e
  injection e with e1 e2
  subst e1 e2
  refine ⟨b, o + K, rfl, hb, fun j u hu => ?_⟩
  rw [List.map_drop, List.getElem?_drop] at hu
  have := hc (K + j) u hu
  rwa [← Nat.add_assoc] at this
theorem RowE.of_own {w : World} {base c : Nat} {A : Option Addr} {L : List OpV} (h : OpsOwn w base A c L) (hA : (Value.slice A L.length c).ownBlock = A.map (·.block)) : RowE (fun b => base ≤ b ∧ b < w.heap.size) w A L :=
  ⟨Sl.of_own _ h.row, fun o ho => (h.each o ho).moved fun b hb => ⟨⟨hb.1, by rw [← hA]; exact hb.2⟩, rfl⟩⟩
theorem row_cap {w : World} {base : Nat} {e : TypeId} {size n c : Nat} {A : Option Addr} {xs : List Value} (h : w.ownsRow base e size (.slice A n c) n xs) : n ≤ c ∧ c ≤ 9223372036854775807 := by
  obtain ⟨A', c', h1, h2, h3⟩ := own_form w h
  injection h1 with _ _ h4
  subst h4
  exact ⟨h2, h3⟩
theorem RowE.nil (S : Nat → Prop) (w : World) (A : Option Addr) : RowE S w A [] := ⟨⟨by simp, fun h => absurd h (by simp)⟩, by simp⟩
theorem RowE.drop' {S : Nat → Prop} {w : World} {K : Nat} {A : Option Addr} {L : List OpV} (h : RowE S w A L) (hK : K ≤ L.length) : RowE S w (A.map (fun x => x.add K)) (L.drop K) := by
  by_cases hl : K < L.length
  · obtain ⟨b, o, rfl, _⟩ := h.row.2 (by omega)
    rw [Option.map_some, Go.WideShapes.add_plain]
    exact h.drop hK
  · rw [List.drop_eq_nil_of_le (by omega)]
    exact RowE.nil _ _ _
theorem calls_hide {P : Program} {f : FuncId} {args : Array Value} {W : World} {R : Ending → World → Prop} (Q : World → Prop) (hQ : Q W) (h : ∀ W', Q W' → Calls P f args W' R) : Calls P f args W R := h W hQ
/-- What Hear has laid ahead of its loop: the new edge in its block, its row behind the operations that are known. -/
def HearAt (B0 : Nat) (X : Nat) (s h : Int) (D : List (List PartD)) (m : Nat) (G : World) : Prop :=
  ∃ A c, ∃ L4 : List OpV, L4.map OpV.ps = D ∧ L4.length = m ∧ EdgeAt G X s h A m c ∧ RowE (fun b => B0 ≤ b ∧ b < X) G A L4 ∧ ∀ b, A.map (·.block) = some b → b < X ∧ ∀ j, G.frozen? ⟨b, j, none⟩ = false
theorem own_frozen {wc : World} {B0 c3 : Nat} {A3 : Option Addr} {L3 : List OpV} {o : Obj} (hown : OpsOwn wc B0 A3 c3 L3) : ∀ b, A3.map (·.block) = some b → b < wc.heap.size ∧ ∀ j, (wc.alloc o).frozen? ⟨b, j, none⟩ = false := by
  intro b hb
  obtain ⟨a, rfl, rfl⟩ := Option.map_eq_some_iff.1 hb
  have hlt := (hown.row.lt a.block rfl).2
  refine ⟨hlt, fun j => ?_⟩
  rcases hown.row.2 with ⟨hn, _⟩ | ⟨g, cap, cur, e, hg, hgo, _⟩
  · cases hn
  · injection e with e
    injection e with e
    subst e
    unfold World.frozen?
    rw [heap_alloc_old _ _ _ hlt, hgo]
    simp
theorem hearAt_drop {w2 wc : World} {A3 : Option Addr} {c3 K : Nat} {L L3 : List OpV} {s h : Int} {c4 : Nat} (hps : L3.map OpV.ps = L.map OpV.ps) (hown : OpsOwn wc w2.heap.size A3 c3 L3) (hK : K ≤ L.length) (hl : L3.length = L.length) :
    HearAt w2.heap.size wc.heap.size s h ((L.map OpV.ps).drop K) (L.length - K) (wc.alloc (.cells #[.int .i64 s, .int .i64 h, .slice (A3.map (fun x => x.add K)) (L.length - K) c4] 41)) := by
  refine ⟨A3.map (fun x => x.add K), c4, L3.drop K, by rw [List.map_drop, hps], by rw [List.length_drop, hl], by show (wc.heap.push _)[wc.heap.size]? = _; simp, ?_, fun b hb => own_frozen hown b (by rw [← hb]; cases A3 <;> simp [Addr.add] <;> split <;> rfl)⟩
  refine RowE.drop' ?_ (by omega)
  refine (RowE.of_own hown (by cases A3 <;> rfl)).moved fun b hb' => ⟨hb', heap_alloc_old _ _ _ hb'.2⟩
theorem hearAt_nil {B0 : Nat} {wc : World} {A3 : Option Addr} {c3 c4 K : Nat} {L L3 : List OpV} {s h : Int} (hown : OpsOwn wc B0 A3 c3 L3) (hK : K = L.length) :
    HearAt B0 wc.heap.size s h ((L.map OpV.ps).drop K) (L.length - K) (wc.alloc (.cells #[.int .i64 s, .int .i64 h, .slice A3 (L.length - K) c4] 41)) := by
  subst hK
  exact ⟨A3, c4, [], by simp, by simp, by show (wc.heap.push _)[wc.heap.size]? = _; simp, RowE.nil _ _ _, own_frozen hown⟩
/-- What edge.Hear and its reference hand back. -/
def RetHear (w : World) (r : Int × Int × List (List PartD) × List PartD × Int) (e : Ending) (w' : World) : Prop :=
  ∃ A c L' B cc, e = .returned (.tuple #[edgeV r.1 r.2.1 A L'.length c, .slice B r.2.2.2.1.length cc, .int .i64 r.2.2.2.2]) ∧ L'.map OpV.ps = r.2.2.1 ∧ OpsIn w' A L' ∧ OpIn (· < w'.heap.size) w' B r.2.2.2.1 ∧ Below w.heap.size w w'
theorem set_take {Q : List OpV} {k : Nat} {q : OpV} (hk : k < Q.length) : ((Q.set k q).take (k + 1)).map OpV.ps = (Q.take k).map OpV.ps ++ [q.ps] := by
  rw [List.take_succ_eq_append_getElem (by simpa using hk), List.take_set_of_le (Nat.le_refl _), List.getElem_set_self]
  simp
theorem set_drop {Q : List OpV} {k : Nat} {q : OpV} : ((Q.set k q).drop (k + 1)).map OpV.ps = (Q.drop (k + 1)).map OpV.ps := by
  rw [List.drop_set_of_lt (by omega)]
/-- What lies in every round of Hear's loop. -/
structure HearR (w : World) (R B0 X : Nat) (s h : Int) (A : Option Addr) (m c : Nat) (Q : List OpV) (hA : Option Addr) (hp : List PartD) (G : World) : Prop where
  x : EdgeAt G X s h A m c
  r : EdgeAt G R 0 0 none 0 0
  b : Below w.heap.size w G
  row : RowE (fun b => B0 ≤ b ∧ b < G.heap.size ∧ b ≠ X) G A Q
  o : OpIn (fun b => (B0 ≤ b ∧ b < G.heap.size ∧ b ≠ X) ∧ (Q.length = 0 ∨ A.map (·.block) ≠ some b)) G hA hp
  fz : ∀ b, A.map (·.block) = some b → b < G.heap.size ∧ ∀ j, G.frozen? ⟨b, j, none⟩ = false
  xz : X < G.heap.size
  rz : R < B0
  wz : w.heap.size < B0
  bz : B0 ≤ X
theorem HearR.later {w G G' : World} {R B0 X m c : Nat} {s h : Int} {A hA : Option Addr} {Q : List OpV} {hp : List PartD} (k : HearR w R B0 X s h A m c Q hA hp G) (hb : Below G.heap.size G G') : HearR w R B0 X s h A m c Q hA hp G' :=
  ⟨(hb.block _ k.xz).trans k.x, (hb.block _ (by have := k.rz; have := k.bz; have := k.xz; omega)).trans k.r, bThen k.b hb, k.row.moved fun b h1 => ⟨⟨h1.1, Nat.lt_of_lt_of_le h1.2.1 hb.size, h1.2.2⟩, hb.block _ h1.2.1⟩,
    k.o.moved fun b h1 => ⟨⟨⟨h1.1.1, Nat.lt_of_lt_of_le h1.1.2.1 hb.size, h1.1.2.2⟩, h1.2⟩, hb.block _ h1.1.2.1⟩, fun b h1 => ⟨Nat.lt_of_lt_of_le (k.fz b h1).1 hb.size, fun j => (hb.frozen (p := ⟨b, j, none⟩) (k.fz b h1).1).trans ((k.fz b h1).2 j)⟩, Nat.lt_of_lt_of_le k.xz hb.size, k.rz, k.wz, k.bz⟩
/-- One pending operation is written over, another one comes in the place of the one that came. -/
theorem HearR.put {w G G' : World} {R B0 X m c b o k c' : Nat} {s h : Int} {hA pA oA : Option Addr} {Q : List OpV} {hp pp op : List PartD} (r : HearR w R B0 X s h (some ⟨b, o, none⟩) m c Q hA hp G) (hb : Below G.heap.size G G') (hk : k < Q.length)
    (h1 : OpIn (fun x => G.heap.size ≤ x ∧ x < G'.heap.size) G' pA pp) (h2 : OpIn (fun x => G.heap.size ≤ x ∧ x < G'.heap.size) G' oA op) :
    HearR w R B0 X s h (some ⟨b, o, none⟩) m c (Q.set k ⟨pA, c', pp⟩) oA op (G'.setCell ⟨b, o + k, none⟩ (.slice pA pp.length c')) := by
  have r' := r.later hb
  obtain ⟨b', o', e, hbs, hc⟩ := r.row.row.2 (by omega)
  injection e with e
  injection e with e1 e2
  subst e1 e2
  have hxz := r.xz
  have hsz := hb.size
  have hz : (G'.setCell ⟨b, o + k, none⟩ (.slice pA pp.length c')).heap.size = G'.heap.size := by simp [World.setCell]
  have hfar : ∀ x, x ≠ b → (G'.setCell ⟨b, o + k, none⟩ (.slice pA pp.length c')).heap[x]? = G'.heap[x]? := fun x hx => Below.heap_setCell _ _ _ _ (by simpa using hx)
  have hrz := r.rz
  have hwz := r.wz
  have hbz := r.bz
  refine ⟨(hfar X (fun e => hbs.2.2 e.symm)).trans r'.x, (hfar R (by omega)).trans r'.r, bSet r'.b (by show w.heap.size ≤ b; omega) _, ?_, ?_, fun b' h9 => ⟨by rw [hz]; exact (r'.fz b' h9).1, fun j => by rw [World.frozen?_setCell]; exact (r'.fz b' h9).2 j⟩, by omega, hrz, hwz, hbz⟩
  · have := RowE.put (k := k) (q := ⟨pA, c', pp⟩) r'.row hk (h1.moved fun x hx => ⟨⟨⟨by omega, hx.2, by omega⟩, by omega⟩, rfl⟩)
    exact this.moved fun x hx => ⟨⟨hx.1, by omega, hx.2.2⟩, rfl⟩
  · exact h2.moved fun x hx => ⟨⟨⟨by omega, by omega, by omega⟩, .inr fun e => by injection e with e; have : b = x := e; omega⟩, hfar x (by omega)⟩
end Go.Proofs.YtbmdepbmejnlkaaDoor
