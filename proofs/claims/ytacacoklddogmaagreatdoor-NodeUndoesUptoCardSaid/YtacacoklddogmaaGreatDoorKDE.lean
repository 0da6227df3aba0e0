/- A part of the proof of NodeUndoes. -/
import Derived.Test.YtacacoklddogmaaGreatDoorKBE
import Derived.ArgAppend
import Derived.Laws.OwnMore
import Derived.StillTailTactics
import Derived.IntWalk
namespace Go.Proofs.YtacacoklddogmaaGreatDoor
set_option maxHeartbeats 4000000
open Go.ChangeShapes Go.WideShapes Go.ChangeAt Go.RowKit
structure OwnsAt (w : World) (base size : Nat) (A : Option Addr) (n c : Nat) (xs : List Value) : Prop where
 len : xs.length = n * size
 cap : n ≤ c ∧ c ≤ maxLen
 at_ : (A = none ∧ c = 0) ∨ ∃ g o, A = some ⟨g, o, none⟩ ∧ base ≤ g ∧ g < w.heap.size ∧ (∀ j, j < c * size → (w.cell? ⟨g, o + j, none⟩).isSome = true ∧ w.frozen? ⟨g, o + j, none⟩ = false) ∧ ∀ j u, xs[j]? = some u → w.cell? ⟨g, o + j, none⟩ = some u
theorem OwnsAt.of_row {w : World} {base size n c : Nat} {e : TypeId} {A : Option Addr} {xs : List Value} (h : w.ownsRow base e size (.slice A n c) n xs) : OwnsAt w base size A n c xs := by
 refine ⟨h.1, ?_, ?_⟩
 · rcases h.2 with ⟨e1, e2⟩ | ⟨g, cap, cur, e1, _, _, h3, h4, _⟩
   · injection e1 with _ _ e4
     subst e4
     subst e2
     exact ⟨Nat.le_refl _, by unfold maxLen; omega⟩
   · injection e1 with _ _ e4
     subst e4
     exact ⟨h3, h4⟩
 · rcases h.2 with ⟨e1, e2⟩ | ⟨g, cap, cur, e1, hb, hg, h3, h4, h5, h6⟩
   · injection e1 with e3 _ e4
     exact .inl ⟨e3, e4⟩
   · injection e1 with e3 _ e4
     subst e3
     subst e4
     refine .inr ⟨g, 0, rfl, hb, (Array.getElem?_eq_some_iff.1 hg).1, fun j hj => ⟨?_, by simp [World.frozen?, hg]⟩, fun j u hu => ?_⟩
     · simp [World.cell?, hg, h5, hj]
     · have := h.cells (g := g) rfl j u hu
       rwa [Go.WideShapes.add_plain] at this
theorem OwnsAt.kept {w w' : World} {base size n c : Nat} {A : Option Addr} {xs : List Value} (h : OwnsAt w base size A n c xs) (hs : w.heap.size ≤ w'.heap.size) (hk : ∀ g, (Value.slice A n c).ownBlock = some g → w'.heap[g]? = w.heap[g]?) : OwnsAt w' base size A n c xs := by
 refine ⟨h.len, h.cap, h.at_.imp id fun ⟨g, o, e, hb, hg, hc, hx⟩ => ?_⟩
 subst e
 have hq := hk g rfl
 refine ⟨g, o, rfl, hb, by omega, fun j hj => ?_, fun j u hu => (World.cell?_of_block (w := w) (a := ⟨g, o + j, none⟩) hq).trans (hx j u hu)⟩
 rw [World.cell?_of_block (w := w) (a := ⟨g, o + j, none⟩) hq, World.frozen?_of_block (w := w) (a := ⟨g, o + j, none⟩) hq]
 exact hc j hj
theorem OwnsAt.lt {w : World} {base size n c : Nat} {A : Option Addr} {xs : List Value} (h : OwnsAt w base size A n c xs) {g : Nat} (hg : (Value.slice A n c).ownBlock = some g) : base ≤ g ∧ g < w.heap.size := by
 rcases h.at_ with ⟨rfl, _⟩ | ⟨g', o, rfl, hb, hl, _⟩
 · cases hg
 · cases hg
   exact ⟨hb, hl⟩
theorem OwnsAt.sl {w : World} {base size n c : Nat} {A : Option Addr} {xs : List Value} (h : OwnsAt w base size A n c xs) : Sl (fun b => (Value.slice A n c).ownBlock = some b ∧ b < w.heap.size) w size A n xs := by
 refine ⟨h.len, fun hn => ?_⟩
 rcases h.at_ with ⟨_, hc⟩ | ⟨g, o, rfl, _, hl, _, hx⟩
 · have := h.cap.1
   omega
 · exact ⟨g, o, rfl, ⟨rfl, hl⟩, hx⟩
theorem OwnsAt.nil (w : World) (base size : Nat) : OwnsAt w base size none 0 0 [] := ⟨by simp, ⟨Nat.le_refl _, by unfold maxLen; omega⟩, .inl ⟨rfl, rfl⟩⟩
theorem OwnsAt.mono {w : World} {base base' size n c : Nat} {A : Option Addr} {xs : List Value} (h : OwnsAt w base size A n c xs) (hb : base' ≤ base) : OwnsAt w base' size A n c xs :=
 ⟨h.len, h.cap, h.at_.imp id fun ⟨g, o, e, h1, rest⟩ => ⟨g, o, e, Nat.le_trans hb h1, rest⟩⟩
theorem OwnsAt.drop {w : World} {base size n c k : Nat} {A : Option Addr} {xs : List Value} (h : OwnsAt w base size A n c xs) (hk : k ≤ n) : OwnsAt w base size (A.map (fun x => x.add (k * size))) (n - k) (c - k) (xs.drop (k * size)) := by
 have hcap := h.cap
 refine ⟨by rw [List.length_drop, h.len, Nat.sub_mul], ⟨by omega, by omega⟩, ?_⟩
 rcases h.at_ with ⟨rfl, hc⟩ | ⟨g, o, rfl, hb, hl, hc, hx⟩
 · exact .inl ⟨rfl, by omega⟩
 · refine .inr ⟨g, o + k * size, by simp [Addr.add], hb, hl, fun j hj => ?_, fun j u hu => ?_⟩
   · rw [Nat.add_assoc]
     refine hc _ ?_
     have : (c - k) * size = c * size - k * size := Nat.sub_mul _ _ _
     have h2 : k * size ≤ c * size := Nat.mul_le_mul_right _ (by omega)
     omega
   · rw [List.getElem?_drop] at hu
     rw [Nat.add_assoc]
     exact hx _ u hu
theorem OwnsAt.gone {w : World} {base size n c : Nat} {A : Option Addr} {xs : List Value} (h : OwnsAt w base size A n c xs) : OwnsAt w base size A 0 0 [] :=
 ⟨by simp, ⟨Nat.le_refl _, by unfold maxLen; omega⟩, h.at_.imp (fun ⟨e, _⟩ => ⟨e, rfl⟩) fun ⟨g, o, e, hb, hl, _⟩ => ⟨g, o, e, hb, hl, fun j hj => by omega, fun j u hu => by simp at hu⟩⟩
theorem gr_ (b : Nat) : ∀ (vs : List Value) (o : Nat) (w : World), (w.setCells b o vs).os = w.os ∧ (w.setCells b o vs).tape = w.tape ∧ (w.setCells b o vs).output = w.output ∧ (w.setCells b o vs).heap.size = w.heap.size ∧ ∀ k, k ≠ b → (w.setCells b o vs).heap[k]? = w.heap[k]?
 | [], _, _ => ⟨rfl, rfl, rfl, rfl, fun _ _ => rfl⟩
 | v :: r, o, w => by
  obtain ⟨h1, h2, h3, h4, h5⟩ := gr_ b r (o + 1) (w.setCell ⟨b, o, none⟩ v)
  rw [World.setCells]
  exact ⟨h1, h2, h3, by rw [h4]; simp [World.setCell], fun k hk => (h5 k hk).trans (bH_ hk)⟩
section
variable {P : Program} (w : World)
theorem on_ (base : Nat) (t ty e : TypeId) (i : TypeInfo) (z : Value) (size bytes : Nat) (ht : P.underlying t = some (.slice e)) (hi : P.info? e = some i) (hz : i.zero = some z)
 (hsize : i.size = size) (hby : i.bytes = bytes) (hzs : z.cells.size = size) (hsz : 0 < size)
 (A : Option Addr) (n cap : Nat) (xs : List Value) (hown : OwnsAt w base size A n cap xs)
 (a : Addr) (m c : Nat) (news : List Value) (hl : news.length = m * size) (hnews : ∀ j u, news[j]? = some u → w.cell? (a.add j) = some u) (h1 : ∀ u ∈ news, u.oneCell' = true)
 (hm : 0 < m) (h63 : n + m ≤ maxLen) (hbytes : (n + m) * bytes ≤ 140737488355328) (hbase : base ≤ w.heap.size) :
 ∃ A' c' w', (Builtin.append_ #[t, t] ty #[.slice A n cap, .slice (some a) m c]).run P w = .ok (.slice A' (n + m) c') w' ∧ OwnsAt w' base size A' (n + m) c' (xs ++ news) ∧ w.grownBy w' (Value.slice A n cap).ownBlock ∧
  ((Value.slice A' (n + m) c').ownBlock = (Value.slice A n cap).ownBlock ∨ ∃ g, (Value.slice A' (n + m) c').ownBlock = some g ∧ w.heap.size ≤ g) := by
 have hlen : (xs ++ news).length = (n + m) * size := by rw [List.length_append, hown.len, hl, Nat.add_mul]
 rcases hown.at_ with ⟨rfl, rfl⟩ | ⟨g, o, rfl, hb, hgl, hc, hx⟩
 · have hn0 : n = 0 := by have := hown.cap.1; omega
   subst hn0
   have hx0 : xs = [] := List.eq_nil_of_length_eq_zero (by have := hown.len; simpa using this)
   subst hx0
   obtain ⟨v', w', hr, h2, h3, _, h5⟩ := run_append_own_at (P := P) w base t ty e i z size bytes ht hi hz hsize hby hzs hsz (.slice none 0 0) 0 [] (World.ownsRow_nil _ _ _ _) a m c news hl hnews h1 h63 hbytes hbase
   obtain ⟨g, cap', rfl, _, _⟩ := h2.form (by omega)
   exact ⟨_, _, w', hr, OwnsAt.of_row h2, h3, h5.imp id fun q => ⟨_, q, Nat.le_refl _⟩⟩
 · by_cases hroom : n + m ≤ cap
   · subst hsize
     have hr := run_append_room_cells (P := P) w t ty e i ht hi g o n cap a m c news hl hnews h1 hroom
      (fun j hj => by rw [Nat.add_assoc]; refine (hc _ ?_).1; have : (n + m) * i.size ≤ cap * i.size := Nat.mul_le_mul_right _ hroom; rw [Nat.add_mul] at this; omega)
      (fun j hj => by rw [Nat.add_assoc]; refine (hc _ ?_).2; have : (n + m) * i.size ≤ cap * i.size := Nat.mul_le_mul_right _ hroom; rw [Nat.add_mul] at this; omega)
     obtain ⟨q1, q2, q3, q4, q5⟩ := gr_ g news (o + n * i.size) w
     refine ⟨_, _, _, hr, ⟨hlen, ⟨hroom, hown.cap.2⟩, .inr ⟨g, o, rfl, hb, by rw [q4]; exact hgl, fun j hj => ⟨?_, ?_⟩, fun j u hu => ?_⟩⟩, ⟨q1, q2, q3, by rw [q4]; exact Nat.le_refl _, fun k _ hk => q5 k (fun e1 => hk (by simp [Value.ownBlock, e1]))⟩, .inl rfl⟩
     · by_cases hin : n * i.size ≤ j ∧ j < n * i.size + news.length
       · have h9 := World.cell?_setCells_in g news (o + n * i.size) w (fun j hj => by rw [Nat.add_assoc]; refine (hc _ ?_).1; have : (n + m) * i.size ≤ cap * i.size := Nat.mul_le_mul_right _ hroom; rw [Nat.add_mul] at this; omega) (j - n * i.size) (by omega)
         rw [show o + n * i.size + (j - n * i.size) = o + j by omega] at h9
         rw [h9]
         rfl
       · rw [World.cell?_setCells_out g news (o + n * i.size) w ⟨g, o + j, none⟩ (fun _ _ => by show o + j < _ ∨ _ ≤ o + j; omega)]
         exact (hc j hj).1
     · rw [World.frozen?_setCells]
       exact (hc j hj).2
     · rcases Nat.lt_or_ge j (n * i.size) with hj | hj
       · rw [World.cell?_setCells_out g news (o + n * i.size) w ⟨g, o + j, none⟩ (fun _ _ => by show o + j < _ ∨ _ ≤ o + j; omega)]
         rw [List.getElem?_append_left (by rw [hown.len]; exact hj)] at hu
         exact hx j u hu
       · rw [List.getElem?_append_right (by rw [hown.len]; exact hj), hown.len] at hu
         have hjl : j - n * i.size < news.length := (List.getElem?_eq_some_iff.1 hu).1
         have h9 := World.cell?_setCells_in g news (o + n * i.size) w (fun j hj => by rw [Nat.add_assoc]; refine (hc _ ?_).1; have : (n + m) * i.size ≤ cap * i.size := Nat.mul_le_mul_right _ hroom; rw [Nat.add_mul] at this; omega) (j - n * i.size) hjl
         rw [show o + n * i.size + (j - n * i.size) = o + j by omega] at h9
         rw [h9, ← hu, List.getElem?_eq_getElem hjl]
   · obtain ⟨v', w', hr, h2, h3⟩ := run_append_arg_grows (P := P) w t ty e i z size bytes ht hi hz hsize hby hzs hsz ⟨g, o, none⟩ n cap xs hown.len (fun j u hu => by rw [Go.WideShapes.add_plain]; exact hx j u hu) a m c news hl hnews (by omega) h63 hbytes
     obtain ⟨g', cap', rfl, hg1, hg2⟩ := h2.form (by omega)
     exact ⟨_, _, w', hr, (OwnsAt.of_row h2).mono hbase, ⟨h3.os, h3.tape, h3.output, h3.size, fun k hk _ => h3.block k hk (by simp)⟩, .inr ⟨g', rfl, hg1⟩⟩
theorem rf_ {o : Oper} {a : Act} {K : Act → World → Prop} {Q : Exit → Act → World → Prop} (s x : Operand) (t : TypeId)
 (ho : o.op = .call { callee := .builtin .append, args := #[s, x], argTypes := #[t, t] })
 (base : Nat) (e : TypeId) (i : TypeInfo) (z : Value) (size bytes : Nat) (ht : P.underlying t = some (.slice e)) (hi : P.info? e = some i) (hz : i.zero = some z)
 (hsize : i.size = size) (hby : i.bytes = bytes) (hzs : z.cells.size = size) (hsz : 0 < size)
 (A : Option Addr) (n cap : Nat) (xs : List Value) (hs : a.eval s = .slice A n cap) (hown : OwnsAt w base size A n cap xs)
 (S : Nat → Prop) (B : Option Addr) (m c : Nat) (news : List Value) (hx : a.eval x = .slice B m c) (hr : Sl S w size B m news) (h1 : ∀ u ∈ news, u.oneCell' = true)
 (hm : 0 < m) (h63 : n + m ≤ maxLen) (hbytes : (n + m) * bytes ≤ 140737488355328) (hbase : base ≤ w.heap.size)
 (h : ∀ A' c' w', OwnsAt w' base size A' (n + m) c' (xs ++ news) → w.grownBy w' (Value.slice A n cap).ownBlock → ((Value.slice A' (n + m) c').ownBlock = (Value.slice A n cap).ownBlock ∨ ∃ g, (Value.slice A' (n + m) c').ownBlock = some g ∧ w.heap.size ≤ g) → K (a.put o.dst (.slice A' (n + m) c')) w') : o.wp P a w K Q := by
 obtain ⟨b, k, rfl, _, hc⟩ := hr.2 hm
 obtain ⟨A', c', w', hrun, h2, h3, h4⟩ := on_ (P := P) w base t o.type e i z size bytes ht hi hz hsize hby hzs hsz A n cap xs hown ⟨b, k, none⟩ m c news hr.1 (fun j u hu => by rw [Go.WideShapes.add_plain]; exact hc j u hu) h1 hm h63 hbytes hbase
 unfold Oper.wp execOp
 simp only [ho, resolve, invoke, builtin, Sem.run_bind, Sem.run_pure, Result.andThen_ok, List.map_toArray, List.map_cons, List.map_nil, hs, hx, hrun]
 exact h A' c' w' h2 h3 h4
theorem mv_ {ops : Array Oper} {o : Oper} {a : Act} {K : Act → World → Prop} {Q : Exit → Act → World → Prop} {E : Prop} (hgd : o.guard = none) (s x : Operand) (t : TypeId)
 (ho : o.op = .call { callee := .builtin .append, args := #[s, x], argTypes := #[t, t] })
 (base : Nat) (e : TypeId) (i : TypeInfo) (z : Value) (size bytes : Nat) (ht : P.underlying t = some (.slice e)) (hi : P.info? e = some i) (hz : i.zero = some z)
 (hsize : i.size = size) (hby : i.bytes = bytes) (hzs : z.cells.size = size) (hsz : 0 < size)
 (A : Option Addr) (n cap : Nat) (xs : List Value) (hs : a.eval s = .slice A n cap) (hown : OwnsAt w base size A n cap xs)
 (S : Nat → Prop) (B : Option Addr) (m c : Nat) (news : List Value) (hx : a.eval x = .slice B m c) (hr : Sl S w size B m news) (h1 : ∀ u ∈ news, u.oneCell' = true)
 (hm : 0 < m) (h63 : n + m ≤ maxLen) (hbytes : (n + m) * bytes ≤ 140737488355328) (hbase : base ≤ w.heap.size)
 (h : ∀ A' c' w', OwnsAt w' base size A' (n + m) c' (xs ++ news) → w.grownBy w' (Value.slice A n cap).ownBlock → ((Value.slice A' (n + m) c').ownBlock = (Value.slice A n cap).ownBlock ∨ ∃ g, (Value.slice A' (n + m) c').ownBlock = some g ∧ w.heap.size ≤ g) → K (a.put o.dst (.slice A' (n + m) c')) w') :
 if Region.wanted o (yielded ops a.tmps) = true then Oper.wp P o a w K Q else E := by
 have hw : Region.wanted o (yielded ops a.tmps) = true := by simp [Region.wanted, hgd]
 rw [if_pos hw]
 exact rf_ w s x t ho base e i z size bytes ht hi hz hsize hby hzs hsz A n cap xs hs hown S B m c news hx hr h1 hm h63 hbytes hbase h
end
set_option maxRecDepth 100000
structure Turned (w w' : World) (B : Nat) (R : Option Nat) : Prop where
 os : w'.os = w.os
 tape : w'.tape = w.tape
 output : w'.output = w.output
 size : w.heap.size ≤ w'.heap.size
 block : ∀ k, k < w.heap.size → k ≠ B → some k ≠ R → w'.heap[k]? = w.heap[k]?
theorem Turned.refl (w : World) (B : Nat) (R : Option Nat) : Turned w w B R := ⟨rfl, rfl, rfl, Nat.le_refl _, fun _ _ _ _ => rfl⟩
theorem Turned.trans {w w1 w2 : World} {B : Nat} {R R1 : Option Nat} (h : Turned w w1 B R) (k : Turned w1 w2 B R1) (hR : R1 = R ∨ ∀ x, R1 = some x → w.heap.size ≤ x) : Turned w w2 B R :=
 ⟨k.os.trans h.os, k.tape.trans h.tape, k.output.trans h.output, Nat.le_trans h.size k.size, fun x hx hb hr => (k.block x (Nat.lt_of_lt_of_le hx h.size) hb (by
  rcases hR with rfl | hR
  · exact hr
  · intro e
    have := hR x e.symm
    omega)).trans (h.block x hx hb hr)⟩
theorem Turned.of_below {w w' : World} {B : Nat} {R : Option Nat} (h : Below w.heap.size w w') : Turned w w' B R := ⟨h.os, h.tape, h.output, h.size, fun x hx _ _ => h.block x hx⟩
theorem Turned.of_grown {w w' : World} {B : Nat} {R : Option Nat} (h : w.grownBy w' R) : Turned w w' B R := ⟨h.os, h.tape, h.output, h.size, fun x hx _ hr => h.block x hx hr⟩
theorem Turned.of_set (w : World) (B o : Nat) (u : Value) (R : Option Nat) : Turned w (w.setCell ⟨B, o, none⟩ u) B R :=
 ⟨rfl, rfl, rfl, by simp [World.setCell], fun _ _ hb _ => bH_ hb⟩
theorem Turned.below {w w' : World} {B base : Nat} {R : Option Nat} (h : Turned w w' B R) (hB : base ≤ B) (hR : ∀ x, R = some x → base ≤ x) (hb : base ≤ w.heap.size) : Below base w w' :=
 ⟨h.os, h.tape, h.output, h.size, fun x hx => h.block x (by omega) (by omega) (fun e => by have := hR x e.symm; omega)⟩
structure Bld (w : World) (base B : Nat) (A : Option Addr) (c : Nat) (rs : List PartD) : Prop where
 lo : base ≤ B
 obj : w.heap[B]? = some (.cells #[.slice A rs.length c] 138 (0, 0))
 row : w.ownsRow base 73 3 (.slice A rs.length c) rs.length (opCells rs.reverse)
 apart : (Value.slice A rs.length c).ownBlock ≠ some B
theorem cp_ (rs : List PartD) (p : PartD) : opCells (rs ++ [p]) = opCells rs ++ p.cells := by simp [opCells]
theorem Bld.lt {w : World} {base B : Nat} {A : Option Addr} {c : Nat} {rs : List PartD} (h : Bld w base B A c rs) : B < w.heap.size := (Array.getElem?_eq_some_iff.1 h.obj).1
theorem Bld.cell {w : World} {base B : Nat} {A : Option Addr} {c : Nat} {rs : List PartD} (h : Bld w base B A c rs) : w.cell? ⟨B, 0, none⟩ = some (.slice A rs.length c) := by
 simp [World.cell?, h.obj]
theorem Bld.frozen {w : World} {base B : Nat} {A : Option Addr} {c : Nat} {rs : List PartD} (h : Bld w base B A c rs) : w.frozen? ⟨B, 0, none⟩ = false := by
 simp [World.frozen?, h.obj]
theorem Bld.last {w : World} {base B : Nat} {A : Option Addr} {c : Nat} {p : PartD} {rs : List PartD} (h : Bld w base B A c (p :: rs)) :
 ∃ g, A = some ⟨g, 0, none⟩ ∧ base ≤ g ∧ g < w.heap.size ∧ g ≠ B ∧ rs.length + 1 ≤ c ∧ c ≤ maxLen ∧ w.cell? ⟨g, rs.length * 3, none⟩ = some (.int .i64 p.kind) ∧ w.cell? ⟨g, rs.length * 3 + 1, none⟩ = some (.int .i64 p.n) ∧ w.cell? ⟨g, rs.length * 3 + 2, none⟩ = some (.string p.text) ∧
  ∀ j, w.frozen? ⟨g, j, none⟩ = false := by
 rcases h.row.2 with ⟨_, h0⟩ | ⟨g, cap, cur, hv, hb, hg, h1, h2, h3, h4⟩
 · simp at h0
 · simp only [Value.slice.injEq, true_and] at hv
   obtain ⟨rfl, rfl⟩ := hv
   have hc : ∀ j, j < 3 → w.cell? ⟨g, rs.length * 3 + j, none⟩ = p.cells[j]? := by
    intro j hj
    have hl : rs.length * 3 + j < (p :: rs).length * 3 := by simp; omega
    rw [h.row.cellAt _ hl, List.reverse_cons, cp_, List.getElem?_append_right (by rw [bv_]; simp)]
    congr 1
    rw [bv_]
    simp
   refine ⟨g, rfl, hb, (Array.getElem?_eq_some_iff.1 hg).1, fun e => h.apart (by simp [Value.ownBlock, e]), by simpa using h1, h2, hc 0 (by omega), hc 1 (by omega), hc 2 (by omega), fun j => h.row.frozenAt j⟩
theorem Bld.stored {w : World} {base B g : Nat} {c : Nat} {p q : PartD} {rs : List PartD} (h : Bld w base B (some ⟨g, 0, none⟩) c (p :: rs)) (j : Nat) (u : Value) (hq : p.cells.set j u = q.cells) :
 Bld (w.setCell ⟨g, rs.length * 3 + j, none⟩ u) base B (some ⟨g, 0, none⟩) c (q :: rs) ∧ Turned w (w.setCell ⟨g, rs.length * 3 + j, none⟩ u) B (some g) := by
 obtain ⟨h1, h2⟩ := h.row.stored (rs.length * 3 + j) u
 refine ⟨⟨h.lo, ?_, ?_, h.apart⟩, Turned.of_grown h2⟩
 · have hne : B ≠ g := fun e => h.apart (by simp [Value.ownBlock, e])
   exact (Below.heap_setCell w ⟨g, rs.length * 3 + j, none⟩ u B hne).trans h.obj
 · have e : (opCells (p :: rs).reverse).set (rs.length * 3 + j) u = opCells (q :: rs).reverse := by
    rw [List.reverse_cons, List.reverse_cons, cp_, cp_, List.set_append_right _ _ (by rw [bv_]; simp), bv_, List.length_reverse, Nat.add_sub_cancel_left, hq]
   rw [e] at h1
   exact h1
theorem Bld.put {w : World} {base B : Nat} {A A' : Option Addr} {c c' : Nat} {rs qs : List PartD} (hlo : base ≤ B) (hobj : w.heap[B]? = some (.cells #[.slice A rs.length c] 138 (0, 0)))
 (hrow : w.ownsRow base 73 3 (.slice A' qs.length c') qs.length (opCells qs.reverse)) (hap : (Value.slice A' qs.length c').ownBlock ≠ some B) :
 Bld (w.setCell ⟨B, 0, none⟩ (.slice A' qs.length c')) base B A' c' qs := by
 refine ⟨hlo, ?_, ?_, hap⟩
 · rw [heap_setCell_same w B 0 _ _ _ hobj]
   rfl
 · refine hrow.kept (row := some B) ⟨rfl, rfl, rfl, by simp [World.setCell], fun x _ hx => bH_ (fun e => hx (by simp [e]))⟩ (.inr ?_)
   exact hap
theorem Bld.shorter {w : World} {base B : Nat} {A : Option Addr} {c : Nat} {p : PartD} {rs : List PartD} (h : Bld w base B A c (p :: rs)) : w.ownsRow base 73 3 (.slice A rs.length c) rs.length (opCells rs.reverse) := by
 refine ⟨by rw [bv_]; simp, ?_⟩
 rcases h.row.2 with ⟨_, h0⟩ | ⟨g, cap, cur, hv, hb, hg, h1, h2, h3, h4⟩
 · simp at h0
 · simp only [Value.slice.injEq, true_and] at hv
   obtain ⟨rfl, rfl⟩ := hv
   refine .inr ⟨g, c, cur, rfl, hb, hg, by simp at h1; omega, h2, h3, ?_⟩
   have := congrArg (List.take (rs.length * 3)) h4
   rw [List.take_take, List.reverse_cons, cp_, List.take_left' (by rw [bv_]; simp)] at this
   rw [← this]
   congr 1
   simp
def remR (rs : List PartD) (n : Int) : List PartD :=
 match rs with
 | [] => if 0 < n then [⟨3, n, ⟨#[]⟩⟩] else []
 | p :: r => if p.kind = 3 then ⟨p.kind, wrap64 (p.n + n), p.text⟩ :: r else if 0 < n then ⟨3, n, ⟨#[]⟩⟩ :: p :: r else p :: r
theorem fz_ (p : PartD) (r : List PartD) (n : Int) : remR (p :: r) n = if p.kind = 3 then ⟨p.kind, wrap64 (p.n + n), p.text⟩ :: r else if 0 < n then ⟨3, n, ⟨#[]⟩⟩ :: p :: r else p :: r := rfl
theorem ko_ (n : Int) : remR [] n = if 0 < n then [⟨3, n, ⟨#[]⟩⟩] else [] := rfl
def insR (rs : List PartD) (s : ByteArray) : List PartD :=
 match rs with
 | [] => [⟨2, 0, s⟩]
 | p :: r => if p.kind = 2 then ⟨p.kind, p.n, p.text ++ s⟩ :: r else if p.kind = 3 then remR (insR r s) p.n else ⟨2, 0, s⟩ :: p :: r
theorem kl_ (s : ByteArray) : insR [] s = [⟨2, 0, s⟩] := rfl
theorem es_ (p : PartD) (r : List PartD) (s : ByteArray) : insR (p :: r) s = if p.kind = 2 then ⟨p.kind, p.n, p.text ++ s⟩ :: r else if p.kind = 3 then remR (insR r s) p.n else ⟨2, 0, s⟩ :: p :: r := rfl
section
variable (w : World) (base B : Nat) (A : Option Addr) (c : Nat)
theorem fn_ (k : Int) (h : Bld w base B A c []) :
 Calls Tryz.prog 123 #[.pointer (some ⟨B, 0, none⟩), .int .i64 k] w (R_ w (.pointer none)) := by
 have hc := h.cell
 have hl := h.lt
 simp only [List.length_nil] at hc
 go_enter Tryz.func123, Tryz.ntmps123
 go_wp2_with fail
 go_ret
 exact ⟨rfl, bz_⟩
theorem fo_ (p : PartD) (rs : List PartD) (h : Bld w base B A c (p :: rs)) :
 Calls Tryz.prog 123 #[.pointer (some ⟨B, 0, none⟩), .int .i64 p.kind] w (R_ w (.pointer (A.map fun a => ⟨a.block, rs.length * 3, none⟩))) := by
 have hc := h.cell
 have hl := h.lt
 obtain ⟨g, rfl, _, hg, _, hcap, hmax, h0, _, _, _⟩ := h.last
 simp only [List.length_cons] at hc
 unfold maxLen at hmax
 go_enter Tryz.func123, Tryz.ntmps123
 go_wp2_with fail
 go_ret
 exact ⟨rfl, bz_⟩
theorem ih_ (k : Int) (p : PartD) (rs : List PartD) (h : Bld w base B A c (p :: rs)) (hk : (p.kind == k) = false) :
 Calls Tryz.prog 123 #[.pointer (some ⟨B, 0, none⟩), .int .i64 k] w (R_ w (.pointer none)) := by
 have hc := h.cell
 have hl := h.lt
 obtain ⟨g, rfl, _, hg, _, hcap, hmax, h0, _, _, _⟩ := h.last
 simp only [List.length_cons] at hc
 unfold maxLen at hmax
 go_enter Tryz.func123, Tryz.ntmps123
 go_wp2_with fail
 go_ret
 exact ⟨rfl, bz_⟩
end
theorem zf_ (W : World) : ({ heap := W.heap, tape := W.tape, drawn := W.drawn + 1, os := W.os, output := W.output } : World) = W.drew := rfl
def BldTo (w : World) (base B : Nat) (A : Option Addr) (n c : Nat) (qs : List PartD) (w' : World) : Prop :=
 ∃ A' c', Bld w' base B A' c' qs ∧ Turned w w' B (Value.slice A n c).ownBlock ∧ ((Value.slice A' qs.length c').ownBlock = (Value.slice A n c).ownBlock ∨ ∀ x, (Value.slice A' qs.length c').ownBlock = some x → w.heap.size ≤ x)
theorem Bld.later {w w' : World} {base B : Nat} {A : Option Addr} {c : Nat} {rs : List PartD} (h : Bld w base B A c rs) (hb : Below w.heap.size w w') : Bld w' base B A c rs :=
 ⟨h.lo, (hb.block B h.lt).trans h.obj, h.row.kept (row := none) ⟨hb.os, hb.tape, hb.output, hb.size, fun k hk _ => hb.block k hk⟩ (by cases (Value.slice A rs.length c).ownBlock <;> simp), h.apart⟩
theorem Bld.grown {w w' : World} {base B : Nat} {A : Option Addr} {c : Nat} {rs : List PartD} (h : Bld w base B A c rs) (hg : w.grownBy w' (Value.slice A rs.length c).ownBlock) : w'.heap[B]? = some (.cells #[.slice A rs.length c] 138 (0, 0)) :=
 (hg.block B h.lt (fun e => h.apart e.symm)).trans h.obj
theorem km_ {w : World} {B : Nat} {v : Value} {t : TypeId} (h : w.heap[B]? = some (.cells #[v] t (0, 0))) : w.cell? ⟨B, 0, none⟩ = some v ∧ w.frozen? ⟨B, 0, none⟩ = false ∧ B < w.heap.size :=
 ⟨by simp [World.cell?, h], by simp [World.frozen?, h], (Array.getElem?_eq_some_iff.1 h).1⟩
theorem fh_ {w W2 w1 : World} {base B x : Nat} {A A' : Option Addr} {c c' : Nat} {rs : List PartD} {q : PartD} (hb : Bld w base B A c rs) (hW : Below w.heap.size w W2)
 (hown : w1.ownsRow base 73 3 (.slice A' (rs.length + 1) c') (rs.length + 1) (opCells rs.reverse ++ q.cells)) (hgrow : W2.grownBy w1 (Value.slice A rs.length c).ownBlock)
 (hat : (Value.slice A' (rs.length + 1) c').ownBlock = (Value.slice A rs.length c).ownBlock ∨ (Value.slice A' (rs.length + 1) c').ownBlock = some x) (hx : w.heap.size ≤ x) :
 BldTo w base B A rs.length c (q :: rs) (w1.setCell ⟨B, 0, none⟩ (.slice A' (rs.length + 1) c')) := by
 have hat' : (Value.slice A' (rs.length + 1) c').ownBlock = (Value.slice A rs.length c).ownBlock ∨ ∀ y, (Value.slice A' (rs.length + 1) c').ownBlock = some y → w.heap.size ≤ y := by
  rcases hat with h | h
  · exact .inl h
  · refine .inr fun y hy => ?_
    rw [h] at hy
    injection hy with hy
    omega
 refine ⟨A', c', Bld.put (rs := rs) (A := A) (c := c) (qs := q :: rs) (A' := A') (c' := c') hb.lo ((hb.later hW).grown hgrow) ?_ ?_, ?_, hat'⟩
 · rw [List.reverse_cons, cp_]
   exact hown
 · rcases hat with h | h
   · intro e
     exact hb.apart (h.symm.trans e)
   · intro e
     have := hb.lt
     have e2 : some x = some B := h.symm.trans e
     injection e2 with e2
     omega
 · exact ((Turned.of_below hW).trans (Turned.of_grown hgrow) (.inl rfl)).trans (Turned.of_set w1 B 0 _ _) (.inl rfl)
theorem BldTo.self {w w' : World} {base B : Nat} {A : Option Addr} {c : Nat} {rs : List PartD} (hb : Bld w base B A c rs) (h : Below w.heap.size w w') : BldTo w base B A rs.length c rs w' :=
 ⟨A, c, hb.later h, Turned.of_below h, .inl rfl⟩
theorem BldTo.then_ {w w1 w2 : World} {base B : Nat} {A A1 : Option Addr} {n c c1 : Nat} {rs qs : List PartD} (ht : Turned w w1 B (Value.slice A n c).ownBlock) (hr : (Value.slice A1 rs.length c1).ownBlock = (Value.slice A n c).ownBlock ∨ ∀ x, (Value.slice A1 rs.length c1).ownBlock = some x → w.heap.size ≤ x)
 (h : BldTo w1 base B A1 rs.length c1 qs w2) : BldTo w base B A n c qs w2 := by
 obtain ⟨A2, c2, hb2, ht2, hr2⟩ := h
 refine ⟨A2, c2, hb2, ht.trans ht2 hr, ?_⟩
 rcases hr2 with e | e
 · rw [e]
   exact hr
 · exact .inr fun x hx => Nat.le_trans ht.size (e x hx)
section
variable (w : World) (base B : Nat) (A : Option Addr) (c : Nat)
theorem sh_ (n : Int) (p : PartD) (rs : List PartD) (hb : Bld w base B A c (p :: rs)) (hk : p.kind = 3) :
 Calls Tryz.prog 93 #[.pointer (some ⟨B, 0, none⟩), .int .i64 n] w fun e w' => e = .returned (.tuple #[]) ∧ BldTo w base B A (rs.length + 1) c (⟨p.kind, wrap64 (p.n + n), p.text⟩ :: rs) w' := by
 have HL := h_ (fo_ w base B A c p rs hb)
 have HB := h_ hb
 obtain ⟨g, rfl, _, hg, hne, hcap, hmax, h0, h1, h2, hfz⟩ := hb.last
 have hl := hb.lt
 rw [hk] at HL
 obtain ⟨kd, pn, tx⟩ := p
 dsimp only at *
 subst hk
 have hz := hfz (rs.length * 3 + 1)
 clear hb hfz
 go_enter Tryz.func93, Tryz.ntmps93
 go_wp2_with fail
 refine HL.out.mono ?_
 rintro e w1 ⟨rfl, hb1⟩
 obtain ⟨⟨d1, os1⟩, rfl⟩ := a_ hb1
 dsimp only [Option.map]
 go_wp2_with fail
 obtain ⟨hA, hB⟩ := HB.out.stored 1 (.int .i64 (wrap64 (pn + n))) (q := ⟨3, wrap64 (pn + n), tx⟩) rfl
 exact bodyPost_end (results_none rfl _ _ _) rfl ⟨rfl, _, _, hA.later (bGrow (Below.refl _ _) _ _), hB.trans (Turned.of_below (bGrow (Below.refl _ _) _ _)) (.inl rfl), .inl rfl⟩
theorem jk_ (n : Int) (rs : List PartD) (hb : Bld w base B A c rs) (hn : decide (0 < n) = false)
 (HL : Hid (Calls Tryz.prog 123 #[.pointer (some ⟨B, 0, none⟩), .int .i64 3] w (R_ w (.pointer none)))) :
 Calls Tryz.prog 93 #[.pointer (some ⟨B, 0, none⟩), .int .i64 n] w fun e w' => e = .returned (.tuple #[]) ∧ BldTo w base B A rs.length c rs w' := by
 go_enter Tryz.func93, Tryz.ntmps93
 go_wp2_with fail
 refine HL.out.mono ?_
 rintro e w1 ⟨rfl, hb1⟩
 go_wp2_with fail
 exact bodyPost_end (results_none rfl _ _ _) rfl ⟨rfl, BldTo.self hb hb1⟩
theorem lu_ (n : Int) (rs : List PartD) (hb : Bld w base B A c rs) (hn : decide (0 < n) = true) (hlen : rs.length ≤ 1000000)
 (HL : Hid (Calls Tryz.prog 123 #[.pointer (some ⟨B, 0, none⟩), .int .i64 3] w (R_ w (.pointer none)))) :
 Calls Tryz.prog 93 #[.pointer (some ⟨B, 0, none⟩), .int .i64 n] w fun e w' => e = .returned (.tuple #[]) ∧ BldTo w base B A rs.length c (⟨3, n, ⟨#[]⟩⟩ :: rs) w' := by
 have hl := hb.lt
 have hc := hb.cell
 obtain ⟨i0, hi, hz0, hz1, hz2⟩ := info_parts infoPart
 go_enter Tryz.func93, Tryz.ntmps93
 go_wp2_with fail
 refine HL.out.mono ?_
 rintro e w1 ⟨rfl, hb1⟩
 obtain ⟨⟨d1, os1⟩, rfl⟩ := a_ hb1
 have HB2 := h_ (hb.later (bAlloc (bGrow (Below.refl _ _) d1 os1) (.cells #[.int .i64 3, .int .i64 n, .string ⟨#[]⟩] 73)))
 have hS : Sl (fun _ => True) ((Sort.grow (redrawn w d1) os1).alloc (.cells #[.int .i64 3, .int .i64 n, .string ⟨#[]⟩] 73)) 3 (some ⟨w.heap.size + os1.size, 0, none⟩) 1 [.int .i64 3, .int .i64 n, .string ⟨#[]⟩] := by
  have h := Sl.new (S := fun _ => True) (Sort.grow (redrawn w d1) os1) [.int .i64 3, .int .i64 n, .string ⟨#[]⟩] 73 3 1 rfl trivial
  rw [hs_] at h
  exact h
 go_wp2_with (at_builtin; refine j_ _ rfl _ _ 30 rfl base 73 i0 (.agg #[.int .i64 0, .int .i64 0, .string ⟨#[]⟩]) 3 32 Tryz.underlying30 hi hz0 hz1 hz2 rfl (by decide) _ _ _ rfl HB2.out.row _ _ _ _ _ rfl hS ?c1 ?c2 ?c3 ?c4 ?_)
 case c1 => simp [Value.oneCell']
 case c2 => unfold maxLen; omega
 case c3 => omega
 case c4 => have := HB2.out.lo; simp; omega
 intro A' c' w1 hown hgrow hat
 obtain ⟨x1, x2, x3⟩ := km_ (HB2.out.grown hgrow)
 go_wp2_with fail
 refine bodyPost_end (results_none rfl _ _ _) rfl ⟨rfl, ?_⟩
 exact fh_ hb (bAlloc (bGrow (Below.refl _ _) d1 os1) _) (q := ⟨3, n, ⟨#[]⟩⟩) (by simpa [PartD.cells] using hown) hgrow hat (by simp <;> omega)
theorem qy_ (n : Int) (rs : List PartD) (hb : Bld w base B A c rs) (hlen : rs.length ≤ 1000000) :
 Calls Tryz.prog 93 #[.pointer (some ⟨B, 0, none⟩), .int .i64 n] w fun e w' => e = .returned (.tuple #[]) ∧ BldTo w base B A rs.length c (remR rs n) w' := by
 rcases rs with _ | ⟨p, r⟩
 · rw [ko_]
   by_cases hn : 0 < n
   · rw [if_pos hn]
     exact lu_ w base B A c n [] hb (by simpa using hn) hlen (h_ (fn_ w base B A c 3 hb))
   · rw [if_neg hn]
     exact jk_ w base B A c n [] hb (by simpa using hn) (h_ (fn_ w base B A c 3 hb))
 · rw [fz_]
   by_cases hk : p.kind = 3
   · rw [if_pos hk]
     exact sh_ w base B A c n p r hb hk
   · have HL := h_ (ih_ w base B A c 3 p r hb (by simpa using hk))
     by_cases hn : 0 < n
     · rw [if_neg hk, if_pos hn]
       exact lu_ w base B A c n (p :: r) hb (by simpa using hn) hlen HL
     · rw [if_neg hk, if_neg hn]
       exact jk_ w base B A c n (p :: r) hb (by simpa using hn) HL
theorem sa_ (s : ByteArray) (rs : List PartD) (hb : Bld w base B A c rs) (hs : s.toList.isEmpty = true) :
 Calls Tryz.prog 94 #[.pointer (some ⟨B, 0, none⟩), .string s] w fun e w' => e = .returned (.tuple #[]) ∧ BldTo w base B A rs.length c rs w' := by
 go_enter Tryz.func94, Tryz.ntmps94
 go_wp2_with fail
 exact bodyPost_ret (results_none rfl _ _ _) rfl ⟨rfl, BldTo.self hb (Below.refl _ _)⟩
theorem rz_ (s : ByteArray) (p : PartD) (rs : List PartD) (hb : Bld w base B A c (p :: rs)) (hs : s.toList.isEmpty = false) (hk : p.kind = 2) (hcat : ¬ 9223372036854775807 < p.text.size + s.size) :
 Calls Tryz.prog 94 #[.pointer (some ⟨B, 0, none⟩), .string s] w fun e w' => e = .returned (.tuple #[]) ∧ BldTo w base B A (rs.length + 1) c (⟨p.kind, p.n, p.text ++ s⟩ :: rs) w' := by
 have HL := h_ (fo_ w base B A c p rs hb)
 have HB := h_ hb
 obtain ⟨g, rfl, _, hg, hne, hcap, hmax, h0, h1, h2, hfz⟩ := hb.last
 have hl := hb.lt
 rw [hk] at HL
 obtain ⟨kd, pn, tx⟩ := p
 dsimp only at *
 subst hk
 have hz := hfz (rs.length * 3 + 2)
 clear hb hfz
 go_enter Tryz.func94, Tryz.ntmps94
 go_wp2_with fail
 refine HL.out.mono ?_
 rintro e w1 ⟨rfl, hb1⟩
 obtain ⟨⟨d1, os1⟩, rfl⟩ := a_ hb1
 dsimp only [Option.map]
 go_wp2_with fail
 obtain ⟨hA, hB⟩ := HB.out.stored 2 (.string (tx ++ s)) (q := ⟨2, pn, tx ++ s⟩) rfl
 exact bodyPost_ret (results_none rfl _ _ _) rfl ⟨rfl, _, _, hA.later (bGrow (Below.refl _ _) _ _), hB.trans (Turned.of_below (bGrow (Below.refl _ _) _ _)) (.inl rfl), .inl rfl⟩
theorem lp_ (s : ByteArray) (rs : List PartD) (hb : Bld w base B A c rs) (hs : s.toList.isEmpty = false) (hlen : rs.length ≤ 1000000)
 (HL : Hid (∀ k, k = 2 ∨ k = 3 → ∀ w', Below w.heap.size w w' → Calls Tryz.prog 123 #[.pointer (some ⟨B, 0, none⟩), .int .i64 k] w' fun e w2 => e = .returned (.pointer none) ∧ Below w'.heap.size w' w2)) :
 Calls Tryz.prog 94 #[.pointer (some ⟨B, 0, none⟩), .string s] w fun e w' => e = .returned (.tuple #[]) ∧ BldTo w base B A rs.length c (⟨2, 0, s⟩ :: rs) w' := by
 have hl := hb.lt
 have hc := hb.cell
 obtain ⟨i0, hi, hz0, hz1, hz2⟩ := info_parts infoPart
 go_enter Tryz.func94, Tryz.ntmps94
 go_wp2_with fail
 refine (HL.out 2 (.inl rfl) _ (Below.refl _ _)).mono ?_
 rintro e w1 ⟨rfl, hb1⟩
 obtain ⟨⟨d1, os1⟩, rfl⟩ := a_ hb1
 go_wp2_with fail
 refine (HL.out 3 (.inr rfl) _ (bGrow (Below.refl _ _) _ _)).mono ?_
 rintro e w2 ⟨rfl, hb2⟩
 have hb3 := bThen (bGrow (Below.refl _ _) d1 os1) hb2
 clear hb1 hb2
 obtain ⟨⟨d3, os3⟩, rfl⟩ := a_ hb3
 have HB2 := h_ (hb.later (bAlloc (bGrow (Below.refl _ _) d3 os3) (.cells #[.int .i64 2, .int .i64 0, .string s] 73)))
 have hS : Sl (fun _ => True) ((Sort.grow (redrawn w d3) os3).alloc (.cells #[.int .i64 2, .int .i64 0, .string s] 73)) 3 (some ⟨w.heap.size + os3.size, 0, none⟩) 1 [.int .i64 2, .int .i64 0, .string s] := by
  have h := Sl.new (S := fun _ => True) (Sort.grow (redrawn w d3) os3) [.int .i64 2, .int .i64 0, .string s] 73 3 1 rfl trivial
  rw [hs_] at h
  exact h
 go_wp2_with (at_builtin; refine j_ _ rfl _ _ 30 rfl base 73 i0 (.agg #[.int .i64 0, .int .i64 0, .string ⟨#[]⟩]) 3 32 Tryz.underlying30 hi hz0 hz1 hz2 rfl (by decide) _ _ _ rfl HB2.out.row _ _ _ _ _ rfl hS ?c1 ?c2 ?c3 ?c4 ?_)
 case c1 => simp [Value.oneCell']
 case c2 => unfold maxLen; omega
 case c3 => omega
 case c4 => have := HB2.out.lo; simp; omega
 intro A' c' w1 hown hgrow hat
 obtain ⟨x1, x2, x3⟩ := km_ (HB2.out.grown hgrow)
 go_wp2_with fail
 refine bodyPost_end (results_none rfl _ _ _) rfl ⟨rfl, ?_⟩
 exact fh_ hb (bAlloc (bGrow (Below.refl _ _) d3 os3) _) (q := ⟨2, 0, s⟩) (by simpa [PartD.cells] using hown) hgrow hat (by simp <;> omega)
theorem tx_ (s : ByteArray) (p : PartD) (rs qs : List PartD) (hb : Bld w base B A c (p :: rs)) (hs : s.toList.isEmpty = false) (hk : p.kind = 3)
 (HI : Hid (∀ W A1 c1, Bld W base B A1 c1 rs → Calls Tryz.prog 94 #[.pointer (some ⟨B, 0, none⟩), .string s] W fun e w' => e = .returned (.tuple #[]) ∧ BldTo W base B A1 rs.length c1 qs w'))
 (hlen : qs.length ≤ 1000000) :
 Calls Tryz.prog 94 #[.pointer (some ⟨B, 0, none⟩), .string s] w fun e w' => e = .returned (.tuple #[]) ∧ BldTo w base B A (rs.length + 1) c (remR qs p.n) w' := by
 have HL := h_ (fo_ w base B A c p rs hb)
 have HN := h_ (ih_ w base B A c 2 p rs hb (by rw [hk]; decide))
 have HB := h_ hb
 obtain ⟨g, rfl, _, hg, hne, hcap, hmax, h0, h1, h2, hfz⟩ := hb.last
 have hl := hb.lt
 have hc := hb.cell
 have hz := hb.frozen
 simp only [List.length_cons] at hc
 rw [hk] at HL
 obtain ⟨kd, pn, tx⟩ := p
 dsimp only at *
 subst hk
 clear hb hfz
 go_enter Tryz.func94, Tryz.ntmps94
 go_wp2_with fail
 refine HN.out.mono ?_
 rintro e w1 ⟨rfl, hb1⟩
 obtain ⟨⟨d1, os1⟩, rfl⟩ := a_ hb1
 go_wp2_with fail
 have HL2 := h_ (fo_ _ base B _ c _ rs (HB.out.later hb1))
 refine HL2.out.mono ?_
 rintro e w2 ⟨rfl, hb2⟩
 have hb3 := bThen (bGrow (Below.refl _ _) d1 os1) hb2
 clear hb1 hb2 HL2
 obtain ⟨⟨d3, os3⟩, rfl⟩ := a_ hb3
 dsimp only [Option.map]
 unfold maxLen at hmax
 go_wp2_with fail
 have hwr : IntKind.i64.wrap (↑rs.length : Int) = (↑rs.length : Int) := IntWalk.i64_in _ (by omega)
 have hcap2 : rs.length ≤ c := by omega
 refine wp_region_still_tail 12 (by kernel_rfl) (by kernel_rfl) ?_
 simp only [List.take_succ_cons, List.take_zero, List.drop_succ_cons, List.drop_zero, zf_, vp_]
 repeat still_step
 refine wpStill_nil ?_
 go_wp2_with fail
 have HB0 := Bld.put (rs := ⟨3, pn, tx⟩ :: rs) (A := some ⟨g, 0, none⟩) (c := c) (qs := rs) (A' := some ⟨g, 0, none⟩) (c' := c) HB.out.lo HB.out.obj HB.out.shorter HB.out.apart
 refine (HI.out _ _ _ (HB0.later (bGrow (Below.refl _ _) (d3 + 1) os3))).mono ?_
 rintro e w4 ⟨rfl, A2, c2, hb2, ht2, hr2⟩
 have HB2 := h_ hb2
 have HT := h_ (((Turned.of_set w B 0 (.slice (some ⟨g, 0, none⟩) rs.length c) (some g)).trans (Turned.of_below (bGrow (Below.refl _ _) (d3 + 1) os3)) (.inl rfl)).trans ht2 (.inl rfl))
 have HR := h_ (hr2.imp id (fun h x hx => Nat.le_trans (by simp) (h x hx) : _ → ∀ x, (Value.slice A2 qs.length c2).ownBlock = some x → w.heap.size ≤ x))
 clear hb2 ht2 hr2
 go_wp2_with fail
 refine (qy_ w4 base B A2 c2 pn qs HB2.out hlen).mono ?_
 rintro e w5 ⟨rfl, hto⟩
 go_wp2_with fail
 exact bodyPost_ret (results_none rfl _ _ _) rfl ⟨rfl, BldTo.then_ HT.out HR.out hto⟩
end
theorem sg_ (rs : List PartD) (n : Int) : (remR rs n).length ≤ rs.length + 1 := by
 cases rs with
 | nil => rw [ko_]; split <;> simp
 | cons p r => rw [fz_]; split <;> (try split) <;> simp
theorem jd_ (s : ByteArray) : ∀ rs : List PartD, (insR rs s).length ≤ rs.length + 1
 | [] => by rw [kl_]; simp
 | p :: r => by
  rw [es_]
  split
  · simp
  · split
    · have h1 := sg_ (insR r s) p.n
      have h2 := jd_ s r
      simp only [List.length_cons]
      omega
    · simp
def insB (rs : List PartD) (s : ByteArray) : List PartD := if s.toList.isEmpty = true then rs else insR rs s
theorem je_ (base B : Nat) (s : ByteArray) (hs : s.toList.isEmpty = false) (hz : s.size ≤ 4611686018427387903) : ∀ (rs : List PartD) (w : World) (A : Option Addr) (c : Nat), Bld w base B A c rs → rs.length ≤ 900000 → (∀ p ∈ rs, p.text.size ≤ 4611686018427387903) →
 Calls Tryz.prog 94 #[.pointer (some ⟨B, 0, none⟩), .string s] w fun e w' => e = .returned (.tuple #[]) ∧ BldTo w base B A rs.length c (insR rs s) w'
 | [], w, A, c, hb, hl, ht => by
  rw [kl_]
  exact lp_ w base B A c s [] hb hs (by omega) (h_ fun k _ w' h => fn_ w' base B A c k (hb.later h))
 | p :: r, w, A, c, hb, hl, ht => by
  rw [es_]
  have hp := ht p (List.mem_cons.2 (.inl rfl))
  by_cases h2 : p.kind = 2
  · rw [if_pos h2]
    exact rz_ w base B A c s p r hb hs h2 (by omega)
  · rw [if_neg h2]
    by_cases h3 : p.kind = 3
    · rw [if_pos h3]
      have hlr : r.length ≤ 900000 := by simp only [List.length_cons] at hl; omega
      exact tx_ w base B A c s p r (insR r s) hb hs h3 (h_ fun W A1 c1 h => je_ base B s hs hz r W A1 c1 h hlr (fun q hq => ht q (List.mem_cons.2 (.inr hq)))) (by have := jd_ s r; omega)
    · rw [if_neg h3]
      refine lp_ w base B A c s (p :: r) hb hs (by omega) (h_ fun k hk w' h => ih_ w' base B A c k p r (hb.later h) ?_)
      rcases hk with rfl | rfl
      · simpa using h2
      · simpa using h3
theorem ya_ (w : World) (base B : Nat) (A : Option Addr) (c : Nat) (s : ByteArray) (rs : List PartD) (hb : Bld w base B A c rs) (hz : s.size ≤ 4611686018427387903) (hl : rs.length ≤ 900000) (ht : ∀ p ∈ rs, p.text.size ≤ 4611686018427387903) :
 Calls Tryz.prog 94 #[.pointer (some ⟨B, 0, none⟩), .string s] w fun e w' => e = .returned (.tuple #[]) ∧ BldTo w base B A rs.length c (insB rs s) w' := by
 unfold insB
 by_cases hs : s.toList.isEmpty = true
 · rw [if_pos hs]
   exact sa_ w base B A c s rs hb hs
 · rw [if_neg hs]
   exact je_ base B s (by simpa using hs) hz rs w A c hb hl ht
end Go.Proofs.YtacacoklddogmaaGreatDoor
