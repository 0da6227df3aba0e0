/-
  A slice of the call's own that may begin anywhere in its block, and append upon it (no program in sight).
-/
import Derived.Test.YtbmdepbmejnlkaaDoorBE
import Derived.ArgAppend
namespace Go.Proofs.YtbmdepbmejnlkaaDoor
open Go.ChangeShapes Go.WideShapes Go.ChangeAt Go.RowKit
/-- The slice at A owns these cells, and those behind them up to its capacity. -/
structure OwnsAt (w : World) (base size : Nat) (A : Option Addr) (n c : Nat) (xs : List Value) : Prop where
  len : xs.length = n * size
  cap : n ≤ c ∧ c ≤ maxLen
  at_ : (A = none ∧ c = 0) ∨ ∃ g o, A = some ⟨g, o, none⟩ ∧ base ≤ g ∧ g < w.heap.size ∧ (∀ j, j < c * size → (w.cell? ⟨g, o + j, none⟩).isSome = true ∧ w.frozen? ⟨g, o + j, none⟩ = false) ∧ ∀ j u, xs[j]? = some u → w.cell? ⟨g, o + j, none⟩ = some u
theorem OwnsAt.of_row {w : World} {base size n c : Nat} {e : TypeId} {A : Option Addr} {xs : List Value} (h : w.ownsRow base e size (.slice A n c) n xs) : OwnsAt w base size A n c xs := by
  refine ⟨h.1, ?_, ?_⟩
  · rcases h.2 with ⟨e1, e2⟩ | ⟨g, cap, cur, e1, _, _, h3, h4, _⟩
    · injection e1 with _ _ e4
      subst e4
      subst e2
      exact ⟨Nat.le_refl _, by unfold maxLen; omega⟩
    · injection e1 with _ _ e4
      subst e4
      exact ⟨h3, h4⟩
  · rcases h.2 with ⟨e1, e2⟩ | ⟨g, cap, cur, e1, hb, hg, h3, h4, h5, h6⟩
    · injection e1 with e3 _ e4
      exact .inl ⟨e3, e4⟩
    · injection e1 with e3 _ e4
      subst e3
      subst e4
      refine .inr ⟨g, 0, rfl, hb, (Array.getElem?_eq_some_iff.1 hg).1, fun j hj => ⟨?_, by simp [World.frozen?, hg]⟩, fun j u hu => ?_⟩
      · simp [World.cell?, hg, h5, hj]
      · have := h.cells (g := g) rfl j u hu
        rwa [Go.WideShapes.add_plain] at this
theorem OwnsAt.kept {w w' : World} {base size n c : Nat} {A : Option Addr} {xs : List Value} (h : OwnsAt w base size A n c xs) (hs : w.heap.size ≤ w'.heap.size) (hk : ∀ g, (Value.slice A n c).ownBlock = some g → w'.heap[g]? = w.heap[g]?) : OwnsAt w' base size A n c xs := by
  refine ⟨h.len, h.cap, h.at_.imp id fun ⟨g, o, e, hb, hg, hc, hx⟩ => ?_⟩
  subst e
  have hq := hk g rfl
  refine ⟨g, o, rfl, hb, by omega, fun j hj => ?_, fun j u hu => (World.cell?_of_block (w := w) (a := ⟨g, o + j, none⟩) hq).trans (hx j u hu)⟩
  rw [World.cell?_of_block (w := w) (a := ⟨g, o + j, none⟩) hq, World.frozen?_of_block (w := w) (a := ⟨g, o + j, none⟩) hq]
  exact hc j hj
theorem OwnsAt.lt {w : World} {base size n c : Nat} {A : Option Addr} {xs : List Value} (h : OwnsAt w base size A n c xs) {g : Nat} (hg : (Value.slice A n c).ownBlock = some g) : base ≤ g ∧ g < w.heap.size := by
  rcases h.at_ with ⟨rfl, _⟩ | ⟨g', o, rfl, hb, hl, _⟩
  · cases hg
  · cases hg
    exact ⟨hb, hl⟩
theorem OwnsAt.sl {w : World} {base size n c : Nat} {A : Option Addr} {xs : List Value} (h : OwnsAt w base size A n c xs) : Sl (fun b => (Value.slice A n c).ownBlock = some b ∧ b < w.heap.size) w size A n xs := by
  refine ⟨h.len, fun hn => ?_⟩
  rcases h.at_ with ⟨_, hc⟩ | ⟨g, o, rfl, _, hl, _, hx⟩
  · have := h.cap.1
    omega
  · exact ⟨g, o, rfl, ⟨rfl, hl⟩, hx⟩
theorem OwnsAt.nil (w : World) (base size : Nat) : OwnsAt w base size none 0 0 [] := ⟨by simp, ⟨Nat.le_refl _, by unfold maxLen; omega⟩, .inl ⟨rfl, rfl⟩⟩
theorem OwnsAt.mono {w : World} {base base' size n c : Nat} {A : Option Addr} {xs : List Value} (h : OwnsAt w base size A n c xs) (hb : base' ≤ base) : OwnsAt w base' size A n c xs :=
  ⟨h.len, h.cap, h.at_.imp id fun ⟨g, o, e, h1, rest⟩ => ⟨g, o, e, Nat.le_trans hb h1, rest⟩⟩
/-- What is left behind the first k elements, the address moved. -/
theorem OwnsAt.drop {w : World} {base size n c k : Nat} {A : Option Addr} {xs : List Value} (h : OwnsAt w base size A n c xs) (hk : k ≤ n) : OwnsAt w base size (A.map (fun x => x.add (k * size))) (n - k) (c - k) (xs.drop (k * size)) := by
  have hcap := h.cap
  refine ⟨by rw [List.length_drop, h.len, Nat.sub_mul], ⟨by omega, by omega⟩, ?_⟩
  rcases h.at_ with ⟨rfl, hc⟩ | ⟨g, o, rfl, hb, hl, hc, hx⟩
  · exact .inl ⟨rfl, by omega⟩
  · refine .inr ⟨g, o + k * size, by simp [Addr.add], hb, hl, fun j hj => ?_, fun j u hu => ?_⟩
    · rw [Nat.add_assoc]
      refine hc _ ?_
      have : (c - k) * size = c * size - k * size := Nat.sub_mul _ _ _
      have h2 : k * size ≤ c * size := Nat.mul_le_mul_right _ (by omega)
      omega
    · rw [List.getElem?_drop] at hu
      rw [Nat.add_assoc]
      exact hx _ u hu
/-- All of it gone, the address as it was. -/
theorem OwnsAt.gone {w : World} {base size n c : Nat} {A : Option Addr} {xs : List Value} (h : OwnsAt w base size A n c xs) : OwnsAt w base size A 0 0 [] :=
  ⟨by simp, ⟨Nat.le_refl _, by unfold maxLen; omega⟩, h.at_.imp (fun ⟨e, _⟩ => ⟨e, rfl⟩) fun ⟨g, o, e, hb, hl, _⟩ => ⟨g, o, e, hb, hl, fun j hj => by omega, fun j u hu => by simp at hu⟩⟩
theorem setCells_other (b : Nat) : ∀ (vs : List Value) (o : Nat) (w : World), (w.setCells b o vs).os = w.os ∧ (w.setCells b o vs).tape = w.tape ∧ (w.setCells b o vs).output = w.output ∧ (w.setCells b o vs).heap.size = w.heap.size ∧ ∀ k, k ≠ b → (w.setCells b o vs).heap[k]? = w.heap[k]?
  | [], _, _ => ⟨rfl, rfl, rfl, rfl, fun _ _ => rfl⟩
  | v :: r, o, w => by
    obtain ⟨h1, h2, h3, h4, h5⟩ := setCells_other b r (o + 1) (w.setCell ⟨b, o, none⟩ v)
    rw [World.setCells]
    exact ⟨h1, h2, h3, by rw [h4]; simp [World.setCell], fun k hk => (h5 k hk).trans (Below.heap_setCell _ _ _ _ hk)⟩
section
variable {P : Program} (w : World)
theorem run_append_at (base : Nat) (t ty e : TypeId) (i : TypeInfo) (z : Value) (size bytes : Nat) (ht : P.underlying t = some (.slice e)) (hi : P.info? e = some i) (hz : i.zero = some z)
    (hsize : i.size = size) (hby : i.bytes = bytes) (hzs : z.cells.size = size) (hsz : 0 < size)
    (A : Option Addr) (n cap : Nat) (xs : List Value) (hown : OwnsAt w base size A n cap xs)
    (a : Addr) (m c : Nat) (news : List Value) (hl : news.length = m * size) (hnews : ∀ j u, news[j]? = some u → w.cell? (a.add j) = some u) (h1 : ∀ u ∈ news, u.oneCell' = true)
    (hm : 0 < m) (h63 : n + m ≤ maxLen) (hbytes : (n + m) * bytes ≤ 140737488355328) (hbase : base ≤ w.heap.size) :
    ∃ A' c' w', (Builtin.append_ #[t, t] ty #[.slice A n cap, .slice (some a) m c]).run P w = .ok (.slice A' (n + m) c') w' ∧ OwnsAt w' base size A' (n + m) c' (xs ++ news) ∧ w.grownBy w' (Value.slice A n cap).ownBlock ∧
      ((Value.slice A' (n + m) c').ownBlock = (Value.slice A n cap).ownBlock ∨ ∃ g, (Value.slice A' (n + m) c').ownBlock = some g ∧ w.heap.size ≤ g) := by
  have hlen : (xs ++ news).length = (n + m) * size := by rw [List.length_append, hown.len, hl, Nat.add_mul]
  rcases hown.at_ with ⟨rfl, rfl⟩ | ⟨g, o, rfl, hb, hgl, hc, hx⟩
  · have hn0 : n = 0 := by have := hown.cap.1; omega
    subst hn0
    have hx0 : xs = [] := List.eq_nil_of_length_eq_zero (by have := hown.len; simpa using this)
    subst hx0
    obtain ⟨v', w', hr, h2, h3, _, h5⟩ := run_append_own_at (P := P) w base t ty e i z size bytes ht hi hz hsize hby hzs hsz (.slice none 0 0) 0 [] (World.ownsRow_nil _ _ _ _) a m c news hl hnews h1 h63 hbytes hbase
    obtain ⟨g, cap', rfl, _, _⟩ := h2.form (by omega)
    exact ⟨_, _, w', hr, OwnsAt.of_row h2, h3, h5.imp id fun q => ⟨_, q, Nat.le_refl _⟩⟩
  · by_cases hroom : n + m ≤ cap
    · subst hsize
      have hr := run_append_room_cells (P := P) w t ty e i ht hi g o n cap a m c news hl hnews h1 hroom
        (fun j hj => by rw [Nat.add_assoc]; refine (hc _ ?_).1; have : (n + m) * i.size ≤ cap * i.size := Nat.mul_le_mul_right _ hroom; rw [Nat.add_mul] at this; omega)
        (fun j hj => by rw [Nat.add_assoc]; refine (hc _ ?_).2; have : (n + m) * i.size ≤ cap * i.size := Nat.mul_le_mul_right _ hroom; rw [Nat.add_mul] at this; omega)
      obtain ⟨q1, q2, q3, q4, q5⟩ := setCells_other g news (o + n * i.size) w
      refine ⟨_, _, _, hr, ⟨hlen, ⟨hroom, hown.cap.2⟩, .inr ⟨g, o, rfl, hb, by rw [q4]; exact hgl, fun j hj => ⟨?_, ?_⟩, fun j u hu => ?_⟩⟩, ⟨q1, q2, q3, by rw [q4]; exact Nat.le_refl _, fun k _ hk => q5 k (fun e1 => hk (by simp [Value.ownBlock, e1]))⟩, .inl rfl⟩
      · by_cases hin : n * i.size ≤ j ∧ j < n * i.size + news.length
        · have h9 := World.cell?_setCells_in g news (o + n * i.size) w (fun j hj => by rw [Nat.add_assoc]; refine (hc _ ?_).1; have : (n + m) * i.size ≤ cap * i.size := Nat.mul_le_mul_right _ hroom; rw [Nat.add_mul] at this; omega) (j - n * i.size) (by omega)
          rw [show o + n * i.size + (j - n * i.size) = o + j by omega] at h9
          rw [h9]
          rfl
        · rw [World.cell?_setCells_out g news (o + n * i.size) w ⟨g, o + j, none⟩ (fun _ _ => by show o + j < _ ∨ _ ≤ o + j; omega)]
          exact (hc j hj).1
      · rw [World.frozen?_setCells]
        exact (hc j hj).2
      · rcases Nat.lt_or_ge j (n * i.size) with hj | hj
        · rw [World.cell?_setCells_out g news (o + n * i.size) w ⟨g, o + j, none⟩ (fun _ _ => by show o + j < _ ∨ _ ≤ o + j; omega)]
          rw [List.getElem?_append_left (by rw [hown.len]; exact hj)] at hu
          exact hx j u hu
        · rw [List.getElem?_append_right (by rw [hown.len]; exact hj), hown.len] at hu
          have hjl : j - n * i.size < news.length := (List.getElem?_eq_some_iff.1 hu).1
          have h9 := World.cell?_setCells_in g news (o + n * i.size) w (fun j hj => by rw [Nat.add_assoc]; refine (hc _ ?_).1; have : (n + m) * i.size ≤ cap * i.size := Nat.mul_le_mul_right _ hroom; rw [Nat.add_mul] at this; omega) (j - n * i.size) hjl
          rw [show o + n * i.size + (j - n * i.size) = o + j by omega] at h9
          rw [h9, ← hu, List.getElem?_eq_getElem hjl]
    · obtain ⟨v', w', hr, h2, h3⟩ := run_append_arg_grows (P := P) w t ty e i z size bytes ht hi hz hsize hby hzs hsz ⟨g, o, none⟩ n cap xs hown.len (fun j u hu => by rw [Go.WideShapes.add_plain]; exact hx j u hu) a m c news hl hnews (by omega) h63 hbytes
      obtain ⟨g', cap', rfl, hg1, hg2⟩ := h2.form (by omega)
      exact ⟨_, _, w', hr, (OwnsAt.of_row h2).mono hbase, ⟨h3.os, h3.tape, h3.output, h3.size, fun k hk _ => h3.block k hk (by simp)⟩, .inr ⟨g', rfl, hg1⟩⟩
theorem wp_append_at {o : Oper} {a : Act} {K : Act → World → Prop} {Q : Exit → Act → World → Prop} (s x : Operand) (t : TypeId)
    (ho : o.op = .call { callee := .builtin .append, args := #[s, x], argTypes := #[t, t] })
    (base : Nat) (e : TypeId) (i : TypeInfo) (z : Value) (size bytes : Nat) (ht : P.underlying t = some (.slice e)) (hi : P.info? e = some i) (hz : i.zero = some z)
    (hsize : i.size = size) (hby : i.bytes = bytes) (hzs : z.cells.size = size) (hsz : 0 < size)
    (A : Option Addr) (n cap : Nat) (xs : List Value) (hs : a.eval s = .slice A n cap) (hown : OwnsAt w base size A n cap xs)
    (S : Nat → Prop) (B : Option Addr) (m c : Nat) (news : List Value) (hx : a.eval x = .slice B m c) (hr : Sl S w size B m news) (h1 : ∀ u ∈ news, u.oneCell' = true)
    (hm : 0 < m) (h63 : n + m ≤ maxLen) (hbytes : (n + m) * bytes ≤ 140737488355328) (hbase : base ≤ w.heap.size)
    (h : ∀ A' c' w', OwnsAt w' base size A' (n + m) c' (xs ++ news) → w.grownBy w' (Value.slice A n cap).ownBlock → ((Value.slice A' (n + m) c').ownBlock = (Value.slice A n cap).ownBlock ∨ ∃ g, (Value.slice A' (n + m) c').ownBlock = some g ∧ w.heap.size ≤ g) → K (a.put o.dst (.slice A' (n + m) c')) w') : o.wp P a w K Q := by
  obtain ⟨b, k, rfl, _, hc⟩ := hr.2 hm
  obtain ⟨A', c', w', hrun, h2, h3, h4⟩ := run_append_at (P := P) w base t o.type e i z size bytes ht hi hz hsize hby hzs hsz A n cap xs hown ⟨b, k, none⟩ m c news hr.1 (fun j u hu => by rw [Go.WideShapes.add_plain]; exact hc j u hu) h1 hm h63 hbytes hbase
  unfold Oper.wp execOp
  simp only [ho, resolve, invoke, builtin, Sem.run_bind, Sem.run_pure, Result.andThen_ok, List.map_toArray, List.map_cons, List.map_nil, hs, hx, hrun]
  exact h A' c' w' h2 h3 h4
theorem wpList_append_at {ops : Array Oper} {rest : List Oper} {o : Oper} {a : Act} {Q : Exit → Act → World → Prop} (hgd : o.guard = none) (s x : Operand) (t : TypeId)
    (ho : o.op = .call { callee := .builtin .append, args := #[s, x], argTypes := #[t, t] })
    (base : Nat) (e : TypeId) (i : TypeInfo) (z : Value) (size bytes : Nat) (ht : P.underlying t = some (.slice e)) (hi : P.info? e = some i) (hz : i.zero = some z)
    (hsize : i.size = size) (hby : i.bytes = bytes) (hzs : z.cells.size = size) (hsz : 0 < size)
    (A : Option Addr) (n cap : Nat) (xs : List Value) (hs : a.eval s = .slice A n cap) (hown : OwnsAt w base size A n cap xs)
    (S : Nat → Prop) (B : Option Addr) (m c : Nat) (news : List Value) (hx : a.eval x = .slice B m c) (hr : Sl S w size B m news) (h1 : ∀ u ∈ news, u.oneCell' = true)
    (hm : 0 < m) (h63 : n + m ≤ maxLen) (hbytes : (n + m) * bytes ≤ 140737488355328) (hbase : base ≤ w.heap.size)
    (h : ∀ A' c' w', OwnsAt w' base size A' (n + m) c' (xs ++ news) → w.grownBy w' (Value.slice A n cap).ownBlock → ((Value.slice A' (n + m) c').ownBlock = (Value.slice A n cap).ownBlock ∨ ∃ g, (Value.slice A' (n + m) c').ownBlock = some g ∧ w.heap.size ≤ g) → wpList P ops Q rest (a.put o.dst (.slice A' (n + m) c')) w') : wpList P ops Q (o :: rest) a w :=
  wpList_plain hgd fun _ hK => wp_append_at w s x t ho base e i z size bytes ht hi hz hsize hby hzs hsz A n cap xs hs hown S B m c news hx hr h1 hm h63 hbytes hbase fun A' c' w' h2 h3 h4 => hK _ _ (h A' c' w' h2 h3 h4)
theorem step_append_at {ops : Array Oper} {o : Oper} {a : Act} {K : Act → World → Prop} {Q : Exit → Act → World → Prop} {E : Prop} (hgd : o.guard = none) (s x : Operand) (t : TypeId)
    (ho : o.op = .call { callee := .builtin .append, args := #[s, x], argTypes := #[t, t] })
    (base : Nat) (e : TypeId) (i : TypeInfo) (z : Value) (size bytes : Nat) (ht : P.underlying t = some (.slice e)) (hi : P.info? e = some i) (hz : i.zero = some z)
    (hsize : i.size = size) (hby : i.bytes = bytes) (hzs : z.cells.size = size) (hsz : 0 < size)
    (A : Option Addr) (n cap : Nat) (xs : List Value) (hs : a.eval s = .slice A n cap) (hown : OwnsAt w base size A n cap xs)
    (S : Nat → Prop) (B : Option Addr) (m c : Nat) (news : List Value) (hx : a.eval x = .slice B m c) (hr : Sl S w size B m news) (h1 : ∀ u ∈ news, u.oneCell' = true)
    (hm : 0 < m) (h63 : n + m ≤ maxLen) (hbytes : (n + m) * bytes ≤ 140737488355328) (hbase : base ≤ w.heap.size)
    (h : ∀ A' c' w', OwnsAt w' base size A' (n + m) c' (xs ++ news) → w.grownBy w' (Value.slice A n cap).ownBlock → ((Value.slice A' (n + m) c').ownBlock = (Value.slice A n cap).ownBlock ∨ ∃ g, (Value.slice A' (n + m) c').ownBlock = some g ∧ w.heap.size ≤ g) → K (a.put o.dst (.slice A' (n + m) c')) w') :
    if Region.wanted o (yielded ops a.tmps) = true then Oper.wp P o a w K Q else E := by
  have hw : Region.wanted o (yielded ops a.tmps) = true := by simp [Region.wanted, hgd]
  rw [if_pos hw]
  exact wp_append_at w s x t ho base e i z size bytes ht hi hz hsize hby hzs hsz A n cap xs hs hown S B m c news hx hr h1 hm h63 hbytes hbase h
end
end Go.Proofs.YtbmdepbmejnlkaaDoor
