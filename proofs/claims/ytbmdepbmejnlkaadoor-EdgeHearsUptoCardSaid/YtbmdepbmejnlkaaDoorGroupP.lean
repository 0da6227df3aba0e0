/-
  The plain law of grouping: a builder that is told runs of steps holds what the reference groups them to (no program in sight).
-/
import Derived.Test.YtbmdepbmejnlkaaDoorApplyP
import Derived.Test.YtbmdepbmejnlkaaDoorBuildM
namespace Go.Proofs.YtbmdepbmejnlkaaDoor
open Go.RowKit Go.Lib
/-! ### runes that come back -/
/-- A rune that may be encoded. -/
def Scal (r : Int) : Prop := (0 ≤ r ∧ r < 55296) ∨ (57344 ≤ r ∧ r ≤ 1114111)
theorem encodeRune_length (r : Int) : 1 ≤ (encodeRune r).length ∧ (encodeRune r).length ≤ 4 := by
  have := encodeRuneZ_length r
  simpa [encodeRune] using this
theorem toU8 (z : Int) (h1 : z < 256) : (z.toNat.toUInt8).toNat = z.toNat := by
  have : z.toNat < 256 := by omega
  simp [Nat.toUInt8, Nat.mod_eq_of_lt this]
theorem decN1 (n N b1 b2 b3 : Nat) (h : n < 128) : decodeN N n b1 b2 b3 = (n, 1) := if_pos h
theorem decN2 (n N b2 b3 : Nat) (h : 128 ≤ n) (h2 : n < 2048) (hN : 1 < N) : decodeN N (192 + n / 64) (128 + n % 64) b2 b3 = (n, 2) := by
  unfold decodeN
  rw [if_neg (by omega), if_pos (by omega), if_pos (by omega)]
  exact congrArg (fun x => (x, 2)) (by omega)
theorem decN3 (n N b3 : Nat) (h : 2048 ≤ n) (h2 : n < 65536) (hs : n < 55296 ∨ 57344 ≤ n) (hN : 2 < N) : decodeN N (224 + n / 4096) (128 + n / 64 % 64) (128 + n % 64) b3 = (n, 3) := by
  unfold decodeN
  rw [if_neg (by omega), if_neg (by omega), if_pos (by omega), if_pos (by omega)]
  exact congrArg (fun x => (x, 3)) (by omega)
theorem decN4 (n N : Nat) (h : 65536 ≤ n) (h2 : n ≤ 1114111) (hN : 3 < N) : decodeN N (240 + n / 262144) (128 + n / 4096 % 64) (128 + n / 64 % 64) (128 + n % 64) = (n, 4) := by
  unfold decodeN
  rw [if_neg (by omega), if_neg (by omega), if_neg (by omega), if_pos (by omega), if_pos (by omega)]
  exact congrArg (fun x => (x, 4)) (by omega)
theorem decode_encode (n : Nat) (h : n < 55296 ∨ (57344 ≤ n ∧ n ≤ 1114111)) (l : List UInt8) : decodeL (encodeRune n ++ l) = (n, (encodeRune n).length) := by
  rw [decodeL_N]
  unfold encodeRune
  by_cases c1 : n < 128
  · rw [encodeRuneZ_one (by omega) (by omega)]
    simp only [List.map_cons, List.map_nil, List.cons_append, List.nil_append, List.getD_cons_zero, List.length_cons, List.length_nil]
    rw [toU8 _ (by omega), Int.toNat_natCast]
    exact decN1 _ _ _ _ _ c1
  by_cases c2 : n < 2048
  · rw [encodeRuneZ_two (by omega) (by omega)]
    simp only [List.map_cons, List.map_nil, List.cons_append, List.nil_append, List.getD_cons_zero, List.getD_cons_succ, List.length_cons, List.length_nil]
    rw [toU8 _ (by omega), toU8 _ (by omega), show (192 + (n : Int) / 64).toNat = 192 + n / 64 by omega, show (128 + (n : Int) % 64).toNat = 128 + n % 64 by omega]
    exact decN2 _ _ _ _ (by omega) (by omega) (by omega)
  by_cases c3 : n < 65536
  · rw [encodeRuneZ_three (by omega)]
    simp only [List.map_cons, List.map_nil, List.cons_append, List.nil_append, List.getD_cons_zero, List.getD_cons_succ, List.length_cons, List.length_nil]
    rw [toU8 _ (by omega), toU8 _ (by omega), toU8 _ (by omega), show (224 + (n : Int) / 4096).toNat = 224 + n / 4096 by omega, show (128 + (n : Int) / 64 % 64).toNat = 128 + n / 64 % 64 by omega, show (128 + (n : Int) % 64).toNat = 128 + n % 64 by omega]
    exact decN3 _ _ _ (by omega) (by omega) (by omega) (by omega)
  · rw [encodeRuneZ_four (by omega) (by omega)]
    simp only [List.map_cons, List.map_nil, List.cons_append, List.nil_append, List.getD_cons_zero, List.getD_cons_succ, List.length_cons, List.length_nil]
    rw [toU8 _ (by omega), toU8 _ (by omega), toU8 _ (by omega), toU8 _ (by omega), show (240 + (n : Int) / 262144).toNat = 240 + n / 262144 by omega, show (128 + (n : Int) / 4096 % 64).toNat = 128 + n / 4096 % 64 by omega, show (128 + (n : Int) / 64 % 64).toNat = 128 + n / 64 % 64 by omega, show (128 + (n : Int) % 64).toNat = 128 + n % 64 by omega]
    exact decN4 _ _ (by omega) (by omega) (by omega)
theorem decodeL_scal (l : List UInt8) : Scal ((decodeL l).1 : Int) := by
  rw [decodeL_N]
  have k0 := (l.getD 0 0).toNat_lt
  have k1 := (l.getD 1 0).toNat_lt
  have k2 := (l.getD 2 0).toNat_lt
  have k3 := (l.getD 3 0).toNat_lt
  unfold Scal
  rcases decodeN_shape l.length (l.getD 0 0).toNat (l.getD 1 0).toNat (l.getD 2 0).toNat (l.getD 3 0).toNat with ⟨c, e⟩ | ⟨c1, c2, c3, cv, e⟩ | ⟨c1, c2, c3, c4, cv, cs, e⟩ | ⟨c1, c2, c3, c4, c5, cv, cw, e⟩ | e
  all_goals (rw [e]; dsimp only; omega)
theorem runesAt_scal (s : ByteArray) : ∀ (f i : Nat), ∀ r ∈ runesAt s f i, Scal r
  | 0, _ => by simp [runesAt]
  | f + 1, i => by
    unfold runesAt
    intro r hr
    by_cases hi : i < s.size
    · rw [if_pos hi] at hr
      rcases List.mem_cons.1 hr with rfl | h
      · have := decodeL_scal (s.data.toList.drop i)
        rwa [decodeL_drop] at this
      · exact runesAt_scal s f _ r h
    · rw [if_neg hi] at hr
      cases hr
theorem runesOf_scal (s : ByteArray) : ∀ r ∈ runesOf s, Scal r := runesAt_scal s _ _
theorem runesBytes_size (X : List Int) : (runesBytes X).size = (X.flatMap encodeRune).length := by rw [size_eq, runesBytes_data]
theorem runes_len4 (X : List Int) : X.length ≤ (X.flatMap encodeRune).length ∧ (X.flatMap encodeRune).length ≤ 4 * X.length := by
  induction X with
  | nil => simp
  | cons r X ih =>
    have := encodeRune_length r
    rw [List.flatMap_cons, List.length_append, List.length_cons]
    omega
theorem runesBytes_le (X : List Int) : X.length ≤ (runesBytes X).size ∧ (runesBytes X).size ≤ 4 * X.length := by
  rw [runesBytes_size]
  exact runes_len4 X
theorem runesAt_bytes (s : ByteArray) : ∀ (X : List Int) (f i : Nat), (∀ r ∈ X, Scal r) → s.data.toList.drop i = X.flatMap encodeRune → X.length ≤ f → runesAt s f i = X
  | [], f, i, _, he, _ => by
    have hi : s.size ≤ i := by
      have := congrArg List.length he
      rw [List.length_drop, ← size_eq] at this
      simp at this
      omega
    cases f with
    | zero => rfl
    | succ f => exact if_neg (by omega)
  | r :: X, 0, i, _, _, hf => by simp at hf
  | r :: X, f + 1, i, hr, he, hf => by
    have hr0 := hr r (List.mem_cons.2 (.inl rfl))
    obtain ⟨n, rfl⟩ : ∃ n : Nat, r = n := ⟨r.toNat, by unfold Scal at hr0; omega⟩
    have hl := encodeRune_length (n : Int)
    rw [List.flatMap_cons] at he
    have hi : i < s.size := by
      have := congrArg List.length he
      rw [List.length_drop, ← size_eq, List.length_append] at this
      omega
    have hd := decode_encode n (by unfold Scal at hr0; omega) (X.flatMap encodeRune)
    rw [← he, decodeL_drop] at hd
    unfold runesAt
    rw [if_pos hi, hd]
    dsimp only
    rw [runesAt_bytes s X f _ (fun x hx => hr x (List.mem_cons.2 (.inr hx))) ?_ (by simpa using hf)]
    rw [← List.drop_drop, he, List.drop_left]
/-- Runes that may be encoded come back. -/
theorem runes_bytes (X : List Int) (h : ∀ r ∈ X, Scal r) : runesOf (runesBytes X) = X := by
  refine runesAt_bytes _ X _ 0 h ?_ (runesBytes_le X).1
  rw [List.drop_zero, runesBytes_data]
theorem bloop_len (s : ByteArray) : ∀ (n i : Nat) (r : List UInt8), s.size - i = n → (ByteArray.toList.loop s i r).length = r.length + n
  | 0, i, r, h => by
    unfold ByteArray.toList.loop
    rw [if_neg (by omega)]
    simp
  | n + 1, i, r, h => by
    unfold ByteArray.toList.loop
    rw [if_pos (by omega), bloop_len s n (i + 1) _ (by omega)]
    simp only [List.length_cons]
    omega
theorem blen (s : ByteArray) : s.toList.length = s.size := by
  unfold ByteArray.toList
  rw [bloop_len s s.size 0 [] (by omega)]
  simp
theorem toList_isEmpty (s : ByteArray) : s.toList.isEmpty = decide (s.size = 0) := by
  by_cases h : s.size = 0
  · rw [decide_eq_true h]
    have : s.toList.length = 0 := by rw [blen]; exact h
    cases hh : s.toList with
    | nil => rfl
    | cons a b => rw [hh] at this; simp at this
  · rw [decide_eq_false h]
    have : s.toList.length ≠ 0 := by rw [blen]; exact h
    cases hh : s.toList with
    | nil => rw [hh] at this; simp at this
    | cons a b => rfl
theorem runesBytes_some {X : List Int} (h : X ≠ []) : (runesBytes X).toList.isEmpty = false := by
  rw [toList_isEmpty]
  have h1 := (runesBytes_le X).1
  have h2 : 0 < X.length := List.length_pos_iff.2 h
  exact decide_eq_false (by omega)
/-! ### grouping -/
structure Gr where
  out : List PartD
  text : List Int
  gone : Nat
  kept : Nat
def pK (n : Nat) (l : List PartD) : List PartD := if 0 < n then ⟨1, n, ⟨#[]⟩⟩ :: l else l
def pD (n : Nat) (l : List PartD) : List PartD := if 0 < n then ⟨3, n, ⟨#[]⟩⟩ :: l else l
def pI (t : List Int) (l : List PartD) : List PartD := if 0 < t.length then ⟨2, 0, runesBytes t⟩ :: l else l
theorem pK_zero (l : List PartD) : pK 0 l = l := rfl
theorem pD_zero (l : List PartD) : pD 0 l = l := rfl
theorem pI_nil (l : List PartD) : pI [] l = l := rfl
theorem pK_pos {n : Nat} (h : 0 < n) (l : List PartD) : pK n l = ⟨1, n, ⟨#[]⟩⟩ :: l := if_pos h
theorem pD_pos {n : Nat} (h : 0 < n) (l : List PartD) : pD n l = ⟨3, n, ⟨#[]⟩⟩ :: l := if_pos h
theorem pI_pos {t : List Int} (h : 0 < t.length) (l : List PartD) : pI t l = ⟨2, 0, runesBytes t⟩ :: l := if_pos h
/-- A step more; the parts that are finished stand in turned order. -/
def Gr.step (g : Gr) (x : Int × Int) : Gr :=
  if x.1 = 2 then ⟨pK g.kept g.out, g.text ++ [x.2], g.gone, 0⟩ else if x.1 = 3 then ⟨pK g.kept g.out, g.text, g.gone + 1, 0⟩ else ⟨pD g.gone (pI g.text g.out), [], 0, g.kept + 1⟩
def Gr.run (l : List (Int × Int)) : Gr := l.foldl Gr.step ⟨[], [], 0, 0⟩
def Gr.fin (g : Gr) : List PartD := pK g.kept (pD g.gone (pI g.text g.out))
/-- The operation that the steps are. -/
def grouped (l : List (Int × Int)) : List PartD := (Gr.run l).fin.reverse
theorem run_append (a b : List (Int × Int)) : Gr.run (a ++ b) = b.foldl Gr.step (Gr.run a) := List.foldl_append
theorem run_snoc (a : List (Int × Int)) (x : Int × Int) : Gr.run (a ++ [x]) = (Gr.run a).step x := by rw [run_append]; rfl
structure Gr.Ok (g : Gr) : Prop where
  k1 : 0 < g.kept → g.text = [] ∧ g.gone = 0
  k2 : 0 < g.kept → ∀ p r, g.out = p :: r → p.kind ≠ 1
  k3 : g.kept = 0 → ∀ p r, g.out = p :: r → p.kind = 1
  k4 : g.kept = 0 → g.text = [] → g.gone = 0 → g.out = []
theorem Gr.Ok.ins {g : Gr} (h : g.Ok) (r : Int) : (g.step (2, r)).Ok := by
  obtain ⟨k1, k2, k3, k4⟩ := h
  unfold Gr.step
  rw [if_pos rfl]
  refine ⟨fun h => absurd h (by simp), fun h => absurd h (by simp), fun _ p q hp => ?_, fun _ h => absurd h (by simp)⟩
  dsimp only at hp
  by_cases hk : 0 < g.kept
  · rw [pK_pos hk] at hp
    injection hp with a b
    rw [← a]
  · rw [show g.kept = 0 by omega, pK_zero] at hp
    exact k3 (by omega) p q hp
theorem Gr.Ok.del {g : Gr} (h : g.Ok) (r : Int) : (g.step (3, r)).Ok := by
  obtain ⟨k1, k2, k3, k4⟩ := h
  unfold Gr.step
  rw [if_neg (by simp), if_pos rfl]
  refine ⟨fun h => absurd h (by simp), fun h => absurd h (by simp), fun _ p q hp => ?_, fun _ _ h => absurd h (by simp)⟩
  dsimp only at hp
  by_cases hk : 0 < g.kept
  · rw [pK_pos hk] at hp
    injection hp with a b
    rw [← a]
  · rw [show g.kept = 0 by omega, pK_zero] at hp
    exact k3 (by omega) p q hp
theorem Gr.Ok.keep {g : Gr} (h : g.Ok) {k : Int} (h2 : k ≠ 2) (h3 : k ≠ 3) (r : Int) : (g.step (k, r)).Ok := by
  obtain ⟨k1, k2, k3, k4⟩ := h
  unfold Gr.step
  rw [if_neg h2, if_neg h3]
  refine ⟨fun _ => ⟨rfl, rfl⟩, fun _ p q hp => ?_, fun h => absurd h (by simp), fun h => absurd h (by simp)⟩
  dsimp only at hp
  by_cases hg : 0 < g.gone
  · rw [pD_pos hg] at hp
    injection hp with a b
    rw [← a]
    simp
  · rw [show g.gone = 0 by omega, pD_zero] at hp
    by_cases ht : 0 < g.text.length
    · rw [pI_pos ht] at hp
      injection hp with a b
      rw [← a]
      simp
    · have ht0 : g.text = [] := List.eq_nil_of_length_eq_zero (by omega)
      rw [ht0, pI_nil] at hp
      by_cases hk : 0 < g.kept
      · exact k2 hk p q hp
      · rw [k4 (by omega) ht0 (by omega)] at hp
        cases hp
theorem Gr.Ok.step {g : Gr} (h : g.Ok) (x : Int × Int) : (g.step x).Ok := by
  obtain ⟨k, r⟩ := x
  by_cases h2 : k = 2
  · subst h2; exact h.ins r
  by_cases h3 : k = 3
  · subst h3; exact h.del r
  exact h.keep h2 h3 r
theorem foldl_ok : ∀ (l : List (Int × Int)) (g : Gr), g.Ok → (l.foldl Gr.step g).Ok
  | [], _, h => h
  | x :: l, _, h => foldl_ok l _ (h.step x)
theorem run_ok (l : List (Int × Int)) : (Gr.run l).Ok := foldl_ok l _ ⟨fun h => absurd h (by simp), fun h => absurd h (by simp), fun _ _ _ h => (nomatch h), fun _ _ _ => rfl⟩
/-- How much a grouping holds. -/
def Gr.most (g : Gr) : Nat := g.out.length + g.text.length + g.gone + g.kept
theorem pK_length (n : Nat) (l : List PartD) : (pK n l).length ≤ l.length + n := by unfold pK; split <;> simp; omega
theorem pD_length (n : Nat) (l : List PartD) : (pD n l).length ≤ l.length + n := by unfold pD; split <;> simp; omega
theorem pI_length (t : List Int) (l : List PartD) : (pI t l).length ≤ l.length + t.length := by unfold pI; split <;> simp; omega
theorem step_most (g : Gr) (x : Int × Int) : (g.step x).most ≤ g.most + 1 := by
  unfold Gr.step Gr.most
  have h1 := pK_length g.kept g.out
  have h2 := pD_length g.gone (pI g.text g.out)
  have h3 := pI_length g.text g.out
  split
  · simp only [List.length_append, List.length_cons, List.length_nil]
    omega
  · split
    · dsimp only
      omega
    · simp only [List.length_nil]
      omega
theorem run_most (l : List (Int × Int)) : (Gr.run l).most ≤ l.length := by
  have key : ∀ (l : List (Int × Int)) (g : Gr), (l.foldl Gr.step g).most ≤ g.most + l.length := by
    intro l
    induction l with
    | nil => intro g; simp
    | cons x l ih =>
      intro g
      have h1 := ih (g.step x)
      have h2 := step_most g x
      rw [List.foldl_cons, List.length_cons]
      omega
  have := key l ⟨[], [], 0, 0⟩
  simpa [Gr.run, Gr.most] using this
/-- Every text is small. -/
def Gr.Thin (m : Nat) (g : Gr) : Prop := g.text.length ≤ m ∧ ∀ p ∈ g.out, p.text.size ≤ 4 * m
theorem pK_thin {m n : Nat} {l : List PartD} (h : ∀ p ∈ l, p.text.size ≤ m) : ∀ p ∈ pK n l, p.text.size ≤ m := by
  unfold pK
  split
  · intro p hp
    rcases List.mem_cons.1 hp with rfl | hp
    · exact Nat.zero_le _
    · exact h p hp
  · exact h
theorem pD_thin {m n : Nat} {l : List PartD} (h : ∀ p ∈ l, p.text.size ≤ m) : ∀ p ∈ pD n l, p.text.size ≤ m := by
  unfold pD
  split
  · intro p hp
    rcases List.mem_cons.1 hp with rfl | hp
    · exact Nat.zero_le _
    · exact h p hp
  · exact h
theorem pI_thin {m : Nat} {t : List Int} {l : List PartD} (h : ∀ p ∈ l, p.text.size ≤ 4 * m) (ht : t.length ≤ m) : ∀ p ∈ pI t l, p.text.size ≤ 4 * m := by
  unfold pI
  split
  · intro p hp
    rcases List.mem_cons.1 hp with rfl | hp
    · have := (runesBytes_le t).2
      dsimp only
      omega
    · exact h p hp
  · exact h
theorem Gr.Thin.fin {m : Nat} {g : Gr} (h : g.Thin m) : ∀ p ∈ g.fin, p.text.size ≤ 4 * m := pK_thin (pD_thin (pI_thin h.2 h.1))
theorem Gr.Thin.step {m : Nat} {g : Gr} (h : g.Thin m) (x : Int × Int) (hm : g.text.length + 1 ≤ m) : (g.step x).Thin m := by
  unfold Gr.step
  split
  · exact ⟨by simpa using hm, pK_thin h.2⟩
  · split
    · exact ⟨h.1, pK_thin h.2⟩
    · exact ⟨Nat.zero_le _, pD_thin (pI_thin h.2 h.1)⟩
theorem run_thin (l : List (Int × Int)) (m : Nat) (hm : l.length ≤ m) : (Gr.run l).Thin m := by
  have key : ∀ (l : List (Int × Int)) (g : Gr), g.Thin m → g.most + l.length ≤ m → (l.foldl Gr.step g).Thin m := by
    intro l
    induction l with
    | nil => intro g h _; exact h
    | cons x l ih =>
      intro g h hg
      rw [List.length_cons] at hg
      have h2 := step_most g x
      refine ih (g.step x) (h.step x ?_) (by omega)
      unfold Gr.most at hg
      omega
  refine key l _ ⟨Nat.zero_le _, by simp⟩ ?_
  simpa [Gr.most] using hm
theorem fin_length (g : Gr) : g.fin.length ≤ g.most := by
  unfold Gr.fin Gr.most
  have h1 := pK_length g.kept (pD g.gone (pI g.text g.out))
  have h2 := pD_length g.gone (pI g.text g.out)
  have h3 := pI_length g.text g.out
  omega
theorem grouped_length (l : List (Int × Int)) : (grouped l).length ≤ l.length := by
  unfold grouped
  rw [List.length_reverse]
  exact Nat.le_trans (fin_length _) (run_most l)
theorem grouped_text (l : List (Int × Int)) : ∀ p ∈ grouped l, p.text.size ≤ 4 * l.length := fun p hp => (run_thin l l.length (Nat.le_refl _)).fin p (by simpa [grouped] using hp)
/-! ### runs of steps -/
theorem Gr.keeps (g : Gr) : ∀ n : Nat, 0 < n → (List.replicate n ((1 : Int), (0 : Int))).foldl Gr.step g = ⟨pD g.gone (pI g.text g.out), [], 0, g.kept + n⟩
  | 1, _ => rfl
  | n + 2, _ => by
    rw [List.replicate_succ', List.foldl_append, Gr.keeps g (n + 1) (by omega)]
    rfl
theorem Gr.dels (g : Gr) (n : Nat) (hn : 0 < n) : (List.replicate n ((3 : Int), (0 : Int))).foldl Gr.step g = ⟨pK g.kept g.out, g.text, g.gone + n, 0⟩ := by
  induction n with
  | zero => omega
  | succ n ih =>
    rcases Nat.eq_zero_or_pos n with rfl | h
    · rfl
    · rw [List.replicate_succ', List.foldl_append, ih h]
      rfl
theorem Gr.inss (r : Int) (rs : List Int) : ∀ g : Gr, ((r :: rs).map (fun x => ((2 : Int), x))).foldl Gr.step g = ⟨pK g.kept g.out, g.text ++ r :: rs, g.gone, 0⟩ := by
  induction rs generalizing r with
  | nil => intro g; rfl
  | cons q rs ih =>
    intro g
    rw [List.map_cons, List.foldl_cons, ih q]
    show (⟨pK 0 (pK g.kept g.out), (g.text ++ [r]) ++ q :: rs, g.gone, 0⟩ : Gr) = _
    rw [pK_zero]
    simp
/-! ### what the builder does -/
def keepR (rs : List PartD) (n : Int) : List PartD :=
  match rs with
  | [] => if 0 < n then [⟨1, n, ⟨#[]⟩⟩] else []
  | p :: r => if p.kind = 1 then ⟨p.kind, wrap64 (p.n + n), p.text⟩ :: r else if 0 < n then ⟨1, n, ⟨#[]⟩⟩ :: p :: r else p :: r
theorem keepR_cons (p : PartD) (r : List PartD) (n : Int) : keepR (p :: r) n = if p.kind = 1 then ⟨p.kind, wrap64 (p.n + n), p.text⟩ :: r else if 0 < n then ⟨1, n, ⟨#[]⟩⟩ :: p :: r else p :: r := rfl
theorem keepR_nil (n : Int) : keepR [] n = if 0 < n then [⟨1, n, ⟨#[]⟩⟩] else [] := rfl
theorem keepR_new {l : List PartD} {n : Int} (h : ∀ p r, l = p :: r → p.kind ≠ 1) (hn : 0 < n) : keepR l n = ⟨1, n, ⟨#[]⟩⟩ :: l := by
  cases l with
  | nil => rw [keepR_nil, if_pos hn]
  | cons p r => rw [keepR_cons, if_neg (h p r rfl), if_pos hn]
theorem remR_new {l : List PartD} {n : Int} (h : ∀ p r, l = p :: r → p.kind ≠ 3) (hn : 0 < n) : remR l n = ⟨3, n, ⟨#[]⟩⟩ :: l := by
  cases l with
  | nil => rw [remR_nil, if_pos hn]
  | cons p r => rw [remR_cons, if_neg (h p r rfl), if_pos hn]
theorem insR_new {l : List PartD} {s : ByteArray} (h : ∀ p r, l = p :: r → p.kind ≠ 2 ∧ p.kind ≠ 3) : insR l s = ⟨2, 0, s⟩ :: l := by
  cases l with
  | nil => exact insR_nil s
  | cons p r => rw [insR_cons, if_neg (h p r rfl).1, if_neg (h p r rfl).2]
theorem fin_keep {g : Gr} (h : g.Ok) (n : Nat) (hn : 0 < n) (hb : g.kept + n < 4611686018427387904) : keepR g.fin n = ((List.replicate n ((1 : Int), (0 : Int))).foldl Gr.step g).fin := by
  rw [Gr.keeps g n hn]
  unfold Gr.fin
  dsimp only
  rw [pD_zero, pI_nil, pK_pos (show 0 < g.kept + n by omega)]
  by_cases hk : 0 < g.kept
  · rw [pK_pos hk, keepR_cons, if_pos rfl]
    dsimp only
    rw [wrap64_in (by omega) (by omega), show (g.kept : Int) + n = ((g.kept + n : Nat) : Int) by omega]
  · have hk0 : g.kept = 0 := by omega
    rw [hk0, pK_zero, Nat.zero_add, keepR_new ?_ (by omega)]
    intro p r hp
    by_cases hg : 0 < g.gone
    · rw [pD_pos hg] at hp
      injection hp with a b
      rw [← a]
      simp
    · rw [show g.gone = 0 by omega, pD_zero] at hp
      by_cases ht : 0 < g.text.length
      · rw [pI_pos ht] at hp
        injection hp with a b
        rw [← a]
        simp
      · have ht0 : g.text = [] := List.eq_nil_of_length_eq_zero (by omega)
        rw [ht0, pI_nil, h.k4 hk0 ht0 (by omega)] at hp
        cases hp
theorem text_head {g : Gr} (h : g.Ok) (hk0 : g.kept = 0) : ∀ p r, pI g.text g.out = p :: r → p.kind ≠ 3 := by
  intro p r hp
  by_cases ht : 0 < g.text.length
  · rw [pI_pos ht] at hp
    injection hp with a b
    rw [← a]
    simp
  · have ht0 : g.text = [] := List.eq_nil_of_length_eq_zero (by omega)
    rw [ht0, pI_nil] at hp
    rw [h.k3 hk0 p r hp]
    simp
theorem fin_del {g : Gr} (h : g.Ok) (n : Nat) (hn : 0 < n) (hb : g.gone + n < 4611686018427387904) : remR g.fin n = ((List.replicate n ((3 : Int), (0 : Int))).foldl Gr.step g).fin := by
  rw [Gr.dels g n hn]
  unfold Gr.fin
  dsimp only
  rw [pK_zero, pD_pos (show 0 < g.gone + n by omega)]
  by_cases hk : 0 < g.kept
  · obtain ⟨k1, k2⟩ := h.k1 hk
    rw [k1, k2, pI_nil, pI_nil, pD_zero, pK_pos hk, Nat.zero_add, remR_new (fun p r hp => by injection hp with a b; rw [← a]; simp) (by omega)]
  · have hk0 : g.kept = 0 := by omega
    rw [hk0, pK_zero, pK_zero]
    by_cases hg : 0 < g.gone
    · rw [pD_pos hg, remR_cons, if_pos rfl]
      dsimp only
      rw [wrap64_in (by omega) (by omega), show (g.gone : Int) + n = ((g.gone + n : Nat) : Int) by omega]
    · have hg0 : g.gone = 0 := by omega
      rw [hg0, pD_zero, Nat.zero_add, remR_new (text_head h hk0) (by omega)]
theorem fin_ins {g : Gr} (h : g.Ok) (r : Int) (rs : List Int) : insB g.fin (runesBytes (r :: rs)) = (((r :: rs).map (fun x => ((2 : Int), x))).foldl Gr.step g).fin := by
  rw [Gr.inss r rs g]
  have hne : ¬ (runesBytes (r :: rs)).toList.isEmpty = true := by rw [runesBytes_some (by simp)]; simp
  unfold insB
  rw [if_neg hne]
  unfold Gr.fin
  dsimp only
  rw [pK_zero, pI_pos (show 0 < (g.text ++ r :: rs).length by rw [List.length_append, List.length_cons]; omega)]
  by_cases hk : 0 < g.kept
  · obtain ⟨k1, k2⟩ := h.k1 hk
    rw [k1, k2, pI_nil, pD_zero, pD_zero, pK_pos hk, insR_new (fun p q hp => by injection hp with a b; rw [← a]; simp), List.nil_append]
  · have hk0 : g.kept = 0 := by omega
    rw [hk0, pK_zero, pK_zero]
    have key : insR (pI g.text g.out) (runesBytes (r :: rs)) = ⟨2, 0, runesBytes (g.text ++ r :: rs)⟩ :: g.out := by
      by_cases ht : 0 < g.text.length
      · rw [pI_pos ht, insR_cons, if_pos rfl, runesBytes_append]
      · have ht0 : g.text = [] := List.eq_nil_of_length_eq_zero (by omega)
        rw [ht0, pI_nil, List.nil_append, insR_new]
        intro p q hp
        rw [h.k3 hk0 p q hp]
        simp
    by_cases hg : 0 < g.gone
    · rw [pD_pos hg, pD_pos hg, insR_cons, if_neg (by simp), if_pos rfl, key]
      dsimp only
      rw [remR_new (fun p q hp => by injection hp with a b; rw [← a]; simp) (by omega)]
    · rw [show g.gone = 0 by omega, pD_zero, pD_zero, key]
/-- The builder holds the steps. -/
def Holds (rs : List PartD) (l : List (Int × Int)) : Prop := rs = (Gr.run l).fin
theorem holds_nil : Holds [] [] := rfl
theorem Holds.keep {rs : List PartD} {l : List (Int × Int)} (h : Holds rs l) (n : Nat) (hn : 0 < n) (hb : l.length + n < 4611686018427387904) : Holds (keepR rs n) (l ++ List.replicate n (1, 0)) := by
  have hm := run_most l
  unfold Gr.most at hm
  unfold Holds at *
  rw [h, run_append, fin_keep (run_ok l) n hn (by omega)]
theorem Holds.del {rs : List PartD} {l : List (Int × Int)} (h : Holds rs l) (n : Nat) (hn : 0 < n) (hb : l.length + n < 4611686018427387904) : Holds (remR rs n) (l ++ List.replicate n (3, 0)) := by
  have hm := run_most l
  unfold Gr.most at hm
  unfold Holds at *
  rw [h, run_append, fin_del (run_ok l) n hn (by omega)]
theorem Holds.ins {rs : List PartD} {l : List (Int × Int)} (h : Holds rs l) (X : List Int) (hX : X ≠ []) : Holds (insB rs (runesBytes X)) (l ++ X.map (fun x => (2, x))) := by
  unfold Holds at *
  cases X with
  | nil => exact absurd rfl hX
  | cons r rs' => rw [h, run_append, fin_ins (run_ok l)]
theorem Holds.len {rs : List PartD} {l : List (Int × Int)} (h : Holds rs l) : rs.length ≤ l.length := by
  rw [h]
  exact Nat.le_trans (fin_length _) (run_most l)
theorem Holds.text {rs : List PartD} {l : List (Int × Int)} (h : Holds rs l) : ∀ p ∈ rs, p.text.size ≤ 4 * l.length := by
  rw [h]
  exact (run_thin l l.length (Nat.le_refl _)).fin
theorem Holds.rev {rs : List PartD} {l : List (Int × Int)} (h : Holds rs l) : rs.reverse = grouped l := by rw [h]; rfl
end Go.Proofs.YtbmdepbmejnlkaaDoor
