/- A part of the proof of NodeUndoes. -/
import Derived.Test.YtacacoklddogmaaGreatDoorKDA
import Derived.Test.YtacacoklddogmaaGreatDoorKDE
namespace Go.Proofs.YtacacoklddogmaaGreatDoor
set_option maxHeartbeats 4000000
open Go.RowKit Go.Lib
theorem ip_ (r : Int) : 1 ≤ (encodeRune r).length ∧ (encodeRune r).length ≤ 4 := by
 have := encodeRuneZ_length r
 simpa [encodeRune] using this
theorem lv_ (X : List Int) : (runesBytes X).size = (X.flatMap encodeRune).length := by rw [size_eq, ck_]
theorem ud_ (X : List Int) : X.length ≤ (X.flatMap encodeRune).length ∧ (X.flatMap encodeRune).length ≤ 4 * X.length := by
 induction X with
 | nil => simp
 | cons r X ih =>
  have := ip_ r
  rw [List.flatMap_cons, List.length_append, List.length_cons]
  omega
theorem ew_ (X : List Int) : X.length ≤ (runesBytes X).size ∧ (runesBytes X).size ≤ 4 * X.length := by
 rw [lv_]
 exact ud_ X
theorem nb_ (s : ByteArray) : ∀ (n i : Nat) (r : List UInt8), s.size - i = n → (ByteArray.toList.loop s i r).length = r.length + n
 | 0, i, r, h => by
  unfold ByteArray.toList.loop
  rw [if_neg (by omega)]
  simp
 | n + 1, i, r, h => by
  unfold ByteArray.toList.loop
  rw [if_pos (by omega), nb_ s n (i + 1) _ (by omega)]
  simp only [List.length_cons]
  omega
theorem blen (s : ByteArray) : s.toList.length = s.size := by
 unfold ByteArray.toList
 rw [nb_ s s.size 0 [] (by omega)]
 simp
theorem mx_ (s : ByteArray) : s.toList.isEmpty = decide (s.size = 0) := by
 by_cases h : s.size = 0
 · rw [decide_eq_true h]
   have : s.toList.length = 0 := by rw [blen]; exact h
   cases hh : s.toList with
   | nil => rfl
   | cons a b => rw [hh] at this; simp at this
 · rw [decide_eq_false h]
   have : s.toList.length ≠ 0 := by rw [blen]; exact h
   cases hh : s.toList with
   | nil => rw [hh] at this; simp at this
   | cons a b => rfl
theorem lw_ {X : List Int} (h : X ≠ []) : (runesBytes X).toList.isEmpty = false := by
 rw [mx_]
 have h1 := (ew_ X).1
 have h2 : 0 < X.length := List.length_pos_iff.2 h
 exact decide_eq_false (by omega)
structure Gr where
 out : List PartD
 text : List Int
 gone : Nat
 kept : Nat
def pK (n : Nat) (l : List PartD) : List PartD := if 0 < n then ⟨1, n, ⟨#[]⟩⟩ :: l else l
def pD (n : Nat) (l : List PartD) : List PartD := if 0 < n then ⟨3, n, ⟨#[]⟩⟩ :: l else l
def pI (t : List Int) (l : List PartD) : List PartD := if 0 < t.length then ⟨2, 0, runesBytes t⟩ :: l else l
theorem ci_ (l : List PartD) : pK 0 l = l := rfl
theorem ch_ (l : List PartD) : pD 0 l = l := rfl
theorem dp_ (l : List PartD) : pI [] l = l := rfl
theorem ei_ {n : Nat} (h : 0 < n) (l : List PartD) : pK n l = ⟨1, n, ⟨#[]⟩⟩ :: l := if_pos h
theorem do_ {n : Nat} (h : 0 < n) (l : List PartD) : pD n l = ⟨3, n, ⟨#[]⟩⟩ :: l := if_pos h
theorem ft_ {t : List Int} (h : 0 < t.length) (l : List PartD) : pI t l = ⟨2, 0, runesBytes t⟩ :: l := if_pos h
def Gr.step (g : Gr) (x : Int × Int) : Gr :=
 if x.1 = 2 then ⟨pK g.kept g.out, g.text ++ [x.2], g.gone, 0⟩ else if x.1 = 3 then ⟨pK g.kept g.out, g.text, g.gone + 1, 0⟩ else ⟨pD g.gone (pI g.text g.out), [], 0, g.kept + 1⟩
def Gr.run (l : List (Int × Int)) : Gr := l.foldl Gr.step ⟨[], [], 0, 0⟩
def Gr.fin (g : Gr) : List PartD := pK g.kept (pD g.gone (pI g.text g.out))
def grouped (l : List (Int × Int)) : List PartD := (Gr.run l).fin.reverse
theorem fd_ (a b : List (Int × Int)) : Gr.run (a ++ b) = b.foldl Gr.step (Gr.run a) := List.foldl_append
theorem yk_ (a : List (Int × Int)) (x : Int × Int) : Gr.run (a ++ [x]) = (Gr.run a).step x := by rw [fd_]; rfl
structure Gr.Ok (g : Gr) : Prop where
 k1 : 0 < g.kept → g.text = [] ∧ g.gone = 0
 k2 : 0 < g.kept → ∀ p r, g.out = p :: r → p.kind ≠ 1
 k3 : g.kept = 0 → ∀ p r, g.out = p :: r → p.kind = 1
 k4 : g.kept = 0 → g.text = [] → g.gone = 0 → g.out = []
theorem Gr.Ok.ins {g : Gr} (h : g.Ok) (r : Int) : (g.step (2, r)).Ok := by
 obtain ⟨k1, k2, k3, k4⟩ := h
 unfold Gr.step
 rw [if_pos rfl]
 refine ⟨fun h => absurd h (by simp), fun h => absurd h (by simp), fun _ p q hp => ?_, fun _ h => absurd h (by simp)⟩
 dsimp only at hp
 by_cases hk : 0 < g.kept
 · rw [ei_ hk] at hp
   injection hp with a b
   rw [← a]
 · rw [show g.kept = 0 by omega, ci_] at hp
   exact k3 (by omega) p q hp
theorem Gr.Ok.del {g : Gr} (h : g.Ok) (r : Int) : (g.step (3, r)).Ok := by
 obtain ⟨k1, k2, k3, k4⟩ := h
 unfold Gr.step
 rw [if_neg (by simp), if_pos rfl]
 refine ⟨fun h => absurd h (by simp), fun h => absurd h (by simp), fun _ p q hp => ?_, fun _ _ h => absurd h (by simp)⟩
 dsimp only at hp
 by_cases hk : 0 < g.kept
 · rw [ei_ hk] at hp
   injection hp with a b
   rw [← a]
 · rw [show g.kept = 0 by omega, ci_] at hp
   exact k3 (by omega) p q hp
theorem Gr.Ok.keep {g : Gr} (h : g.Ok) {k : Int} (h2 : k ≠ 2) (h3 : k ≠ 3) (r : Int) : (g.step (k, r)).Ok := by
 obtain ⟨k1, k2, k3, k4⟩ := h
 unfold Gr.step
 rw [if_neg h2, if_neg h3]
 refine ⟨fun _ => ⟨rfl, rfl⟩, fun _ p q hp => ?_, fun h => absurd h (by simp), fun h => absurd h (by simp)⟩
 dsimp only at hp
 by_cases hg : 0 < g.gone
 · rw [do_ hg] at hp
   injection hp with a b
   rw [← a]
   simp
 · rw [show g.gone = 0 by omega, ch_] at hp
   by_cases ht : 0 < g.text.length
   · rw [ft_ ht] at hp
     injection hp with a b
     rw [← a]
     simp
   · have ht0 : g.text = [] := List.eq_nil_of_length_eq_zero (by omega)
     rw [ht0, dp_] at hp
     by_cases hk : 0 < g.kept
     · exact k2 hk p q hp
     · rw [k4 (by omega) ht0 (by omega)] at hp
       cases hp
theorem Gr.Ok.step {g : Gr} (h : g.Ok) (x : Int × Int) : (g.step x).Ok := by
 obtain ⟨k, r⟩ := x
 by_cases h2 : k = 2
 · subst h2; exact h.ins r
 by_cases h3 : k = 3
 · subst h3; exact h.del r
 exact h.keep h2 h3 r
theorem qd_ : ∀ (l : List (Int × Int)) (g : Gr), g.Ok → (l.foldl Gr.step g).Ok
 | [], _, h => h
 | x :: l, _, h => qd_ l _ (h.step x)
theorem qz_ (l : List (Int × Int)) : (Gr.run l).Ok := qd_ l _ ⟨fun h => absurd h (by simp), fun h => absurd h (by simp), fun _ _ _ h => (nomatch h), fun _ _ _ => rfl⟩
def Gr.most (g : Gr) : Nat := g.out.length + g.text.length + g.gone + g.kept
theorem nw_ (n : Nat) (l : List PartD) : (pK n l).length ≤ l.length + n := by unfold pK; split <;> simp; omega
theorem nu_ (n : Nat) (l : List PartD) : (pD n l).length ≤ l.length + n := by unfold pD; split <;> simp; omega
theorem nv_ (t : List Int) (l : List PartD) : (pI t l).length ≤ l.length + t.length := by unfold pI; split <;> simp; omega
theorem oa_ (g : Gr) (x : Int × Int) : (g.step x).most ≤ g.most + 1 := by
 unfold Gr.step Gr.most
 have h1 := nw_ g.kept g.out
 have h2 := nu_ g.gone (pI g.text g.out)
 have h3 := nv_ g.text g.out
 split
 · simp only [List.length_append, List.length_cons, List.length_nil]
   omega
 · split
   · dsimp only
     omega
   · simp only [List.length_nil]
     omega
theorem fu_ (l : List (Int × Int)) : (Gr.run l).most ≤ l.length := by
 have key : ∀ (l : List (Int × Int)) (g : Gr), (l.foldl Gr.step g).most ≤ g.most + l.length := by
  intro l
  induction l with
  | nil => intro g; simp
  | cons x l ih =>
   intro g
   have h1 := ih (g.step x)
   have h2 := oa_ g x
   rw [List.foldl_cons, List.length_cons]
   omega
 have := key l ⟨[], [], 0, 0⟩
 simpa [Gr.run, Gr.most] using this
def Gr.Thin (m : Nat) (g : Gr) : Prop := g.text.length ≤ m ∧ ∀ p ∈ g.out, p.text.size ≤ 4 * m
theorem mt_ {m n : Nat} {l : List PartD} (h : ∀ p ∈ l, p.text.size ≤ m) : ∀ p ∈ pK n l, p.text.size ≤ m := by
 unfold pK
 split
 · intro p hp
   rcases List.mem_cons.1 hp with rfl | hp
   · exact Nat.zero_le _
   · exact h p hp
 · exact h
theorem sq_ {m n : Nat} {l : List PartD} (h : ∀ p ∈ l, p.text.size ≤ m) : ∀ p ∈ pD n l, p.text.size ≤ m := by
 unfold pD
 split
 · intro p hp
   rcases List.mem_cons.1 hp with rfl | hp
   · exact Nat.zero_le _
   · exact h p hp
 · exact h
theorem sr_ {m : Nat} {t : List Int} {l : List PartD} (h : ∀ p ∈ l, p.text.size ≤ 4 * m) (ht : t.length ≤ m) : ∀ p ∈ pI t l, p.text.size ≤ 4 * m := by
 unfold pI
 split
 · intro p hp
   rcases List.mem_cons.1 hp with rfl | hp
   · have := (ew_ t).2
     dsimp only
     omega
   · exact h p hp
 · exact h
theorem Gr.Thin.fin {m : Nat} {g : Gr} (h : g.Thin m) : ∀ p ∈ g.fin, p.text.size ≤ 4 * m := mt_ (sq_ (sr_ h.2 h.1))
theorem Gr.Thin.step {m : Nat} {g : Gr} (h : g.Thin m) (x : Int × Int) (hm : g.text.length + 1 ≤ m) : (g.step x).Thin m := by
 unfold Gr.step
 split
 · exact ⟨by simpa using hm, mt_ h.2⟩
 · split
   · exact ⟨h.1, mt_ h.2⟩
   · exact ⟨Nat.zero_le _, sq_ (sr_ h.2 h.1)⟩
theorem yl_ (l : List (Int × Int)) (m : Nat) (hm : l.length ≤ m) : (Gr.run l).Thin m := by
 have key : ∀ (l : List (Int × Int)) (g : Gr), g.Thin m → g.most + l.length ≤ m → (l.foldl Gr.step g).Thin m := by
  intro l
  induction l with
  | nil => intro g h _; exact h
  | cons x l ih =>
   intro g h hg
   rw [List.length_cons] at hg
   have h2 := oa_ g x
   refine ih (g.step x) (h.step x ?_) (by omega)
   unfold Gr.most at hg
   omega
 refine key l _ ⟨Nat.zero_le _, by simp⟩ ?_
 simpa [Gr.most] using hm
theorem lk_ (g : Gr) : g.fin.length ≤ g.most := by
 unfold Gr.fin Gr.most
 have h1 := nw_ g.kept (pD g.gone (pI g.text g.out))
 have h2 := nu_ g.gone (pI g.text g.out)
 have h3 := nv_ g.text g.out
 omega
theorem Gr.keeps (g : Gr) : ∀ n : Nat, 0 < n → (List.replicate n ((1 : Int), (0 : Int))).foldl Gr.step g = ⟨pD g.gone (pI g.text g.out), [], 0, g.kept + n⟩
 | 1, _ => rfl
 | n + 2, _ => by
  rw [List.replicate_succ', List.foldl_append, Gr.keeps g (n + 1) (by omega)]
  rfl
theorem Gr.dels (g : Gr) (n : Nat) (hn : 0 < n) : (List.replicate n ((3 : Int), (0 : Int))).foldl Gr.step g = ⟨pK g.kept g.out, g.text, g.gone + n, 0⟩ := by
 induction n with
 | zero => omega
 | succ n ih =>
  rcases Nat.eq_zero_or_pos n with rfl | h
  · rfl
  · rw [List.replicate_succ', List.foldl_append, ih h]
    rfl
theorem Gr.inss (r : Int) (rs : List Int) : ∀ g : Gr, ((r :: rs).map (fun x => ((2 : Int), x))).foldl Gr.step g = ⟨pK g.kept g.out, g.text ++ r :: rs, g.gone, 0⟩ := by
 induction rs generalizing r with
 | nil => intro g; rfl
 | cons q rs ih =>
  intro g
  rw [List.map_cons, List.foldl_cons, ih q]
  show (⟨pK 0 (pK g.kept g.out), (g.text ++ [r]) ++ q :: rs, g.gone, 0⟩ : Gr) = _
  rw [ci_]
  simp
def keepR (rs : List PartD) (n : Int) : List PartD :=
 match rs with
 | [] => if 0 < n then [⟨1, n, ⟨#[]⟩⟩] else []
 | p :: r => if p.kind = 1 then ⟨p.kind, wrap64 (p.n + n), p.text⟩ :: r else if 0 < n then ⟨1, n, ⟨#[]⟩⟩ :: p :: r else p :: r
theorem gv_ (p : PartD) (r : List PartD) (n : Int) : keepR (p :: r) n = if p.kind = 1 then ⟨p.kind, wrap64 (p.n + n), p.text⟩ :: r else if 0 < n then ⟨1, n, ⟨#[]⟩⟩ :: p :: r else p :: r := rfl
theorem ne_ (n : Int) : keepR [] n = if 0 < n then [⟨1, n, ⟨#[]⟩⟩] else [] := rfl
theorem vu_ {l : List PartD} {n : Int} (h : ∀ p r, l = p :: r → p.kind ≠ 1) (hn : 0 < n) : keepR l n = ⟨1, n, ⟨#[]⟩⟩ :: l := by
 cases l with
 | nil => rw [ne_, if_pos hn]
 | cons p r => rw [gv_, if_neg (h p r rfl), if_pos hn]
theorem kn_ {l : List PartD} {n : Int} (h : ∀ p r, l = p :: r → p.kind ≠ 3) (hn : 0 < n) : remR l n = ⟨3, n, ⟨#[]⟩⟩ :: l := by
 cases l with
 | nil => rw [ko_, if_pos hn]
 | cons p r => rw [fz_, if_neg (h p r rfl), if_pos hn]
theorem qi_ {l : List PartD} {s : ByteArray} (h : ∀ p r, l = p :: r → p.kind ≠ 2 ∧ p.kind ≠ 3) : insR l s = ⟨2, 0, s⟩ :: l := by
 cases l with
 | nil => exact kl_ s
 | cons p r => rw [es_, if_neg (h p r rfl).1, if_neg (h p r rfl).2]
theorem xy_ {g : Gr} (h : g.Ok) (n : Nat) (hn : 0 < n) (hb : g.kept + n < 4611686018427387904) : keepR g.fin n = ((List.replicate n ((1 : Int), (0 : Int))).foldl Gr.step g).fin := by
 rw [Gr.keeps g n hn]
 unfold Gr.fin
 dsimp only
 rw [ch_, dp_, ei_ (show 0 < g.kept + n by omega)]
 by_cases hk : 0 < g.kept
 · rw [ei_ hk, gv_, if_pos rfl]
   dsimp only
   rw [cs_ (by omega) (by omega), show (g.kept : Int) + n = ((g.kept + n : Nat) : Int) by omega]
 · have hk0 : g.kept = 0 := by omega
   rw [hk0, ci_, Nat.zero_add, vu_ ?_ (by omega)]
   intro p r hp
   by_cases hg : 0 < g.gone
   · rw [do_ hg] at hp
     injection hp with a b
     rw [← a]
     simp
   · rw [show g.gone = 0 by omega, ch_] at hp
     by_cases ht : 0 < g.text.length
     · rw [ft_ ht] at hp
       injection hp with a b
       rw [← a]
       simp
     · have ht0 : g.text = [] := List.eq_nil_of_length_eq_zero (by omega)
       rw [ht0, dp_, h.k4 hk0 ht0 (by omega)] at hp
       cases hp
theorem xi_ {g : Gr} (h : g.Ok) (hk0 : g.kept = 0) : ∀ p r, pI g.text g.out = p :: r → p.kind ≠ 3 := by
 intro p r hp
 by_cases ht : 0 < g.text.length
 · rw [ft_ ht] at hp
   injection hp with a b
   rw [← a]
   simp
 · have ht0 : g.text = [] := List.eq_nil_of_length_eq_zero (by omega)
   rw [ht0, dp_] at hp
   rw [h.k3 hk0 p r hp]
   simp
theorem zb_ {g : Gr} (h : g.Ok) (n : Nat) (hn : 0 < n) (hb : g.gone + n < 4611686018427387904) : remR g.fin n = ((List.replicate n ((3 : Int), (0 : Int))).foldl Gr.step g).fin := by
 rw [Gr.dels g n hn]
 unfold Gr.fin
 dsimp only
 rw [ci_, do_ (show 0 < g.gone + n by omega)]
 by_cases hk : 0 < g.kept
 · obtain ⟨k1, k2⟩ := h.k1 hk
   rw [k1, k2, dp_, dp_, ch_, ei_ hk, Nat.zero_add, kn_ (fun p r hp => by injection hp with a b; rw [← a]; simp) (by omega)]
 · have hk0 : g.kept = 0 := by omega
   rw [hk0, ci_, ci_]
   by_cases hg : 0 < g.gone
   · rw [do_ hg, fz_, if_pos rfl]
     dsimp only
     rw [cs_ (by omega) (by omega), show (g.gone : Int) + n = ((g.gone + n : Nat) : Int) by omega]
   · have hg0 : g.gone = 0 := by omega
     rw [hg0, ch_, Nat.zero_add, kn_ (xi_ h hk0) (by omega)]
theorem zc_ {g : Gr} (h : g.Ok) (r : Int) (rs : List Int) : insB g.fin (runesBytes (r :: rs)) = (((r :: rs).map (fun x => ((2 : Int), x))).foldl Gr.step g).fin := by
 rw [Gr.inss r rs g]
 have hne : ¬ (runesBytes (r :: rs)).toList.isEmpty = true := by rw [lw_ (by simp)]; simp
 unfold insB
 rw [if_neg hne]
 unfold Gr.fin
 dsimp only
 rw [ci_, ft_ (show 0 < (g.text ++ r :: rs).length by rw [List.length_append, List.length_cons]; omega)]
 by_cases hk : 0 < g.kept
 · obtain ⟨k1, k2⟩ := h.k1 hk
   rw [k1, k2, dp_, ch_, ch_, ei_ hk, qi_ (fun p q hp => by injection hp with a b; rw [← a]; simp), List.nil_append]
 · have hk0 : g.kept = 0 := by omega
   rw [hk0, ci_, ci_]
   have key : insR (pI g.text g.out) (runesBytes (r :: rs)) = ⟨2, 0, runesBytes (g.text ++ r :: rs)⟩ :: g.out := by
    by_cases ht : 0 < g.text.length
    · rw [ft_ ht, es_, if_pos rfl, di_]
    · have ht0 : g.text = [] := List.eq_nil_of_length_eq_zero (by omega)
      rw [ht0, dp_, List.nil_append, qi_]
      intro p q hp
      rw [h.k3 hk0 p q hp]
      simp
   by_cases hg : 0 < g.gone
   · rw [do_ hg, do_ hg, es_, if_neg (by simp), if_pos rfl, key]
     dsimp only
     rw [kn_ (fun p q hp => by injection hp with a b; rw [← a]; simp) (by omega)]
   · rw [show g.gone = 0 by omega, ch_, ch_, key]
def Holds (rs : List PartD) (l : List (Int × Int)) : Prop := rs = (Gr.run l).fin
theorem vq_ : Holds [] [] := rfl
theorem Holds.keep {rs : List PartD} {l : List (Int × Int)} (h : Holds rs l) (n : Nat) (hn : 0 < n) (hb : l.length + n < 4611686018427387904) : Holds (keepR rs n) (l ++ List.replicate n (1, 0)) := by
 have hm := fu_ l
 unfold Gr.most at hm
 unfold Holds at *
 rw [h, fd_, xy_ (qz_ l) n hn (by omega)]
theorem Holds.del {rs : List PartD} {l : List (Int × Int)} (h : Holds rs l) (n : Nat) (hn : 0 < n) (hb : l.length + n < 4611686018427387904) : Holds (remR rs n) (l ++ List.replicate n (3, 0)) := by
 have hm := fu_ l
 unfold Gr.most at hm
 unfold Holds at *
 rw [h, fd_, zb_ (qz_ l) n hn (by omega)]
theorem Holds.ins {rs : List PartD} {l : List (Int × Int)} (h : Holds rs l) (X : List Int) (hX : X ≠ []) : Holds (insB rs (runesBytes X)) (l ++ X.map (fun x => (2, x))) := by
 unfold Holds at *
 cases X with
 | nil => exact absurd rfl hX
 | cons r rs' => rw [h, fd_, zc_ (qz_ l)]
theorem Holds.len {rs : List PartD} {l : List (Int × Int)} (h : Holds rs l) : rs.length ≤ l.length := by
 rw [h]
 exact Nat.le_trans (lk_ _) (fu_ l)
theorem Holds.text {rs : List PartD} {l : List (Int × Int)} (h : Holds rs l) : ∀ p ∈ rs, p.text.size ≤ 4 * l.length := by
 rw [h]
 exact (yl_ l l.length (Nat.le_refl _)).fin
theorem Holds.rev {rs : List PartD} {l : List (Int × Int)} (h : Holds rs l) : rs.reverse = grouped l := by rw [h]; rfl
abbrev insS (rs : List Int) : List (Int × Int) := rs.map (fun x => ((2 : Int), x))
abbrev othS (k : Int) (n : Nat) : List (Int × Int) := List.replicate n (k, (0 : Int))
def invSteps (r : List Int) : List (Int × Int) → Nat → List (Int × Int)
 | [], _ => []
 | x :: l, a => if x.1 = 2 then (3, 0) :: invSteps r l a else if x.1 = 3 then (2, r.getD a 0) :: invSteps r l (a + 1) else x :: invSteps r l (a + 1)
theorem cw_ (r : List Int) (x : Int × Int) (l : List (Int × Int)) (a : Nat) : invSteps r (x :: l) a = if x.1 = 2 then (3, 0) :: invSteps r l a else if x.1 = 3 then (2, r.getD a 0) :: invSteps r l (a + 1) else x :: invSteps r l (a + 1) := rfl
theorem sn_ (r : List Int) (l : List (Int × Int)) (a : Nat) : ∀ rs : List Int, invSteps r (insS rs ++ l) a = othS 3 rs.length ++ invSteps r l a
 | [] => rfl
 | x :: rs => by
  have ih := sn_ r l a rs
  show invSteps r ((2, x) :: (insS rs ++ l)) a = _
  rw [cw_, if_pos rfl, ih]
  rfl
theorem qj_ (r : List Int) (l : List (Int × Int)) : ∀ (n a : Nat), invSteps r (othS 1 n ++ l) a = othS 1 n ++ invSteps r l (a + n)
 | 0, a => by simp [othS]
 | n + 1, a => by
  have ih := qj_ r l n (a + 1)
  rw [show othS 1 (n + 1) = (1, 0) :: othS 1 n from rfl, List.cons_append, cw_, if_neg (by decide), if_neg (by decide), ih, show a + 1 + n = a + (n + 1) by omega]
  rfl
theorem sm_ (r : List Int) (l : List (Int × Int)) : ∀ (n a : Nat), a + n ≤ r.length → invSteps r (othS 3 n ++ l) a = insS ((r.drop a).take n) ++ invSteps r l (a + n)
 | 0, a, _ => by simp [othS, insS]
 | n + 1, a, h => by
  have ih := sm_ r l n (a + 1) (by omega)
  rw [show othS 3 (n + 1) = (3, 0) :: othS 3 n from rfl, List.cons_append, cw_, if_neg (by decide), if_pos rfl, ih, List.drop_eq_getElem_cons (show a < r.length by omega), List.take_succ_cons, show a + 1 + n = a + (n + 1) by omega]
  rw [List.getD_eq_getElem?_getD, List.getElem?_eq_getElem (show a < r.length by omega)]
  rfl
theorem ef_ (r : List Int) : ∀ (l : List (Int × Int)) (a : Nat), (invSteps r l a).length = l.length
 | [], _ => rfl
 | x :: l, a => by
  rw [cw_]
  split
  · rw [List.length_cons, ef_ r l a, List.length_cons]
  · split
    · rw [List.length_cons, ef_ r l, List.length_cons]
    · rw [List.length_cons, ef_ r l, List.length_cons]
theorem jh_ : ∀ {ps : List PartD}, okParts ps → ∀ p ∈ ps, partFault p = 0
 | [], _, p, hp => by cases hp
 | q :: ps, ⟨h1, _, h2⟩, p, hp => by
  rcases List.mem_cons.1 hp with rfl | h
  · exact h1
  · exact jh_ h2 p h
theorem eu_ {p : PartD} (h : p.kind = 2) : partSteps p = insS (runesOf p.text) := if_pos h
theorem ev_ {p : PartD} (h : p.kind ≠ 2) : partSteps p = othS p.kind p.n.toNat := if_neg h
theorem go_ {p : PartD} (h : partFault p = 0) : 0 < (partSteps p).length ∧ (partSteps p).length ≤ 4000 := by
 by_cases h2 : p.kind = 2
 · obtain ⟨_, h4, h5⟩ := fl_ h h2
   rw [eu_ h2]
   have h6 := (cl_ h4).1
   simp only [insS, List.length_map]
   rw [ba_]
   refine ⟨?_, h6⟩
   have h7 : p.text.size ≠ 0 := by
    intro e
    apply h5
    have := blen p.text
    rw [e] at this
    exact List.eq_nil_of_length_eq_zero this
   unfold Lib.runeCount
   obtain ⟨n, hn⟩ : ∃ n, p.text.size = n + 1 := ⟨p.text.size - 1, by omega⟩
   rw [hn]
   unfold Lib.runeCountFrom
   rw [if_pos (by omega)]
   omega
 · obtain ⟨_, h4, h5, _⟩ := bw_ h h2
   rw [ev_ h2]
   simp only [othS, List.length_replicate]
   omega
end Go.Proofs.YtacacoklddogmaaGreatDoor
namespace Go.Proofs.YtacacoklddogmaaGreatDoor
set_option maxHeartbeats 4000000
open Go.ChangeShapes Go.WideShapes Go.ChangeAt Go.RowKit
set_option maxRecDepth 100000
section
variable (w : World) (base B : Nat) (A : Option Addr) (c : Nat)
theorem vv_ (n : Int) (p : PartD) (rs : List PartD) (hb : Bld w base B A c (p :: rs)) (hk : p.kind = 1) :
 Calls Tryz.prog 92 #[.pointer (some ⟨B, 0, none⟩), .int .i64 n] w fun e w' => e = .returned (.tuple #[]) ∧ BldTo w base B A (rs.length + 1) c (⟨p.kind, wrap64 (p.n + n), p.text⟩ :: rs) w' := by
 have HL := h_ (fo_ w base B A c p rs hb)
 have HB := h_ hb
 obtain ⟨g, rfl, _, hg, hne, hcap, hmax, h0, h1, h2, hfz⟩ := hb.last
 have hl := hb.lt
 rw [hk] at HL
 obtain ⟨kd, pn, tx⟩ := p
 dsimp only at *
 subst hk
 have hz := hfz (rs.length * 3 + 1)
 clear hb hfz
 go_enter Tryz.func92, Tryz.ntmps92
 go_wp2_with fail
 refine HL.out.mono ?_
 rintro e w1 ⟨rfl, hb1⟩
 obtain ⟨⟨d1, os1⟩, rfl⟩ := a_ hb1
 dsimp only [Option.map]
 go_wp2_with fail
 obtain ⟨hA, hB⟩ := HB.out.stored 1 (.int .i64 (wrap64 (pn + n))) (q := ⟨1, wrap64 (pn + n), tx⟩) rfl
 exact bodyPost_end (results_none rfl _ _ _) rfl ⟨rfl, _, _, hA.later (bGrow (Below.refl _ _) _ _), hB.trans (Turned.of_below (bGrow (Below.refl _ _) _ _)) (.inl rfl), .inl rfl⟩
theorem nf_ (n : Int) (rs : List PartD) (hb : Bld w base B A c rs) (hn : decide (0 < n) = false)
 (HL : Hid (Calls Tryz.prog 123 #[.pointer (some ⟨B, 0, none⟩), .int .i64 1] w (R_ w (.pointer none)))) :
 Calls Tryz.prog 92 #[.pointer (some ⟨B, 0, none⟩), .int .i64 n] w fun e w' => e = .returned (.tuple #[]) ∧ BldTo w base B A rs.length c rs w' := by
 go_enter Tryz.func92, Tryz.ntmps92
 go_wp2_with fail
 refine HL.out.mono ?_
 rintro e w1 ⟨rfl, hb1⟩
 go_wp2_with fail
 exact bodyPost_end (results_none rfl _ _ _) rfl ⟨rfl, BldTo.self hb hb1⟩
theorem qk_ (n : Int) (rs : List PartD) (hb : Bld w base B A c rs) (hn : decide (0 < n) = true) (hlen : rs.length ≤ 1000000)
 (HL : Hid (Calls Tryz.prog 123 #[.pointer (some ⟨B, 0, none⟩), .int .i64 1] w (R_ w (.pointer none)))) :
 Calls Tryz.prog 92 #[.pointer (some ⟨B, 0, none⟩), .int .i64 n] w fun e w' => e = .returned (.tuple #[]) ∧ BldTo w base B A rs.length c (⟨1, n, ⟨#[]⟩⟩ :: rs) w' := by
 have hl := hb.lt
 have hc := hb.cell
 obtain ⟨i0, hi, hz0, hz1, hz2⟩ := info_parts infoPart
 go_enter Tryz.func92, Tryz.ntmps92
 go_wp2_with fail
 refine HL.out.mono ?_
 rintro e w1 ⟨rfl, hb1⟩
 obtain ⟨⟨d1, os1⟩, rfl⟩ := a_ hb1
 have HB2 := h_ (hb.later (bAlloc (bGrow (Below.refl _ _) d1 os1) (.cells #[.int .i64 1, .int .i64 n, .string ⟨#[]⟩] 73)))
 have hS : Sl (fun _ => True) ((Sort.grow (redrawn w d1) os1).alloc (.cells #[.int .i64 1, .int .i64 n, .string ⟨#[]⟩] 73)) 3 (some ⟨w.heap.size + os1.size, 0, none⟩) 1 [.int .i64 1, .int .i64 n, .string ⟨#[]⟩] := by
  have h := Sl.new (S := fun _ => True) (Sort.grow (redrawn w d1) os1) [.int .i64 1, .int .i64 n, .string ⟨#[]⟩] 73 3 1 rfl trivial
  rw [hs_] at h
  exact h
 go_wp2_with (at_builtin; refine j_ _ rfl _ _ 30 rfl base 73 i0 (.agg #[.int .i64 0, .int .i64 0, .string ⟨#[]⟩]) 3 32 Tryz.underlying30 hi hz0 hz1 hz2 rfl (by decide) _ _ _ rfl HB2.out.row _ _ _ _ _ rfl hS ?c1 ?c2 ?c3 ?c4 ?_)
 case c1 => simp [Value.oneCell']
 case c2 => unfold maxLen; omega
 case c3 => omega
 case c4 => have := HB2.out.lo; simp; omega
 intro A' c' w1 hown hgrow hat
 obtain ⟨x1, x2, x3⟩ := km_ (HB2.out.grown hgrow)
 go_wp2_with fail
 refine bodyPost_end (results_none rfl _ _ _) rfl ⟨rfl, ?_⟩
 exact fh_ hb (bAlloc (bGrow (Below.refl _ _) d1 os1) _) (q := ⟨1, n, ⟨#[]⟩⟩) (by simpa [PartD.cells] using hown) hgrow hat (by simp <;> omega)
theorem zu_ (n : Int) (rs : List PartD) (hb : Bld w base B A c rs) (hlen : rs.length ≤ 1000000) :
 Calls Tryz.prog 92 #[.pointer (some ⟨B, 0, none⟩), .int .i64 n] w fun e w' => e = .returned (.tuple #[]) ∧ BldTo w base B A rs.length c (keepR rs n) w' := by
 rcases rs with _ | ⟨p, r⟩
 · rw [ne_]
   by_cases hn : 0 < n
   · rw [if_pos hn]
     exact qk_ w base B A c n [] hb (by simpa using hn) hlen (h_ (fn_ w base B A c 1 hb))
   · rw [if_neg hn]
     exact nf_ w base B A c n [] hb (by simpa using hn) (h_ (fn_ w base B A c 1 hb))
 · rw [gv_]
   by_cases hk : p.kind = 1
   · rw [if_pos hk]
     exact vv_ w base B A c n p r hb hk
   · have HL := h_ (ih_ w base B A c 1 p r hb (by simpa using hk))
     by_cases hn : 0 < n
     · rw [if_neg hk, if_pos hn]
       exact qk_ w base B A c n (p :: r) hb (by simpa using hn) hlen HL
     · rw [if_neg hk, if_neg hn]
       exact nf_ w base B A c n (p :: r) hb (by simpa using hn) HL
end
theorem Bld.new (w : World) : Bld (w.alloc (.cells #[.slice none 0 0] 138)) w.heap.size w.heap.size none 0 [] :=
 ⟨Nat.le_refl _, heap_alloc_new _ _, World.ownsRow_nil _ _ _ _, by simp [Value.ownBlock]⟩
theorem bOver {base : Nat} {w w1 w2 : World} (h : Below base w w1) (k : Below base w1 w2) : Below base w w2 :=
 ⟨k.os.trans h.os, k.tape.trans h.tape, k.output.trans h.output, Nat.le_trans h.size k.size, fun x hx => (k.block x hx).trans (h.block x hx)⟩
theorem Bld.lay {w : World} {base B : Nat} {A : Option Addr} {c : Nat} {rs : List PartD} (h : Bld w base B A c rs) : ∀ x, (Value.slice A rs.length c).ownBlock = some x → base ≤ x ∧ x < w.heap.size := fun x hx => h.row.lt x hx
theorem BldTo.go {w w' : World} {base B : Nat} {A : Option Addr} {c : Nat} {rs qs : List PartD} (hb : Bld w base B A c rs) (h : BldTo w base B A rs.length c qs w') :
 ∃ A' c', Bld w' base B A' c' qs ∧ Below base w w' := by
 obtain ⟨A', c', h1, h2, _⟩ := h
 exact ⟨A', c', h1, h2.below hb.lo (fun x hx => (hb.lay x hx).1) (Nat.le_trans hb.lo (Nat.le_of_lt hb.lt))⟩
theorem BldTo.stays {w w' : World} {base B : Nat} {A : Option Addr} {c : Nat} {rs qs : List PartD} (h : BldTo w base B A rs.length c qs w') {k : Nat} (hk : k < w.heap.size) (hB : k ≠ B) (hR : (Value.slice A rs.length c).ownBlock ≠ some k) : w'.heap[k]? = w.heap[k]? := by
 obtain ⟨A', c', _, h2, _⟩ := h
 exact h2.block k hk hB (fun e => hR e.symm)
def RetOpE (w : World) (L : List PartD) (er : Int) (e : Ending) (w' : World) : Prop :=
 ∃ A c, e = .returned (.tuple #[.slice A L.length c, .int .i64 er]) ∧ w'.ownsRow w.heap.size 73 3 (.slice A L.length c) L.length (opCells L) ∧ Below w.heap.size w w'
def RetOpO (w : World) (L : List PartD) (e : Ending) (w' : World) : Prop :=
 ∃ A c, e = .returned (.slice A L.length c) ∧ w'.ownsRow w.heap.size 73 3 (.slice A L.length c) L.length (opCells L) ∧ Below w.heap.size w w'
theorem Bld.out {w : World} {base base' B : Nat} {A : Option Addr} {c : Nat} {rs : List PartD} (h : Bld w base B A c rs) (hb : base' ≤ base) :
 w.ownsRow base' 73 3 (.slice A rs.reverse.length c) rs.reverse.length (opCells rs.reverse) := by
 rw [List.length_reverse]
 refine ⟨h.row.1, ?_⟩
 rcases h.row.2 with h0 | ⟨g, cap, cur, h1, h2, h3⟩
 · exact .inl h0
 · exact .inr ⟨g, cap, cur, h1, Nat.le_trans hb h2, h3⟩
end Go.Proofs.YtacacoklddogmaaGreatDoor
