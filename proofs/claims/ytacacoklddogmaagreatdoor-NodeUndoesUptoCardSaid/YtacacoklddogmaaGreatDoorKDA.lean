/- A part of the proof of NodeUndoes. -/
import Derived.Test.YtacacoklddogmaaGreatDoorKBB
import Derived.Laws.Cover4
import Derived.Lib.MapLaws
import Derived.Lib.ValidLaws
import Derived.Lib.TrimUEq
namespace Go.Proofs.YtacacoklddogmaaGreatDoor
set_option maxHeartbeats 4000000
open Go.RowKit Go.Lib
def runesAt (s : ByteArray) : Nat → Nat → List Int
 | 0, _ => []
 | f + 1, i => if i < s.size then ((Utf8.decode s i).1 : Int) :: runesAt s f (i + (Utf8.decode s i).2) else []
def runesOf (s : ByteArray) : List Int := runesAt s s.size 0
theorem ho_ (s : ByteArray) : ∀ (f i : Nat) (acc : Array Value), Conv.runesFrom s f i acc = acc ++ ((runesAt s f i).map (Value.int .i32)).toArray
 | 0, _, acc => by simp [Conv.runesFrom, runesAt]
 | f + 1, i, acc => by
  unfold Conv.runesFrom runesAt
  by_cases h : i < s.size
  · simp only [h, if_true]
    rw [ho_ s f]
    simp
  · simp [h]
theorem li_ (s : ByteArray) : Conv.runesFrom s s.size 0 #[] = ((runesOf s).map (Value.int .i32)).toArray := by
 rw [ho_]; simp [runesOf]
theorem ba_ (s : ByteArray) : (runesOf s).length = Lib.runeCount s := by
 have h := gk_ s
 rw [li_] at h
 simpa using h
theorem tr_ (r : Int) (h : Utf8.valid r = false) : (Utf8.encode r).data.toList = [239, 191, 189] := by
 simp [Utf8.encode, h, Utf8.runeError]
theorem rv_ (n : Nat) (v : Utf8.valid (n : Int) = true) (hv : ((n : Int) < 55296) ∨ (57344 ≤ (n : Int) ∧ (n : Int) ≤ 1114111)) : (Utf8.encode (n : Int)).data.toList = encodeRune n := by
 unfold encodeRune
 by_cases c1 : n < 128
 · rw [encodeRuneZ_one (by omega) (by omega)]
   simp [Utf8.encode, v, c1]
 by_cases c2 : n < 2048
 · rw [encodeRuneZ_two (by omega) (by omega)]
   simp only [Utf8.encode, v, c1, c2, if_true, if_false, Int.toNat_natCast, List.map_cons, List.map_nil]
   rw [show (192 + (n : Int) / 64).toNat = 192 + n / 64 by omega, show (128 + (n : Int) % 64).toNat = 128 + n % 64 by omega]
 by_cases c3 : n < 65536
 · rw [encodeRuneZ_three (by omega)]
   simp only [Utf8.encode, v, c1, c2, c3, if_true, if_false, Int.toNat_natCast, List.map_cons, List.map_nil]
   rw [show (224 + (n : Int) / 4096).toNat = 224 + n / 4096 by omega, show (128 + (n : Int) / 64 % 64).toNat = 128 + n / 64 % 64 by omega, show (128 + (n : Int) % 64).toNat = 128 + n % 64 by omega]
 · rw [encodeRuneZ_four (by omega) (by omega)]
   simp only [Utf8.encode, v, c1, c2, c3, if_true, if_false, Int.toNat_natCast, List.map_cons, List.map_nil]
   rw [show (240 + (n : Int) / 262144).toNat = 240 + n / 262144 by omega, show (128 + (n : Int) / 4096 % 64).toNat = 128 + n / 4096 % 64 by omega, show (128 + (n : Int) / 64 % 64).toNat = 128 + n / 64 % 64 by omega, show (128 + (n : Int) % 64).toNat = 128 + n % 64 by omega]
theorem vh_ (r : Int) : (Utf8.encode r).data.toList = encodeRune r := by
 by_cases h : Utf8.valid r = true
 · have h0 : 0 ≤ r := by
    simp [Utf8.valid] at h
    omega
   obtain ⟨n, rfl⟩ : ∃ n : Nat, r = n := ⟨r.toNat, by omega⟩
   exact rv_ n h (by simp [Utf8.valid] at h; omega)
 · rw [tr_ r (by simpa using h)]
   have h' : ¬ ((0 ≤ r ∧ r < 55296) ∨ (57344 ≤ r ∧ r ≤ 1114111)) := by
    intro q
    apply h
    simp [Utf8.valid]
    omega
   unfold encodeRune encodeRuneZ
   rw [if_neg (by omega), if_neg (by omega), if_neg (by omega), if_neg (by omega)]
   rfl
theorem lm_ : ∀ (rs : List Int) (s : ByteArray), (rs.foldl (fun r n => r ++ Utf8.encode n) s).data.toList = s.data.toList ++ rs.flatMap encodeRune
 | [], s => by simp
 | r :: rs, s => by
  rw [List.foldl_cons, lm_ rs, ByteArray.data_append, Array.toList_append, vh_]
  simp
theorem ck_ (rs : List Int) : (runesBytes rs).data.toList = rs.flatMap encodeRune := by
 unfold runesBytes
 rw [lm_]
 rfl
theorem va_ {a b : ByteArray} (h : a.data.toList = b.data.toList) : a = b := by
 obtain ⟨⟨a⟩⟩ := a
 obtain ⟨⟨b⟩⟩ := b
 simp at h
 subst h
 rfl
theorem di_ (a b : List Int) : runesBytes (a ++ b) = runesBytes a ++ runesBytes b := by
 apply va_
 rw [ByteArray.data_append, Array.toList_append, ck_, ck_, ck_]
 simp
theorem ib_ (s : ByteArray) : ∀ (f i : Nat), s.size ≤ i + f → validD (s.data.toList.drop i) = true → (runesAt s f i).flatMap encodeRune = s.data.toList.drop i
 | 0, i, h, _ => by
  have : s.data.toList.drop i = [] := List.drop_eq_nil_of_le (by rw [← size_eq]; omega)
  simp [runesAt, this]
 | f + 1, i, h, hv => by
  unfold runesAt
  by_cases hi : i < s.size
  · have hne : s.data.toList.drop i ≠ [] := by
     intro h0
     have := congrArg List.length h0
     rw [List.length_drop, ← size_eq] at this
     simp at this
     omega
    rw [validD_step _ hne] at hv
    by_cases hb : (decodeL (s.data.toList.drop i)).1 = 65533 ∧ (decodeL (s.data.toList.drop i)).2 = 1
    · rw [if_pos hb] at hv
      cases hv
    · rw [if_neg hb, List.drop_drop] at hv
      have he := encode_decode _ hne hb
      have hw := decodeL_width (s.data.toList.drop i)
      rw [decodeL_drop] at he hv hw
      rw [if_pos hi, List.flatMap_cons, he, ib_ s f _ (by omega) hv, ← List.drop_drop, List.take_append_drop]
  · rw [if_neg hi]
    have : s.data.toList.drop i = [] := List.drop_eq_nil_of_le (by rw [← size_eq]; omega)
    simp [this]
theorem xh_ (s : ByteArray) (h : validD s.data.toList = true) : runesBytes (runesOf s) = s := by
 apply va_
 rw [ck_]
 exact ib_ s s.size 0 (by omega) (by simpa using h)
def partSteps (p : PartD) : List (Int × Int) := if p.kind = 2 then (runesOf p.text).map (fun r => (2, r)) else List.replicate p.n.toNat (p.kind, 0)
def stepsOf (ps : List PartD) : List (Int × Int) := ps.flatMap partSteps
theorem cj_ (p : PartD) (ps : List PartD) : stepsOf (p :: ps) = partSteps p ++ stepsOf ps := rfl
def moveGo (push : Bool) : List PartD → Int → Int → Int → Int
 | [], _, _, new => new
 | p :: ps, at_, old, new =>
  if p.kind = 2 then (if at_ < old ∨ (old = at_ ∧ push = false) then new + at_ - old else moveGo push ps at_ old (new + Lib.runeCount p.text))
  else if p.kind = 1 then (if at_ < old + p.n then new + at_ - old else moveGo push ps at_ (old + p.n) (new + p.n))
  else moveGo push ps (if at_ < old + p.n then old + p.n else at_) (old + p.n) new
def movedGo (push : Bool) : List (Int × Int) → Int → Int → Int → Int
 | [], _, _, new => new
 | x :: l, at_, old, new =>
  if x.1 = 2 then movedGo push l at_ old (if old < at_ ∨ (old = at_ ∧ push = true) then new + 1 else new)
  else movedGo push l at_ (old + 1) (if x.1 = 1 ∧ old < at_ then new + 1 else new)
theorem fp_ (push : Bool) (x : Int × Int) (l : List (Int × Int)) (at_ old new : Int) : movedGo push (x :: l) at_ old new =
 if x.1 = 2 then movedGo push l at_ old (if old < at_ ∨ (old = at_ ∧ push = true) then new + 1 else new) else movedGo push l at_ (old + 1) (if x.1 = 1 ∧ old < at_ then new + 1 else new) := rfl
theorem eg_ (push : Bool) : ∀ (l : List (Int × Int)) (at_ old new : Int), at_ < old → movedGo push l at_ old new = new
 | [], _, _, _, _ => rfl
 | x :: l, at_, old, new, h => by
  unfold movedGo
  by_cases hx : x.1 = 2
  · rw [if_pos hx, if_neg (by omega), eg_ push l _ _ _ h]
  · rw [if_neg hx, if_neg (by omega), eg_ push l _ _ _ (by omega)]
theorem ls_ : ∀ (l : List (Int × Int)) (at_ new : Int), movedGo false l at_ at_ new = new
 | [], _, _ => rfl
 | x :: l, at_, new => by
  unfold movedGo
  by_cases hx : x.1 = 2
  · rw [if_pos hx, if_neg (by simp), ls_ l]
  · rw [if_neg hx, if_neg (by omega), eg_ false l _ _ _ (by omega)]
theorem nj_ (push : Bool) (l : List (Int × Int)) : ∀ (rs : List Int) (at_ old new : Int), (old < at_ ∨ (old = at_ ∧ push = true)) → movedGo push (rs.map (fun r => ((2 : Int), r)) ++ l) at_ old new = movedGo push l at_ old (new + rs.length)
 | [], _, _, _, _ => by simp
 | r :: rs, at_, old, new, h => by
  rw [List.map_cons, List.cons_append]
  rw [fp_, if_pos rfl, if_pos h, nj_ push l rs _ _ _ h]
  congr 1
  simp only [List.length_cons]
  omega
theorem lr_ (push : Bool) (l : List (Int × Int)) : ∀ (n : Nat) (at_ old new : Int), old ≤ at_ →
 movedGo push (List.replicate n ((1 : Int), (0 : Int)) ++ l) at_ old new = if at_ < old + n then new + at_ - old else movedGo push l at_ (old + n) (new + n)
 | 0, at_, old, new, h => by
  rw [if_neg (by omega)]
  simp
 | n + 1, at_, old, new, h => by
  rw [List.replicate_succ, List.cons_append]
  rw [fp_, if_neg (by decide)]
  by_cases hlt : old < at_
  · rw [if_pos ⟨rfl, hlt⟩, lr_ push l n _ _ _ (by omega)]
    have e1 : old + 1 + (n : Int) = old + (n + 1 : Nat) := by omega
    have e2 : new + 1 + (n : Int) = new + (n + 1 : Nat) := by omega
    have e3 : new + 1 + at_ - (old + 1) = new + at_ - old := by omega
    rw [e1, e2, e3]
  · rw [if_neg (by omega), if_pos (by omega), eg_ push _ _ _ _ (by omega)]
    omega
theorem ni_ (push : Bool) (k : Int) (h1 : k ≠ 1) (h2 : k ≠ 2) (l : List (Int × Int)) : ∀ (n : Nat) (at_ old new : Int),
 movedGo push (List.replicate n (k, (0 : Int)) ++ l) at_ old new = movedGo push l at_ (old + n) new
 | 0, at_, old, new => by simp
 | n + 1, at_, old, new => by
  rw [List.replicate_succ, List.cons_append]
  rw [fp_, if_neg h2, if_neg (fun h => h1 h.1), ni_ push k h1 h2 l n]
  congr 1
  omega
def okParts : List PartD → Prop
 | [] => True
 | p :: ps => partFault p = 0 ∧ (∀ q, ps.head? = some q → clash p q = false) ∧ okParts ps
theorem gn_ {p : PartD} (h : partFault p = 0) : (p.kind = 2 ∧ p.n = 0 ∧ textFault p.text = 0 ∧ p.text.toList ≠ []) ∨ ((p.kind = 1 ∨ p.kind = 3) ∧ 1 ≤ p.n ∧ p.n ≤ 4000 ∧ p.text.toList = []) := by
 unfold partFault at h
 by_cases h2 : p.kind = 2
 · rw [if_pos h2] at h
   by_cases h3 : textFault p.text ≠ 0
   · rw [if_pos h3] at h
     exact absurd h h3
   · rw [if_neg h3] at h
     by_cases h4 : p.text.toList = [] ∨ p.n ≠ 0
     · rw [if_pos h4] at h
       cases h
     · refine .inl ⟨h2, ?_, ?_, ?_⟩
       · exact Classical.not_not.1 fun q => h4 (.inr q)
       · exact Classical.not_not.1 h3
       · exact fun q => h4 (.inl q)
 · rw [if_neg h2] at h
   by_cases h3 : p.kind = 1 ∨ p.kind = 3
   · rw [if_pos h3] at h
     by_cases h4 : p.n < 1 ∨ 4000 < p.n
     · rw [if_pos h4] at h
       cases h
     · rw [if_neg h4] at h
       by_cases h5 : p.text.toList ≠ []
       · rw [if_pos h5] at h
         cases h
       · exact .inr ⟨h3, by omega, by omega, Classical.not_not.1 h5⟩
   · rw [if_neg h3] at h
     cases h
theorem ua_ (ps : List PartD) (h : ∀ i, i < ps.length → badAt ps i = 0) : okParts ps := by
 have key : ∀ (qs : List PartD) (n : Nat), qs = ps.drop n → okParts qs := by
  intro qs
  induction qs with
  | nil => intro _ _; trivial
  | cons p qs ih =>
   intro n hn
   have hl : n < ps.length := by
    have := congrArg List.length hn
    rw [List.length_drop, List.length_cons] at this
    omega
   have e0 : p = ps[n] ∧ qs = ps.drop (n + 1) := by
    rw [List.drop_eq_getElem_cons hl] at hn
    injection hn with a b
    exact ⟨a, b⟩
   obtain ⟨rfl, rfl⟩ := e0
   have hp : partFault ps[n] = 0 := by
    rcases Classical.em (partFault ps[n] = 0) with q | q
    · exact q
    · have := h n hl
      rw [df_ hl q] at this
      exact this
   refine ⟨hp, ?_, ih (n + 1) rfl⟩
   intro q hq
   rw [List.head?_drop] at hq
   obtain ⟨hl2, rfl⟩ := List.getElem?_eq_some_iff.1 hq
   have h1 := h (n + 1) hl2
   have hq0 : partFault ps[n + 1] = 0 := by
    rcases Classical.em (partFault ps[n + 1] = 0) with q | q
    · exact q
    · rw [df_ hl2 q] at h1
      exact h1
   rw [gu_ hl2 hq0] at h1
   cases hc : clash ps[n] ps[n + 1]
   · rfl
   · rw [hc] at h1
     cases h1
 exact key ps 0 (by simp)
theorem bx_ {ps : List PartD} (h : opFault ps = 0) : ps.length ≤ 8001 ∧ okParts ps ∧ (lens ps).1 ≤ 4000 ∧ (lens ps).2 ≤ 4000 := by
 by_cases h8 : 8001 < ps.length
 · rw [fr_ h8] at h
   cases h
 by_cases hg : ∀ i, i < ps.length → badAt ps i = 0
 · rw [fq_ h8 hg] at h
   by_cases hl : 4000 < (lens ps).1 ∨ 4000 < (lens ps).2
   · rw [if_pos hl] at h
     cases h
   · exact ⟨by omega, ua_ ps hg, by omega, by omega⟩
 · exfalso
   have hex : ∃ n, n < ps.length ∧ badAt ps n ≠ 0 := by
    apply Classical.byContradiction
    intro hn
    apply hg
    intro i hi
    apply Classical.byContradiction
    intro hb
    exact hn ⟨i, hi, hb⟩
   have hmin : ∀ n, n < ps.length → badAt ps n ≠ 0 → ∃ k, k < ps.length ∧ badAt ps k ≠ 0 ∧ ∀ i, i < k → badAt ps i = 0 := by
    intro n
    induction n using Nat.strongRecOn with
    | ind n ih =>
     intro hn hb
     by_cases hall : ∀ i, i < n → badAt ps i = 0
     · exact ⟨n, hn, hb, hall⟩
     · have : ∃ i, i < n ∧ badAt ps i ≠ 0 := by
        apply Classical.byContradiction
        intro hc
        apply hall
        intro i hi
        apply Classical.byContradiction
        intro hq
        exact hc ⟨i, hi, hq⟩
       obtain ⟨i, hi, hq⟩ := this
       exact ih i hi (by omega) hq
   obtain ⟨n, hn, hb⟩ := hex
   obtain ⟨k, hk, hbk, hall⟩ := hmin n hn hb
   rw [dm_ h8 hk hall hbk] at h
   exact hbk h
theorem fl_ {p : PartD} (h : partFault p = 0) (h2 : p.kind = 2) : p.n = 0 ∧ textFault p.text = 0 ∧ p.text.toList ≠ [] := by
 rcases gn_ h with q | q
 · exact q.2
 · omega
theorem bw_ {p : PartD} (h : partFault p = 0) (h2 : p.kind ≠ 2) : (p.kind = 1 ∨ p.kind = 3) ∧ 1 ≤ p.n ∧ p.n ≤ 4000 ∧ p.text.toList = [] := by
 rcases gn_ h with q | q
 · exact absurd q.1 h2
 · exact q
theorem gx_ (push : Bool) : ∀ (ps : List PartD) (at_ old new : Int), okParts ps → old ≤ at_ → moveGo push ps at_ old new = movedGo push (stepsOf ps) at_ old new
 | [], _, _, _, _, _ => rfl
 | p :: ps, at_, old, new, ⟨hp, hc, hps⟩, hle => by
  rw [cj_]
  unfold moveGo partSteps
  by_cases h2 : p.kind = 2
  · rw [if_pos h2, if_pos h2]
    by_cases hs : at_ < old ∨ (old = at_ ∧ push = false)
    · rw [if_pos hs]
      have e : old = at_ ∧ push = false := by
       rcases hs with q | q
       · omega
       · exact q
      obtain ⟨rfl, rfl⟩ := e
      rw [ls_]
      omega
    · rw [if_neg hs, nj_ push _ _ _ _ _ (by cases push <;> simp at hs ⊢ <;> omega), ba_]
      exact gx_ push ps _ _ _ hps hle
  · obtain ⟨hk, hn1, hn2, _⟩ := bw_ hp h2
    rw [if_neg h2, if_neg h2]
    have hnn : ((p.n.toNat : Nat) : Int) = p.n := by omega
    by_cases h1 : p.kind = 1
    · rw [if_pos h1, h1, lr_ push _ _ _ _ _ hle, hnn]
      by_cases hs : at_ < old + p.n
      · rw [if_pos hs, if_pos hs]
      · rw [if_neg hs, if_neg hs]
        exact gx_ push ps _ _ _ hps (by omega)
    · have h3 : p.kind = 3 := by omega
      rw [if_neg h1, ni_ push _ h1 h2, hnn]
      by_cases hs : at_ < old + p.n
      · rw [if_pos hs, eg_ push _ _ _ _ hs]
        rcases ps with _ | ⟨q, r⟩
        · rfl
        · obtain ⟨hq, _, _⟩ := hps
          have hcl := hc q rfl
          unfold moveGo
          have hq2 : q.kind ≠ 2 := by
           intro e
           simp [clash, h3, e] at hcl
          have hq3 : q.kind ≠ 3 := by
           intro e
           simp [clash, h3, e] at hcl
          obtain ⟨hk', hn1', _, _⟩ := bw_ hq hq2
          rw [if_neg hq2, if_pos (by omega), if_pos (by omega)]
          omega
      · rw [if_neg hs]
        exact gx_ push ps _ _ _ hps (by omega)
end Go.Proofs.YtacacoklddogmaaGreatDoor
namespace Go.Proofs.YtacacoklddogmaaGreatDoor
set_option maxHeartbeats 4000000
open Go.ChangeShapes Go.WideShapes Go.ChangeAt Go.RowKit
set_option maxRecDepth 100000
theorem infoStep : (Tryz.prog.info? 161).map (fun i => (i.zero, i.size, i.bytes)) = some (some (.agg #[.int .i64 0, .int .i32 0]), 2, 16) := by kernel_rfl
def stepCells (l : List (Int × Int)) : List Value := l.flatMap fun x => [.int .i64 x.1, .int .i32 x.2]
theorem hj_ (l : List (Int × Int)) : ∀ (k j : Nat) (hk : k < l.length) (_ : j < 2), (stepCells l)[k * 2 + j]? = [Value.int .i64 l[k].1, Value.int .i32 l[k].2][j]? := by
 induction l with
 | nil => intro k j hk; exact absurd hk (by simp)
 | cons p l ih =>
  intro k j hk hj
  show ([Value.int .i64 p.1, Value.int .i32 p.2] ++ stepCells l)[k * 2 + j]? = _
  cases k with
  | zero =>
   rw [List.getElem?_append_left (by simp; omega)]
   simp
  | succ k =>
   rw [List.getElem?_append_right (by simp; omega)]
   rw [show (k + 1) * 2 + j - [Value.int .i64 p.1, Value.int .i32 p.2].length = k * 2 + j by simp; omega, ih k j (by simpa using hk) hj]
   rfl
abbrev StepsIn (S : Nat → Prop) (w : World) (A : Option Addr) (l : List (Int × Int)) : Prop := Sl S w 2 A l.length (stepCells l)
theorem StepsIn.at_ {S : Nat → Prop} {w : World} {A : Option Addr} {l : List (Int × Int)} (h : StepsIn S w A l) {k : Nat} (hk : k < l.length) :
 ∃ b o, A = some ⟨b, o, none⟩ ∧ S b ∧ w.cell? ⟨b, o + k * 2, none⟩ = some (.int .i64 l[k].1) ∧ w.cell? ⟨b, o + k * 2 + 1, none⟩ = some (.int .i32 l[k].2) := by
 obtain ⟨b, o, e, hb, hc⟩ := h.2 (by omega)
 refine ⟨b, o, e, hb, ?_, ?_⟩
 · exact hc (k * 2) _ (by rw [show k * 2 = k * 2 + 0 from rfl, hj_ l k 0 hk (by omega)]; rfl)
 · exact hc (k * 2 + 1) _ (by rw [hj_ l k 1 hk (by omega)]; rfl)
theorem re_ (ps : List PartD) (k : Nat) (hk : k < ps.length) : stepsOf (ps.take (k + 1)) = stepsOf (ps.take k) ++ partSteps ps[k] := by
 unfold stepsOf
 rw [List.take_succ_eq_append_getElem hk, List.flatMap_append]
 simp
theorem ui_ (ps : List PartD) (k : Nat) : (stepsOf (ps.take k)).length ≤ (stepsOf ps).length := by
 have h : stepsOf ps = stepsOf (ps.take k) ++ stepsOf (ps.drop k) := by
  unfold stepsOf
  rw [← List.flatMap_append, List.take_append_drop]
 rw [h]
 simp
def RetSteps (w : World) (l : List (Int × Int)) (e : Ending) (w' : World) : Prop :=
 ∃ A c, e = .returned (.slice A l.length c) ∧ w'.ownsRow w.heap.size 161 2 (.slice A l.length c) l.length (stepCells l) ∧ Below w.heap.size w w'
theorem he_ (x : Int × Int) : ∀ u ∈ [Value.int .i64 x.1, Value.int .i32 x.2], u.oneCell' = true := by
 intro u hu
 simp only [List.mem_cons, List.not_mem_nil, or_false] at hu
 rcases hu with rfl | rfl <;> rfl
structure RunesAt (w : World) (g : Nat) (rs : List Int) : Prop where
 lt : g < w.heap.size
 cells : ∀ j u, (rs.map (Value.int .i32))[j]? = some u → w.cell? ⟨g, 0 + j, none⟩ = some u
theorem RunesAt.grown {w w' : World} {g : Nat} {rs : List Int} {row : Option Nat} (h : RunesAt w g rs) (hg : w.grownBy w' row) (hr : row ≠ some g) : RunesAt w' g rs :=
 ⟨Nat.lt_of_lt_of_le h.lt hg.size, fun j u hu => (World.cell?_of_block (w := w) (a := ⟨g, 0 + j, none⟩) (hg.block g h.lt (fun e => hr e.symm))).trans (h.cells j u hu)⟩
theorem RunesAt.alloc {w : World} {g : Nat} {rs : List Int} (h : RunesAt w g rs) (o : Obj) : RunesAt (w.alloc o) g rs :=
 ⟨by simp; have := h.lt; omega, fun j u hu => (World.cell?_of_block (w := w) (a := ⟨g, 0 + j, none⟩) (((Below.refl w.heap.size w).alloc (Nat.le_refl _) o).block g h.lt)).trans (h.cells j u hu)⟩
theorem RunesAt.new (w : World) (s : ByteArray) (n : Nat) (t : TypeId) : RunesAt (w.alloc (.cells (Conv.runesFrom s s.size 0 #[] ++ Array.replicate n (.int .i32 0)) t)) w.heap.size (runesOf s) := by
 refine ⟨by simp, fun j u hu => ?_⟩
 rw [World.cell?_alloc_new, li_]
 have hj := (List.getElem?_eq_some_iff.1 hu).1
 rw [Nat.zero_add, Array.getElem?_append_left (by simpa using hj)]
 simpa using hu
theorem RunesAt.drew {w : World} {g : Nat} {rs : List Int} (h : RunesAt w g rs) : RunesAt w.drew g rs := ⟨h.lt, h.cells⟩
theorem ej_ (rs : List Int) (k : Nat) (hk : k < rs.length) : (rs.map (Value.int .i32))[k]? = some (.int .i32 (rs.getD k 0)) := by
 simp [List.getElem?_eq_getElem hk, List.getD_eq_getElem?_getD]
theorem uj_ (l : List Int) (k : Nat) (h : k < l.length) : l.take (k + 1) = l.take k ++ [l.getD k 0] := by
 rw [List.take_succ_eq_append_getElem h]
 simp [List.getD_eq_getElem?_getD, List.getElem?_eq_getElem h]
theorem insSteps (s : ByteArray) (n : Int) : partSteps ⟨2, n, s⟩ = (runesOf s).map (fun r => (2, r)) := rfl
theorem othSteps (k n : Int) (s : ByteArray) (h : (k == 2) = false) : partSteps ⟨k, n, s⟩ = List.replicate n.toNat (k, 0) := if_neg (by simpa using h)
theorem xu_ {A A' : Option Addr} {n n' c c' x g : Nat} (h : (Value.slice A' n' c').ownBlock = (Value.slice A n c).ownBlock ∨ (Value.slice A' n' c').ownBlock = some x) (h1 : (Value.slice A n c).ownBlock ≠ some g) (h2 : g < x) : (Value.slice A' n' c').ownBlock ≠ some g := by
 rcases h with e | e
 · rw [e]; exact h1
 · rw [e]; intro q; injection q with q; omega
theorem mw_ (w : World) (A : Option Addr) (c : Nat) (ps : List PartD) (hs : OpIn (· < w.heap.size) w A ps) (hm : ps.length ≤ 1048576) (ht : ∀ p ∈ ps, p.text.size ≤ 1048576) (hl : (stepsOf ps).length ≤ 1048576) :
 Calls Tryz.prog 106 #[.slice A ps.length c] w (RetSteps w (stepsOf ps)) := by
 obtain ⟨i0, hi, hz0, hz1, hz2⟩ := info_parts infoStep
 have HT := h_ ht
 clear ht
 go_enter Tryz.func106, Tryz.ntmps106
 go_wp2
 go_loopw [3, 4, 5, 6, 7] (fun out i _ _ _ wr => ∃ (k : Nat) (Ao : Option Addr) (co : Nat), k ≤ ps.length ∧ i = .int .i64 k ∧ out = .slice Ao (stepsOf (ps.take k)).length co ∧ wr.ownsRow w.heap.size 161 2 (.slice Ao (stepsOf (ps.take k)).length co) (stepsOf (ps.take k)).length (stepCells (stepsOf (ps.take k))) ∧ Below w.heap.size w wr)
  (fun _ i _ _ _ _ => ps.length - (intOf i).toNat)
 case atStart => exact ⟨0, none, 0, Nat.zero_le _, rfl, by simp [stepsOf], by simpa [stepsOf, stepCells] using World.ownsRow_nil _ _ _ _, Below.refl _ _⟩
 case round =>
  obtain ⟨wo, rfl⟩ : ∃ wo : World, wo = wr := ⟨_, rfl⟩
  obtain ⟨k, Ao, co, hk, rfl, rfl, hown, hbw⟩ := hrel
  by_cases hlt : k < ps.length
  · obtain ⟨b, o, rfl, hbs, h0, h1, h2⟩ := OpIn.at_ (ps := ps) (Sl.later hs hbw) hlt
    have HC := h_ (OpIn.at_ (ps := ps) hs hlt)
    have HL := h_ (re_ ps k hlt)
    have hle := ui_ ps (k + 1)
    have htx : ps[k].text.size ≤ 1048576 := HT.out _ (List.getElem_mem hlt)
    rw [HL.out, List.length_append] at hle
    generalize ps[k] = p at *
    generalize stepsOf (ps.take k) = pre at *
    obtain ⟨kd, pn, tx⟩ := p
    dsimp only at *
    by_cases hk2 : kd = 2
    · subst hk2
      rw [insSteps, List.length_map] at hle
      have HP := h_ (insSteps tx pn)
      have hcv := fun wx => convRunes (w := wx) htx
      have hrl := ba_ tx
      generalize hG : runesOf tx = rs at *
      rw [← hrl] at hcv
      clear hrl
      go_wp2
      have hra : RunesAt (wo.alloc (.cells (Conv.runesFrom tx tx.size 0 #[] ++ Array.replicate (grownCap wo rs.length 0 21 - rs.length) (.int .i32 0)) 21)).drew wo.heap.size rs := by
       have := RunesAt.new wo tx (grownCap wo rs.length 0 21 - rs.length) 21
       rw [hG] at this
       exact this.drew
      have hbn : (Value.slice Ao pre.length co).ownBlock ≠ some wo.heap.size := by
       intro e
       have := (hown.lt _ e).2
       omega
      clear hG
      go_loopw [3, 6] (fun out j wr => ∃ (q : Nat) (Ao : Option Addr) (co : Nat), q ≤ rs.length ∧ j = .int .i64 q ∧ out = .slice Ao (pre.length + q) co ∧ wr.ownsRow w.heap.size 161 2 (.slice Ao (pre.length + q) co) (pre.length + q) (stepCells (pre ++ (rs.take q).map (fun r => (2, r)))) ∧ (Value.slice Ao (pre.length + q) co).ownBlock ≠ some wo.heap.size ∧ RunesAt wr wo.heap.size rs ∧ Below w.heap.size w wr)
       (fun _ j _ => rs.length - (intOf j).toNat)
      case atStart => exact ⟨0, Ao, co, Nat.zero_le _, rfl, rfl, by simpa using (hown.alloc _).drew, hbn, hra, (bAlloc hbw _).drew⟩
      case round =>
       obtain ⟨q, Aq, cq, hq, rfl, rfl, hownq, hbnq, hraq, hbq⟩ := hrel
       by_cases hqlt : q < rs.length
       · have hcq := hraq.cells q _ (ej_ rs q hqlt)
         rw [Nat.zero_add] at hcq
         have hQ := uj_ rs q hqlt
         obtain ⟨x, hx⟩ : ∃ x, x = rs.getD q 0 := ⟨_, rfl⟩
         rw [← hx] at hcq hQ
         have HQ := h_ hQ
         have HR := h_ hraq
         clear hx hQ hcv hraq
         go_wp2_with (at_builtin; refine j_ _ rfl _ _ 158 rfl w.heap.size 161 i0 (.agg #[.int .i64 0, .int .i32 0]) 2 16 Tryz.underlying158 hi hz0 hz1 hz2 rfl (by decide) _ _ _ rfl (hownq.alloc _) (fun _ => True) _ _ _ _ rfl (Sl.new wr [.int .i64 2, .int .i32 x] 161 2 1 rfl trivial) ?c1 ?c2 ?c3 ?c4 ?_)
         case c1 => exact he_ (2, x)
         case c2 => unfold maxLen; omega
         case c3 => omega
         case c4 => have := hbq.size; simp; omega
         · intro A' c' w1 hown' hgrow hat
           go_wp2
           go_roundw
           case rel => exact ⟨q + 1, A', c', by omega, by go_num, rfl, by rw [HQ.out]; simpa [stepCells, Nat.add_assoc] using hown', xu_ hat hbnq (by have := HR.out.lt; simp; omega), (HR.out.alloc _).grown hgrow hbnq, (bAlloc hbq _).grown hgrow (by have := hbq.size; simp; omega) (fun g hg => (hownq.lt g hg).1)⟩
           case measure => simp [intOf]; omega
       · obtain rfl : q = rs.length := by omega
         rw [List.take_length] at hownq
         go_wp2
         go_roundw
         case rel => exact ⟨k + 1, Aq, cq, by omega, by go_num, by rw [HL.out, HP.out, List.length_append, List.length_map], by rw [HL.out, HP.out]; simpa using hownq, hbq⟩
         case measure => simp [intOf]; omega
    · have e2 : (kd == 2) = false := by simpa using hk2
      have HP := h_ (othSteps kd pn tx e2)
      rw [HP.out, List.length_replicate] at hle
      go_wp2
      go_loopw [3, 7] (fun out j wr => ∃ (q : Nat) (Ao : Option Addr) (co : Nat), q ≤ pn.toNat ∧ j = .int .i64 q ∧ out = .slice Ao (pre.length + q) co ∧ wr.ownsRow w.heap.size 161 2 (.slice Ao (pre.length + q) co) (pre.length + q) (stepCells (pre ++ List.replicate q (kd, 0))) ∧ Below w.heap.size w wr)
       (fun _ j _ => pn.toNat - (intOf j).toNat)
      case atStart => exact ⟨0, Ao, co, Nat.zero_le _, rfl, rfl, by simpa using hown, hbw⟩
      case round =>
       obtain ⟨q, Aq, cq, hq, rfl, rfl, hownq, hbq⟩ := hrel
       obtain ⟨b', o', heq, hbs', g0, g1, g2⟩ := HC.out
       injection heq with heq
       injection heq with e3 e4
       subst e3 e4
       have g0' := (hbq.cell (p := ⟨b, o + k * 3, none⟩) hbs').trans g0
       have g1' := (hbq.cell (p := ⟨b, o + k * 3 + 1, none⟩) hbs').trans g1
       clear g0 g1 g2 h0 h1 h2
       by_cases hqlt : (q : Int) < pn
       · go_wp2_with (at_builtin; refine j_ _ rfl _ _ 158 rfl w.heap.size 161 i0 (.agg #[.int .i64 0, .int .i32 0]) 2 16 Tryz.underlying158 hi hz0 hz1 hz2 rfl (by decide) _ _ _ rfl (hownq.alloc _) (fun _ => True) _ _ _ _ rfl (Sl.new wr [.int .i64 kd, .int .i32 0] 161 2 1 rfl trivial) ?c1 ?c2 ?c3 ?c4 ?_)
         case c1 => simp [Value.oneCell']
         case c2 => unfold maxLen; omega
         case c3 => omega
         case c4 => have := hbq.size; simp; omega
         · intro A' c' w1 hown' hgrow hat
           go_wp2
           go_roundw
           case rel => exact ⟨q + 1, A', c', by omega, by go_num, rfl, by rw [List.replicate_succ']; simpa [stepCells, Nat.add_assoc] using hown', (bAlloc hbq _).grown hgrow (by have := hbq.size; simp; omega) (fun g hg => (hownq.lt g hg).1)⟩
           case measure => simp [intOf]; omega
       · obtain rfl : q = pn.toNat := by omega
         have hd : decide (((pn.toNat : Nat) : Int) < pn) = false := by simp; omega
         go_wp2
         go_roundw
         case rel => exact ⟨k + 1, Aq, cq, by omega, by go_num, by rw [HL.out, HP.out, List.length_append, List.length_replicate], by rw [HL.out, HP.out]; simpa using hownq, hbq⟩
         case measure => simp [intOf]; omega
  · obtain rfl : k = ps.length := by omega
    rw [List.take_length] at hown
    go_wp2
    go_ret
    exact ⟨Ao, co, by simp, hown, hbw⟩
end Go.Proofs.YtacacoklddogmaaGreatDoor
namespace Go.Proofs.YtacacoklddogmaaGreatDoor
set_option maxHeartbeats 4000000
open Go.RowKit Go.Lib
def appRunes (r : List Int) : List PartD → Nat → List Int
 | [], _ => []
 | p :: ps, at_ => if p.kind = 2 then runesOf p.text ++ appRunes r ps at_ else if p.kind = 1 then (r.drop at_).take p.n.toNat ++ appRunes r ps (at_ + p.n.toNat) else appRunes r ps (at_ + p.n.toNat)
def appSteps (r : List Int) : List (Int × Int) → Nat → List Int
 | [], _ => []
 | x :: l, at_ => if x.1 = 2 then x.2 :: appSteps r l at_ else if x.1 = 1 then r.getD at_ 0 :: appSteps r l (at_ + 1) else appSteps r l (at_ + 1)
theorem dq_ (r : List Int) (x : Int × Int) (l : List (Int × Int)) (at_ : Nat) : appSteps r (x :: l) at_ = if x.1 = 2 then x.2 :: appSteps r l at_ else if x.1 = 1 then r.getD at_ 0 :: appSteps r l (at_ + 1) else appSteps r l (at_ + 1) := rfl
theorem sl_ (r : List Int) (l : List (Int × Int)) (at_ : Nat) : ∀ rs : List Int, appSteps r (rs.map (fun x => ((2 : Int), x)) ++ l) at_ = rs ++ appSteps r l at_
 | [] => rfl
 | x :: rs => by
  rw [List.map_cons, List.cons_append]
  rw [dq_, if_pos rfl, sl_ r l at_ rs]
  rfl
theorem px_ (r : List Int) (l : List (Int × Int)) : ∀ (n at_ : Nat), at_ + n ≤ r.length → appSteps r (List.replicate n ((1 : Int), (0 : Int)) ++ l) at_ = (r.drop at_).take n ++ appSteps r l (at_ + n)
 | 0, at_, _ => by simp
 | n + 1, at_, h => by
  rw [List.replicate_succ, List.cons_append]
  rw [dq_, if_neg (by decide), if_pos rfl, px_ r l n _ (by omega), List.drop_eq_getElem_cons (show at_ < r.length by omega), List.take_succ_cons]
  rw [List.getD_eq_getElem?_getD, List.getElem?_eq_getElem (show at_ < r.length by omega)]
  rw [show at_ + 1 + n = at_ + (n + 1) by omega]
  rfl
theorem sk_ (r : List Int) (k : Int) (h1 : k ≠ 1) (h2 : k ≠ 2) (l : List (Int × Int)) : ∀ (n at_ : Nat), appSteps r (List.replicate n (k, (0 : Int)) ++ l) at_ = appSteps r l (at_ + n)
 | 0, at_ => by simp
 | n + 1, at_ => by
  rw [List.replicate_succ, List.cons_append]
  rw [dq_, if_neg h2, if_neg h1, sk_ r k h1 h2 l n, show at_ + 1 + n = at_ + (n + 1) by omega]
def fromN : List PartD → Nat
 | [] => 0
 | p :: ps => (if p.kind = 2 then 0 else p.n.toNat) + fromN ps
theorem if_ (r : List Int) : ∀ (ps : List PartD) (at_ : Nat), okParts ps → at_ + fromN ps ≤ r.length → appSteps r (stepsOf ps) at_ = appRunes r ps at_
 | [], _, _, _ => rfl
 | p :: ps, at_, ⟨hp, _, hps⟩, hle => by
  rw [cj_]
  unfold appRunes partSteps
  unfold fromN at hle
  by_cases h2 : p.kind = 2
  · rw [if_pos h2, if_pos h2, sl_, if_ r ps at_ hps (by rw [if_pos h2] at hle; omega)]
  · obtain ⟨hk, _, _, _⟩ := bw_ hp h2
    rw [if_neg h2] at hle
    rw [if_neg h2, if_neg h2]
    by_cases h1 : p.kind = 1
    · rw [if_pos h1, h1, px_ r _ _ _ (by omega), if_ r ps _ hps (by omega)]
    · rw [if_neg h1, sk_ r _ h1 h2, if_ r ps _ hps (by omega)]
theorem cs_ {x : Int} (h1 : -9223372036854775808 ≤ x) (h2 : x ≤ 9223372036854775807) : wrap64 x = x := by
 unfold wrap64
 omega
def toN : List PartD → Nat
 | [] => 0
 | p :: ps => (if p.kind = 2 then Lib.runeCount p.text else if p.kind = 1 then p.n.toNat else 0) + toN ps
theorem cl_ {s : ByteArray} (h : textFault s = 0) : Lib.runeCount s ≤ 4000 ∧ validD s.data.toList = true := by
 unfold textFault at h
 by_cases hv : validD s.data.toList = false
 · rw [if_pos hv] at h
   cases h
 · rw [if_neg hv] at h
   by_cases h4 : 4000 < Lib.runeCount s
   · rw [if_pos h4] at h
     cases h
   · exact ⟨by omega, by simpa using hv⟩
theorem sb_ (p : PartD) (a b : Nat) (hp : partFault p = 0) (hle : a + b ≤ 9000000000000000000) :
 lenStep ((a : Int), (b : Int)) p = (((a + (if p.kind = 2 then 0 else p.n.toNat) : Nat) : Int), ((b + (if p.kind = 2 then Lib.runeCount p.text else if p.kind = 1 then p.n.toNat else 0) : Nat) : Int)) := by
 by_cases h2 : p.kind = 2
 · obtain ⟨_, ht, _⟩ := fl_ hp h2
   obtain ⟨hr, _⟩ := cl_ ht
   rw [show lenStep ((a : Int), (b : Int)) p = ((a : Int), wrap64 ((b : Int) + Lib.runeCount p.text)) by unfold lenStep; rw [if_neg (by omega), if_pos h2]]
   rw [cs_ (by omega) (by omega), if_pos h2, if_pos h2]
   exact Prod.ext (by simp) (by simp)
 · obtain ⟨hk, hn1, hn2, _⟩ := bw_ hp h2
   rw [if_neg h2, if_neg h2]
   by_cases h1 : p.kind = 1
   · rw [show lenStep ((a : Int), (b : Int)) p = (wrap64 ((a : Int) + p.n), wrap64 ((b : Int) + p.n)) by unfold lenStep; rw [if_pos h1]]
     rw [cs_ (by omega) (by omega), cs_ (by omega) (by omega), if_pos h1]
     exact Prod.ext (by simp only []; omega) (by simp only []; omega)
   · rw [show lenStep ((a : Int), (b : Int)) p = (wrap64 ((a : Int) + p.n), (b : Int)) by unfold lenStep; rw [if_neg h1, if_neg h2, if_pos (by omega)]]
     rw [cs_ (by omega) (by omega), if_neg h1]
     exact Prod.ext (by simp only []; omega) (by simp)
theorem qm_ : ∀ (ps : List PartD) (a b : Nat), okParts ps → a + b + ps.length * 8000 ≤ 9000000000000000000 → ps.foldl lenStep ((a : Int), (b : Int)) = (((a + fromN ps : Nat) : Int), ((b + toN ps : Nat) : Int))
 | [], a, b, _, _ => by simp [fromN, toN]
 | p :: ps, a, b, ⟨hp, _, hps⟩, hle => by
  simp only [List.length_cons] at hle
  have hb : (if p.kind = 2 then 0 else p.n.toNat) + (if p.kind = 2 then Lib.runeCount p.text else if p.kind = 1 then p.n.toNat else 0) ≤ 8000 := by
   by_cases h2 : p.kind = 2
   · have := (cl_ (fl_ hp h2).2.1).1
     rw [if_pos h2, if_pos h2]
     omega
   · obtain ⟨_, hn1, hn2, _⟩ := bw_ hp h2
     rw [if_neg h2, if_neg h2]
     split <;> omega
  rw [List.foldl_cons, sb_ p a b hp (by omega), qm_ ps _ _ hps (by omega)]
  rw [show fromN (p :: ps) = (if p.kind = 2 then 0 else p.n.toNat) + fromN ps from rfl, show toN (p :: ps) = (if p.kind = 2 then Lib.runeCount p.text else if p.kind = 1 then p.n.toNat else 0) + toN ps from rfl, Nat.add_assoc, Nat.add_assoc]
theorem ze_ {ps : List PartD} (h : okParts ps) (hl : ps.length ≤ 8001) : (lens ps).1 = (fromN ps : Int) ∧ (lens ps).2 = (toN ps : Int) := by
 have := qm_ ps 0 0 h (by omega)
 unfold lens
 rw [show ((0 : Int), (0 : Int)) = (((0 : Nat) : Int), ((0 : Nat) : Int)) from rfl, this]
 simp
theorem ff_ {ps : List PartD} (h : opFault ps = 0) : (lens ps).1 = (fromN ps : Int) ∧ (lens ps).2 = (toN ps : Int) ∧ fromN ps ≤ 4000 ∧ toN ps ≤ 4000 := by
 obtain ⟨h8, hok, h1, h2⟩ := bx_ h
 obtain ⟨e1, e2⟩ := ze_ hok h8
 exact ⟨e1, e2, by omega, by omega⟩
theorem cq_ : ∀ {ps : List PartD}, okParts ps → (stepsOf ps).length ≤ fromN ps + toN ps
 | [], _ => by simp [stepsOf]
 | p :: ps, ⟨hp, _, hps⟩ => by
  rw [cj_, List.length_append]
  have ih := cq_ hps
  unfold fromN toN partSteps
  by_cases h2 : p.kind = 2
  · rw [if_pos h2, if_pos h2, if_pos h2, List.length_map, ba_]
    omega
  · rw [if_neg h2, if_neg h2, if_neg h2, List.length_replicate]
    omega
def applyErr (s : ByteArray) (ps : List PartD) : Int := if textFault s ≠ 0 then textFault s else if opFault ps ≠ 0 then opFault ps else if (lens ps).1 ≠ (Lib.runeCount s : Int) then 10 else 0
def applyText (s : ByteArray) (ps : List PartD) : ByteArray := if applyErr s ps = 0 then runesBytes (appRunes (runesOf s) ps 0) else ⟨#[]⟩
end Go.Proofs.YtacacoklddogmaaGreatDoor
