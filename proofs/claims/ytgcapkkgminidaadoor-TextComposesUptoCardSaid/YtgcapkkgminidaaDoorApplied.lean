/-
  Contracts of text.Apply at every argument, and of its reference Applied.
-/
import Derived.Test.YtgcapkkgminidaaDoorRows
import Derived.Test.YtgcapkkgminidaaDoorApply
namespace Go.Proofs.YtgcapkkgminidaaDoor
open Go.ChangeShapes Go.WideShapes Go.ChangeAt Go.RowKit
set_option maxRecDepth 100000
/-- What Apply and its reference hand back. -/
def RetApply (w : World) (s : ByteArray) (ps : List PartD) (e : Ending) (w' : World) : Prop :=
  e = .returned (.tuple #[.string (applyText s ps), .int .i64 (applyErr s ps)]) ∧ Below w.heap.size w w'
theorem applyErr_text {s : ByteArray} {ps : List PartD} (h : textFault s ≠ 0) : applyErr s ps = textFault s ∧ applyText s ps = ⟨#[]⟩ := by
  have e : applyErr s ps = textFault s := if_pos h
  exact ⟨e, by unfold applyText; rw [e, if_neg h]⟩
theorem applyErr_op {s : ByteArray} {ps : List PartD} (h : textFault s = 0) (h2 : opFault ps ≠ 0) : applyErr s ps = opFault ps ∧ applyText s ps = ⟨#[]⟩ := by
  have e : applyErr s ps = opFault ps := by unfold applyErr; rw [if_neg (by simpa using h), if_pos h2]
  exact ⟨e, by unfold applyText; rw [e, if_neg h2]⟩
theorem applyErr_len {s : ByteArray} {ps : List PartD} (h : textFault s = 0) (h2 : opFault ps = 0) (h3 : (lens ps).1 ≠ (Lib.runeCount s : Int)) : applyErr s ps = 10 ∧ applyText s ps = ⟨#[]⟩ := by
  have e : applyErr s ps = 10 := by unfold applyErr; rw [if_neg (by simpa using h), if_neg (by simpa using h2), if_pos h3]
  exact ⟨e, by unfold applyText; rw [e, if_neg (by decide)]⟩
theorem applyErr_ok {s : ByteArray} {ps : List PartD} (h : textFault s = 0) (h2 : opFault ps = 0) (h3 : (lens ps).1 = (Lib.runeCount s : Int)) : applyErr s ps = 0 ∧ applyText s ps = runesBytes (appRunes (runesOf s) ps 0) := by
  have e : applyErr s ps = 0 := by unfold applyErr; rw [if_neg (by simpa using h), if_neg (by simpa using h2), if_neg (by simpa using h3)]
  exact ⟨e, by unfold applyText; rw [if_pos e]⟩
theorem Apply_c (w : World) (s : ByteArray) (A : Option Addr) (c : Nat) (ps : List PartD) (hT : Tabs w) (hs : OpIn (· < w.heap.size) w A ps) (hm : ps.length ≤ 1048576) (ht : ∀ p ∈ ps, p.text.size ≤ 1048576) (hst : s.size ≤ 1048576) :
    Calls Tryd.prog 40 #[.string s, .slice A ps.length c] w (RetApply w s ps) := by
  have hC1 := CheckText_c s
  have hC2 := fun W hT hs => Check_c W A c ps hT hs hm ht
  by_cases h1 : textFault s = 0
  · by_cases h2 : opFault ps = 0
    · by_cases h3 : (lens ps).1 = (Lib.runeCount s : Int)
      · obtain ⟨e1, e2⟩ := applyErr_ok h1 h2 h3
        unfold RetApply
        rw [e1, e2]
        exact Apply_go w s A c ps hT hs hm ht hst h1 h2 h3
      · obtain ⟨e1, e2⟩ := applyErr_len h1 h2 h3
        unfold RetApply
        rw [e1, e2]
        have hC3 := fun W hs => Lengths_c W A c ps hs hm ht
        rw [h1] at hC1
        rw [h2] at hC2
        have hcv := fun wx => convRunes (w := wx) hst
        have hd : ((lens ps).1 != (Lib.runeCount s : Int)) = true := by simpa using h3
        generalize lens ps = L at *
        obtain ⟨L1, L2⟩ := L
        dsimp only at *
        have HC1 := Lib.hid hC1
        have HC2 := Lib.hid hC2
        have HC3 := Lib.hid hC3
        clear hC1 hC2 hC3 h1 h2 h3 ht e1 e2
        go_enter Tryd.func40, Tryd.ntmps40
        go_wp2_with fail
        refine (HC1.out _ hT hst).mono ?_
        rintro e w1 ⟨rfl, hb1⟩
        have HT1 := Lib.hid (hT.later hb1)
        have HS1 := Lib.hid (Sl.later hs hb1)
        go_wp2_with fail
        refine (HC2.out _ HT1.out HS1.out).mono ?_
        rintro e w2 ⟨rfl, hb2⟩
        have HB2 := Lib.hid (bThen hb1 hb2)
        have HS2 := Lib.hid (Sl.later HS1.out hb2)
        clear hb1 hb2
        go_wp2_with fail
        refine (HC3.out _ (Sl.later HS2.out (bAlloc (Below.refl _ _) _).drew)).mono ?_
        rintro e w3 ⟨rfl, hb3⟩
        have HB3 := Lib.hid (bThen (bThen HB2.out (bAlloc (Below.refl _ _) _).drew) hb3)
        clear hb3 hcv
        go_wp2_with fail
        go_ret2
        exact ⟨rfl, HB3.out⟩
    · obtain ⟨e1, e2⟩ := applyErr_op h1 h2
      unfold RetApply
      rw [e1, e2]
      rw [h1] at hC1
      have hd : (opFault ps != 0) = true := by simpa using h2
      generalize opFault ps = x at *
      have HC1 := Lib.hid hC1
      have HC2 := Lib.hid hC2
      clear hC1 hC2 h1 h2 ht e1 e2
      go_enter Tryd.func40, Tryd.ntmps40
      go_wp2_with fail
      refine (HC1.out _ hT hst).mono ?_
      rintro e w1 ⟨rfl, hb1⟩
      have HT1 := Lib.hid (hT.later hb1)
      have HS1 := Lib.hid (Sl.later hs hb1)
      go_wp2_with fail
      refine (HC2.out _ HT1.out HS1.out).mono ?_
      rintro e w2 ⟨rfl, hb2⟩
      go_wp2_with fail
      go_ret2
      exact ⟨rfl, bThen hb1 hb2⟩
  · obtain ⟨e1, e2⟩ := applyErr_text (ps := ps) h1
    unfold RetApply
    rw [e1, e2]
    have hd : (textFault s != 0) = true := by simpa using h1
    generalize textFault s = x at *
    have HC1 := Lib.hid hC1
    clear hC1 hC2 h1 ht e1 e2
    go_enter Tryd.func40, Tryd.ntmps40
    go_wp2_with fail
    refine (HC1.out _ hT hst).mono ?_
    rintro e w1 ⟨rfl, hb1⟩
    go_wp2_with fail
    go_ret2
    exact ⟨rfl, hb1⟩
theorem infoRune : (Tryd.prog.info? 21).map (fun i => (i.zero, i.size, i.bytes)) = some (some (.int .i32 0), 1, 4) := by kernel_rfl
theorem convSl {W : World} {S : Nat → Prop} {A : Option Addr} {n c : Nat} {rs : List Int} (h : Sl S W 1 A n (rs.map (Value.int .i32))) : (convert 82 9 (.slice A n c)).run Tryd.prog W = .ok (.string (runesBytes rs)) W := by
  have hl : rs.length = n := by have := h.1; simpa using this
  rcases A with _ | ad
  · have hn : n = 0 := by
      rcases Nat.eq_zero_or_pos n with q | q
      · exact q
      · obtain ⟨_, _, e, _⟩ := h.2 q
        cases e
    have : rs = [] := List.eq_nil_of_length_eq_zero (by omega)
    subst this
    exact run_convert_runes_nil W 82 9 21 n c Tryd.underlying82 Tryd.underlying21 Tryd.underlying9
  · have key := run_convert_runes (P := Tryd.prog) W 82 9 21 ad n c rs (by omega) Tryd.underlying82 Tryd.underlying21 Tryd.underlying9 (fun j hj => by
      obtain ⟨b, o, e, _, hc⟩ := h.2 (by omega)
      injection e with e
      subst e
      rw [Go.WideShapes.add_plain]
      exact hc j _ (runes_getD rs j hj))
    rw [key, List.take_of_length_le (by omega)]
/-- []rune of a text: the runes lie in a new block. -/
theorem runes_at (s : ByteArray) (hs : s.size ≤ 1048576) (W : World) : ∃ W' c, (convert 9 82 (.string s)).run Tryd.prog W = .ok (.slice (some ⟨W.heap.size, 0, none⟩) (runesOf s).length c) W' ∧ Below W.heap.size W W' ∧ RunesAt W' W.heap.size (runesOf s) ∧ (runesOf s).length ≤ c := by
  have h := convRunes (w := W) hs
  rw [← runesOf_length] at h
  exact ⟨_, _, h, bAlloc (Below.refl _ _).drew _, RunesAt.new W.drew s _ _, grownCap_ge _ _ _ _⟩
theorem own_sl' {w : World} {base : Nat} {e : TypeId} {size n c : Nat} {A : Option Addr} {xs : List Value} (h : w.ownsRow base e size (.slice A n c) n xs) : Sl (· < w.heap.size) w size A n xs :=
  (Sl.of_own w h).keep (fun _ hb => hb.2) (fun _ _ => rfl)
/-- How many runes steps begin with. -/
def fromS : List (Int × Int) → Nat
  | [] => 0
  | x :: l => (if x.1 = 2 then 0 else 1) + fromS l
theorem fromS_append (a b : List (Int × Int)) : fromS (a ++ b) = fromS a + fromS b := by
  induction a with
  | nil => simp [fromS]
  | cons x a ih =>
    rw [List.cons_append, show fromS (x :: (a ++ b)) = (if x.1 = 2 then 0 else 1) + fromS (a ++ b) from rfl, show fromS (x :: a) = (if x.1 = 2 then 0 else 1) + fromS a from rfl, ih]
    omega
theorem fromS_ins (rs : List Int) : fromS (rs.map (fun r => ((2 : Int), r))) = 0 := by
  induction rs with
  | nil => rfl
  | cons r rs ih =>
    rw [List.map_cons, show fromS ((2, r) :: rs.map (fun r => ((2 : Int), r))) = 0 + fromS (rs.map (fun r => ((2 : Int), r))) from rfl, ih]
theorem fromS_oth (k : Int) (h : k ≠ 2) (n : Nat) : fromS (List.replicate n (k, 0)) = n := by
  induction n with
  | zero => rfl
  | succ n ih =>
    rw [List.replicate_succ, show fromS ((k, 0) :: List.replicate n (k, 0)) = (if k = 2 then 0 else 1) + fromS (List.replicate n (k, 0)) from rfl, ih, if_neg h]
    omega
theorem fromS_steps : ∀ (ps : List PartD), fromS (stepsOf ps) = fromN ps
  | [] => rfl
  | p :: ps => by
    rw [stepsOf_cons, fromS_append, fromS_steps ps, show fromN (p :: ps) = (if p.kind = 2 then 0 else p.n.toNat) + fromN ps from rfl]
    congr 1
    unfold partSteps
    by_cases h2 : p.kind = 2
    · rw [if_pos h2, if_pos h2, fromS_ins]
    · rw [if_neg h2, if_neg h2, fromS_oth _ h2]
theorem fromS_cons2 {r : Int} {l : List (Int × Int)} : fromS ((2, r) :: l) = 0 + fromS l := rfl
theorem fromS_consO {k r : Int} {l : List (Int × Int)} (h : k ≠ 2) : fromS ((k, r) :: l) = 1 + fromS l := by
  rw [show fromS ((k, r) :: l) = (if k = 2 then 0 else 1) + fromS l from rfl, if_neg h]
theorem appS_ins {r : List Int} {x : Int} {l : List (Int × Int)} {a : Nat} : appSteps r ((2, x) :: l) a = x :: appSteps r l a := rfl
theorem appS_keep {r : List Int} {x : Int} {l : List (Int × Int)} {a : Nat} : appSteps r ((1, x) :: l) a = r.getD a 0 :: appSteps r l (a + 1) := rfl
theorem appS_del {r : List Int} {k x : Int} {l : List (Int × Int)} {a : Nat} (h1 : k ≠ 1) (h2 : k ≠ 2) : appSteps r ((k, x) :: l) a = appSteps r l (a + 1) := by
  rw [appSteps_cons, if_neg h2, if_neg h1]
set_option maxHeartbeats 2000000 in
theorem Applied_go (w : World) (s : ByteArray) (A : Option Addr) (c : Nat) (ps : List PartD) (hT : Tabs w) (hs : OpIn (· < w.heap.size) w A ps) (hm : ps.length ≤ 1048576) (ht : ∀ p ∈ ps, p.text.size ≤ 1048576) (hst : s.size ≤ 1048576)
    (ht0 : textFault s = 0) (hf0 : opFault ps = 0) (hln : (lens ps).1 = (Lib.runeCount s : Int)) :
    Calls Tryd.prog 45 #[.string s, .slice A ps.length c] w fun e w' => e = .returned (.tuple #[.string (runesBytes (appSteps (runesOf s) (stepsOf ps) 0)), .int .i64 0]) ∧ Below w.heap.size w w' := by
  obtain ⟨i0, hi, hz0, hz1, hz2⟩ := info_parts infoRune
  obtain ⟨h8, hok, _, _⟩ := opFault_zero hf0
  obtain ⟨e1, e2, n1, n2⟩ := op_from hf0
  have hrl := runesOf_length s
  have hfr : 0 + fromS ((stepsOf ps).drop 0) = (runesOf s).length := by rw [List.drop_zero, fromS_steps]; omega
  have hsl := stepsOf_length hok
  have hC1 := TextFault_c s
  have hC2 := fun W hT hs => OpFault_c W A c ps hT hs hm ht
  have hC3 := fun W hs => LengthsOf_c W A c ps hs hm ht
  have HC4 := Lib.hid (fun W hs => steps_c W A c ps hs hm ht (by omega))
  rw [ht0] at hC1
  rw [hf0] at hC2
  rw [e1, e2] at hC3
  have HC1 := Lib.hid hC1
  have HC2 := Lib.hid hC2
  have HC3 := Lib.hid hC3
  have HRA := Lib.hid (runes_at s hst)
  have HTOT := Lib.hid (show [] ++ appSteps (runesOf s) ((stepsOf ps).drop 0) 0 = appSteps (runesOf s) (stepsOf ps) 0 by simp)
  have HF0 := Lib.hid hfr
  generalize hTT : appSteps (runesOf s) (stepsOf ps) 0 = T at *
  generalize runesOf s = r at *
  generalize stepsOf ps = l at *
  rw [← hrl] at hln
  have hdec : ((fromN ps : Int) != (r.length : Int)) = false := by simp; omega
  have hr4 : r.length ≤ 4000 := by omega
  have hl8 : l.length ≤ 8000 := by omega
  clear ht0 hf0 hln hC1 hC2 hC3 hok ht e1 e2 hfr hTT hrl hsl
  go_enter Tryd.func45, Tryd.ntmps45
  go_wp2_with fail
  refine (HC1.out _ hT hst).mono ?_
  rintro e w1 ⟨rfl, hb1⟩
  have HT1 := Lib.hid (hT.later hb1)
  have HS1 := Lib.hid (Sl.later hs hb1)
  go_wp2_with fail
  refine (HC2.out _ HT1.out HS1.out).mono ?_
  rintro e w2 ⟨rfl, hb2⟩
  have HB2 := Lib.hid (bThen hb1 hb2)
  have HS2 := Lib.hid (Sl.later HS1.out hb2)
  clear hb1 hb2 hT HT1 HS1
  go_wp2_with fail
  refine (HC3.out _ HS2.out).mono ?_
  rintro e w3 ⟨rfl, hb3⟩
  have HB3 := Lib.hid (bThen HB2.out hb3)
  have HS3 := Lib.hid (Sl.later HS2.out hb3)
  clear hb3
  obtain ⟨W4, c4, hcv1, hb4, _, _⟩ := HRA.out w3
  obtain ⟨W5, c5, hcv2, hb5, hra5, hc5⟩ := HRA.out W4
  have HB5 := Lib.hid (bThen (bThen HB3.out hb4) hb5)
  have HS5 := Lib.hid (Sl.later (Sl.later HS3.out hb4) hb5)
  have HRA5 := Lib.hid hra5
  clear hra5 hb4 hb5
  go_wp2_with fail
  refine (HC4.out _ HS5.out).mono ?_
  rintro e w6 ⟨A6, c6, rfl, hown6, hb6⟩
  have HB6 := Lib.hid (bThen HB5.out hb6)
  have HRA6 := HRA5.out.below hb6 HRA5.out.lt
  have HST := own_sl' hown6
  have hg6 := HRA6.lt
  have hz6 := HB6.out.size
  clear hb6 hown6 hcv1 hcv2 HRA5 HRA HS5
  generalize hG : W4.heap.size = g at *
  clear hG
  go_wp2_with fail
  go_loopw [11, 12, 13] (fun o_ at_ i wr => ∃ (k a : Nat) (out : List Int) (Ao : Option Addr) (co : Nat), k ≤ l.length ∧ i = .int .i64 k ∧ at_ = .int .i64 a ∧ o_ = .slice Ao out.length co ∧ out.length ≤ k ∧ a + fromS (l.drop k) = r.length ∧ Hid (out ++ appSteps r (l.drop k) a = T) ∧ wr.ownsRow w6.heap.size 21 1 (.slice Ao out.length co) out.length (out.map (Value.int .i32)) ∧ Below w6.heap.size w6 wr)
    (fun _ _ i _ => l.length - (intOf i).toNat)
  case atStart => exact ⟨0, 0, [], none, 0, Nat.zero_le _, rfl, rfl, rfl, Nat.le_refl _, HF0.out, HTOT, World.ownsRow_nil _ _ _ _, Below.refl _ _⟩
  case round =>
    obtain ⟨k, a, out, Ao, co, hk, rfl, rfl, rfl, hol, hfr, hout, hown, hbw⟩ := hrel
    have hsz := hbw.size
    by_cases hlt : k < l.length
    · obtain ⟨b, o, rfl, hbs', g0, g1⟩ := StepsIn.at_ (Sl.later HST hbw) hlt
      have HD := Lib.hid (List.drop_eq_getElem_cons hlt)
      have HOU := Lib.hid (show out ++ appSteps r (l[k] :: l.drop (k + 1)) a = T by rw [← HD.out]; exact hout.out)
      rw [HD.out] at hfr
      clear hout
      have HFR := Lib.hid hfr
      clear hfr
      generalize l[k] = x at *
      obtain ⟨kd, rr⟩ := x
      dsimp only at *
      by_cases hk2 : kd = 2
      · subst hk2
        have hf2 : a + fromS (l.drop (k + 1)) = r.length := by have := HFR.out; rw [fromS_cons2] at this; omega
        have HF2 := Lib.hid hf2
        have HE := Lib.hid (show (out ++ [rr]) ++ appSteps r (l.drop (k + 1)) a = T by rw [← HOU.out, appS_ins]; simp)
        have HX := Lib.hid (hown.alloc (.cells #[.int .i32 rr] 21))
        have HS := Lib.hid (Sl.new (S := fun _ => True) wr [.int .i32 rr] 21 1 1 rfl trivial)
        clear hf2
        go_wp2_with (at_builtin; refine wpList_append_sl _ rfl _ _ 82 rfl w6.heap.size 21 i0 (.int .i32 0) 1 4 Tryd.underlying82 hi hz0 hz1 hz2 rfl (by decide) _ _ _ rfl HX.out _ _ _ _ _ rfl HS.out ?c1 ?c2 ?c3 ?c4 ?_)
        case c1 => simp [Value.oneCell']
        case c2 => unfold maxLen; omega
        case c3 => omega
        case c4 => simp; omega
        intro A' c' w7 hown' hgrow hat
        go_wp2_with fail
        go_roundw
        case rel => exact ⟨k + 1, a, out ++ [rr], A', c', by omega, by go_num, rfl, by simp, by simp; omega, HF2.out, HE, by simpa using hown', (bAlloc hbw _).grown hgrow (by simp; omega) (fun g hg => (hown.lt g hg).1)⟩
        case measure => simp [intOf]; omega
      · have e2 : (kd == 2) = false := by simpa using hk2
        have hf2 : a + 1 + fromS (l.drop (k + 1)) = r.length := by have := HFR.out; rw [fromS_consO hk2] at this; omega
        have ha : a < r.length := by omega
        have HF2 := Lib.hid hf2
        clear hf2
        by_cases hk1 : kd = 1
        · subst hk1
          have hcell := (hbw.cell (p := ⟨g, 0 + a, none⟩) hg6).trans (HRA6.cells a _ (runes_getD r a ha))
          rw [Nat.zero_add] at hcell
          have HE := Lib.hid (show (out ++ [r.getD a 0]) ++ appSteps r (l.drop (k + 1)) (a + 1) = T by rw [← HOU.out, appS_keep]; simp)
          generalize r.getD a 0 = rv at *
          have HX := Lib.hid (hown.alloc (.cells #[.int .i32 rv] 21))
          have HS := Lib.hid (Sl.new (S := fun _ => True) wr [.int .i32 rv] 21 1 1 rfl trivial)
          clear hk2
          go_wp2_with (at_builtin; refine wpList_append_sl _ rfl _ _ 82 rfl w6.heap.size 21 i0 (.int .i32 0) 1 4 Tryd.underlying82 hi hz0 hz1 hz2 rfl (by decide) _ _ _ rfl HX.out _ _ _ _ _ rfl HS.out ?d1 ?d2 ?d3 ?d4 ?_)
          case d1 => simp [Value.oneCell']
          case d2 => unfold maxLen; omega
          case d3 => omega
          case d4 => simp; omega
          intro A' c' w7 hown' hgrow hat
          go_wp2_with fail
          go_roundw
          case rel => exact ⟨k + 1, a + 1, out ++ [rv], A', c', by omega, by go_num, by go_num, by simp, by simp; omega, HF2.out, HE, by simpa using hown', (bAlloc hbw _).grown hgrow (by simp; omega) (fun g hg => (hown.lt g hg).1)⟩
          case measure => simp [intOf]; omega
        · have e1 : (kd == 1) = false := by simpa using hk1
          have HE := Lib.hid (show out ++ appSteps r (l.drop (k + 1)) (a + 1) = T by rw [← HOU.out, appS_del hk1 hk2])
          clear hk1 hk2
          go_wp2_with fail
          go_roundw
          case rel => exact ⟨k + 1, a + 1, out, Ao, co, by omega, by go_num, by go_num, rfl, by omega, HF2.out, HE, hown, hbw⟩
          case measure => simp [intOf]; omega
    · obtain rfl : k = l.length := by omega
      have HX := Lib.hid (show T = out by have := hout.out; rw [List.drop_length] at this; simpa [appSteps] using this.symm)
      have hcv := convSl (c := co) (own_sl' hown)
      go_wp2_with fail
      go_ret2
      exact ⟨by rw [HX.out]; rfl, bThen HB6.out hbw⟩
theorem Applied_c (w : World) (s : ByteArray) (A : Option Addr) (c : Nat) (ps : List PartD) (hT : Tabs w) (hs : OpIn (· < w.heap.size) w A ps) (hm : ps.length ≤ 1048576) (ht : ∀ p ∈ ps, p.text.size ≤ 1048576) (hst : s.size ≤ 1048576) :
    Calls Tryd.prog 45 #[.string s, .slice A ps.length c] w (RetApply w s ps) := by
  have hC1 := TextFault_c s
  have hC2 := fun W hT hs => OpFault_c W A c ps hT hs hm ht
  have HC3 := Lib.hid (fun W hs => LengthsOf_c W A c ps hs hm ht)
  by_cases h1 : textFault s = 0
  · by_cases h2 : opFault ps = 0
    · by_cases h3 : (lens ps).1 = (Lib.runeCount s : Int)
      · obtain ⟨e1, e2⟩ := applyErr_ok h1 h2 h3
        unfold RetApply
        rw [e1, e2, ← app_law (runesOf s) ps 0 (opFault_zero h2).2.1 (by have := (op_from h2).1; have := runesOf_length s; omega)]
        exact Applied_go w s A c ps hT hs hm ht hst h1 h2 h3
      · obtain ⟨e1, e2⟩ := applyErr_len h1 h2 h3
        unfold RetApply
        rw [e1, e2]
        rw [h1] at hC1
        rw [h2] at hC2
        have HRA := Lib.hid (runes_at s hst)
        have hrl := runesOf_length s
        rw [← hrl] at h3
        have hd : ((lens ps).1 != ((runesOf s).length : Int)) = true := by simpa using h3
        generalize runesOf s = r at *
        generalize lens ps = L at *
        obtain ⟨L1, L2⟩ := L
        dsimp only at *
        have HC1 := Lib.hid hC1
        have HC2 := Lib.hid hC2
        clear hC1 hC2 h1 h2 h3 ht e1 e2 hrl
        go_enter Tryd.func45, Tryd.ntmps45
        go_wp2_with fail
        refine (HC1.out _ hT hst).mono ?_
        rintro e w1 ⟨rfl, hb1⟩
        have HT1 := Lib.hid (hT.later hb1)
        have HS1 := Lib.hid (Sl.later hs hb1)
        go_wp2_with fail
        refine (HC2.out _ HT1.out HS1.out).mono ?_
        rintro e w2 ⟨rfl, hb2⟩
        have HB2 := Lib.hid (bThen hb1 hb2)
        have HS2 := Lib.hid (Sl.later HS1.out hb2)
        clear hb1 hb2
        go_wp2_with fail
        refine (HC3.out _ HS2.out).mono ?_
        rintro e w3 ⟨rfl, hb3⟩
        have HB3 := Lib.hid (bThen HB2.out hb3)
        clear hb3
        obtain ⟨W4, c4, hcv1, hb4, _, _⟩ := HRA.out w3
        go_wp2_with fail
        go_ret2
        exact ⟨rfl, bThen HB3.out hb4⟩
    · obtain ⟨e1, e2⟩ := applyErr_op h1 h2
      unfold RetApply
      rw [e1, e2]
      rw [h1] at hC1
      have hd : (opFault ps != 0) = true := by simpa using h2
      have hd2 : (opFault ps == 0) = false := by simpa using h2
      generalize opFault ps = x at *
      generalize lens ps = L at *
      obtain ⟨L1, L2⟩ := L
      dsimp only at *
      have HC1 := Lib.hid hC1
      have HC2 := Lib.hid hC2
      clear hC1 hC2 h1 h2 ht e1 e2
      go_enter Tryd.func45, Tryd.ntmps45
      go_wp2_with fail
      refine (HC1.out _ hT hst).mono ?_
      rintro e w1 ⟨rfl, hb1⟩
      have HT1 := Lib.hid (hT.later hb1)
      have HS1 := Lib.hid (Sl.later hs hb1)
      go_wp2_with fail
      refine (HC2.out _ HT1.out HS1.out).mono ?_
      rintro e w2 ⟨rfl, hb2⟩
      have HB2 := Lib.hid (bThen hb1 hb2)
      have HS2 := Lib.hid (Sl.later HS1.out hb2)
      go_wp2_with fail
      refine (HC3.out _ HS2.out).mono ?_
      rintro e w3 ⟨rfl, hb3⟩
      go_wp2_with fail
      go_ret2
      exact ⟨rfl, bThen HB2.out hb3⟩
  · obtain ⟨e1, e2⟩ := applyErr_text (ps := ps) h1
    unfold RetApply
    rw [e1, e2]
    have hd : (textFault s != 0) = true := by simpa using h1
    have hd2 : (textFault s == 0) = false := by simpa using h1
    generalize textFault s = x at *
    generalize lens ps = L at *
    obtain ⟨L1, L2⟩ := L
    dsimp only at *
    have HC1 := Lib.hid hC1
    clear hC1 hC2 h1 ht e1 e2
    go_enter Tryd.func45, Tryd.ntmps45
    go_wp2_with fail
    refine (HC1.out _ hT hst).mono ?_
    rintro e w1 ⟨rfl, hb1⟩
    have HS1 := Lib.hid (Sl.later hs hb1)
    go_wp2_with fail
    refine (HC3.out _ HS1.out).mono ?_
    rintro e w3 ⟨rfl, hb3⟩
    go_wp2_with fail
    go_ret2
    exact ⟨rfl, bThen hb1 hb3⟩
end Go.Proofs.YtgcapkkgminidaaDoor
