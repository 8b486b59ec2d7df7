/- Plain law: which slot a time lies in; which moments lie between two times; what the guard of the laws lets in. -/
import Derived.Test.YtaonabfnagmogaaGDue0
import Derived.Test.YtaonabfnagmogaaSx2
set_option linter.unusedVariables false
set_option linter.unusedSimpArgs false
namespace Go.Proofs.Ytaonabfnagmogaa.M
open Go.RowKit Go.Proofs.Ytaonabfnagmogaa.S Go.Proofs.YtaonabfnagmogaaW.PrintWords Go.Proofs.YtaonabfnagmogaaW.PrintLast
/-- The slot of a time. -/
def sl (I O t : Int) : Int := if t < O then -1 else (t - O) / I
theorem sl_next (I O t : Int) (hI : 0 < I) : sl I O t = sl I O (t - 1) + (if O ≤ t ∧ (t - O) % I = 0 then 1 else 0) := by
  unfold sl
  by_cases h0 : t < O
  · rw [if_pos h0, if_pos (by omega), if_neg (by omega)]; rfl
  · by_cases h1 : t = O
    · subst h1
      rw [if_neg h0, if_pos (by omega), if_pos (by rw [Int.sub_self]; exact ⟨Int.le_refl _, Int.zero_emod _⟩), Int.sub_self, Int.zero_ediv]; rfl
    · rw [if_neg h0, if_neg (by omega)]
      have e := Int.mul_ediv_add_emod (t - 1 - O) I
      have r0 := Int.emod_nonneg (t - 1 - O) (show I ≠ 0 by omega)
      have r1 := Int.emod_lt_of_pos (t - 1 - O) hI
      generalize hq : (t - 1 - O) / I = q at *
      generalize hr : (t - 1 - O) % I = r at *
      have ht : t - O = (r + 1) + I * q := by omega
      rw [ht, Int.add_mul_ediv_left _ _ (by omega), Int.add_mul_emod_self_left]
      by_cases h2 : r + 1 = I
      · rw [h2, Int.ediv_self (by omega), Int.emod_self, if_pos ⟨by omega, rfl⟩]; omega
      · rw [Int.ediv_eq_zero_of_lt (by omega) (by omega), Int.emod_eq_of_lt (by omega) (by omega), if_neg (by omega)]; omega
theorem sl_mono (I O b : Int) (hI : 0 < I) : ∀ d : Nat, sl I O b ≤ sl I O (b + d)
  | 0 => by simp
  | d + 1 => by
    have h := sl_next I O (b + ((d + 1 : Nat) : Int)) hI
    rw [show b + ((d + 1 : Nat) : Int) - 1 = b + (d : Int) by omega] at h
    have ih := sl_mono I O b hI d
    rw [h]
    split <;> omega
theorem sl_le (I O a b : Int) (hI : 0 < I) (h : a ≤ b) : sl I O a ≤ sl I O b := by
  have := sl_mono I O a hI (b - a).toNat
  rwa [show a + ((b - a).toNat : Int) = b by omega] at this
/-- Is a moment among the d times behind b? -/
def mom (I O b : Int) : Nat → Bool
  | 0 => false
  | d + 1 => decide (O ≤ b + ((d + 1 : Nat) : Int) ∧ (b + ((d + 1 : Nat) : Int) - O) % I = 0) || mom I O b d
theorem mom_slot (I O b : Int) (hI : 0 < I) : ∀ d : Nat, mom I O b d = decide (sl I O b < sl I O (b + d))
  | 0 => by simp [mom]
  | d + 1 => by
    have h := sl_next I O (b + ((d + 1 : Nat) : Int)) hI
    rw [show b + ((d + 1 : Nat) : Int) - 1 = b + (d : Int) by omega] at h
    have ih := sl_mono I O b hI d
    rw [mom, mom_slot I O b hI d, h]
    by_cases hp : O ≤ b + ((d + 1 : Nat) : Int) ∧ (b + ((d + 1 : Nat) : Int) - O) % I = 0
    · rw [if_pos hp, decide_eq_true hp, Bool.true_or, decide_eq_true (by omega)]
    · rw [if_neg hp, decide_eq_false hp, Bool.false_or, Int.add_zero]
theorem sl_more (I O t : Int) (hI : 0 < I) (h0 : O ≤ t) : sl I O (t - I) < sl I O t := by
  unfold sl
  rw [if_neg (show ¬ t < O by omega)]
  have hn := Int.ediv_nonneg (show 0 ≤ t - O by omega) (Int.le_of_lt hI)
  by_cases h : t - I < O
  · rw [if_pos h]; omega
  · rw [if_neg h]
    have e : t - O = (t - I - O) + I * 1 := by omega
    rw [e, Int.add_mul_ediv_left _ _ (by omega)]
    omega
/-- The jobs that are asked about. -/
def Right (x : S27) : Prop := 1 ≤ x.f3 ∧ x.f3 ≤ 86400 ∧ 0 ≤ x.f4 ∧ x.f4 < x.f3 ∧ -1 ≤ x.f6 ∧ x.f6 ≤ 1099511627776
theorem slotV_sl (x : S27) (t : Int) (h : 0 < x.f3) (h0 : 0 ≤ x.f4) (h1 : x.f4 ≤ 86400) (ht : -1000000 ≤ t) (ht2 : t ≤ 4398046511104) : slotV x t = sl x.f3 x.f4 t := by
  have e : wrap64 (t - x.f4) = t - x.f4 := by unfold wrap64; omega
  unfold slotV sl
  rw [e]
  by_cases hlt : t < x.f4
  · rw [if_pos hlt, if_pos (by omega)]
  · rw [if_neg hlt, if_neg (by omega), Int.tdiv_eq_ediv_of_nonneg (by omega)]
    have h2 := Int.ediv_nonneg (show 0 ≤ t - x.f4 by omega) (Int.le_of_lt h)
    have h3 : (t - x.f4) / x.f3 ≤ t - x.f4 := Int.ediv_le_self _ (by omega)
    unfold wrap64; omega
theorem right_tells (x : S27) : ∃ b, klaxonref19_Right.f x.f0 x.f1 x.f2 x.f3 x.f4 x.f5 x.f6 = some b ∧ (b = true → Right x) := by
  unfold klaxonref19_Right.f Right
  by_cases h1 : x.f3 ≥ 1
  · rw [if_pos h1]
    by_cases h2 : x.f3 ≤ 86400
    · rw [if_pos h2]
      by_cases h3 : x.f4 ≥ 0
      · rw [if_pos h3]
        by_cases h4 : x.f4 < x.f3
        · rw [if_pos h4]
          by_cases h5 : x.f6 ≥ -1
          · rw [if_pos h5]
            exact ⟨_, rfl, fun h => ⟨h1, h2, h3, h4, h5, of_decide_eq_true h⟩⟩
          · rw [if_neg h5]; exact ⟨_, rfl, fun h => by cases h⟩
        · rw [if_neg h4]; exact ⟨_, rfl, fun h => by cases h⟩
      · rw [if_neg h3]; exact ⟨_, rfl, fun h => by cases h⟩
    · rw [if_neg h2]; exact ⟨_, rfl, fun h => by cases h⟩
  · rw [if_neg h1]; exact ⟨_, rfl, fun h => by cases h⟩
theorem rd_at {l : List S27} {i : Nat} (h : i < l.length) : rd_T27 l (i : Int) = l[i] := by simp [rd_T27, List.getD_eq_getElem?_getD, List.getElem?_eq_getElem h]
theorem small_loop (l : List S27) (now : Int) : ∀ (d i : Nat) (t : Int), i + d = 61 → (∀ x ∈ l.take i, Right x) → ∃ b, Ev (fun k => klaxonlaw19_small.l0 k l now t (i : Int)) b ∧ (b = true → l.length ≤ 60 ∧ (∀ x ∈ l, Right x) ∧ 0 ≤ now ∧ now ≤ 1099511627776)
  | d, i, t, hi, hR => by
    have stop : (l.length ≤ i ∨ 61 ≤ i) → ∃ b, Ev (fun k => klaxonlaw19_small.j1 k l now t (i : Int) false) b ∧ (b = true → l.length ≤ 60 ∧ (∀ x ∈ l, Right x) ∧ 0 ≤ now ∧ now ≤ 1099511627776) := by
      intro hs
      by_cases h1 : (l.length : Int) ≤ 60
      · by_cases h2 : t ≤ 10000
        · by_cases h3 : now ≥ 0
          · refine ⟨decide (now ≤ 1099511627776), Ev.step (fun k => ?_) (Ev.now _), fun hb => ⟨by omega, fun x hx => ?_, h3, of_decide_eq_true hb⟩⟩
            · rw [klaxonlaw19_small.j1, if_neg (by simp), if_pos h1, if_pos h2, if_pos h3]
            · rw [List.take_of_length_le (by omega)] at hR
              exact hR x hx
          · refine ⟨false, Ev.step (fun k => ?_) (Ev.now _), fun hb => by cases hb⟩
            rw [klaxonlaw19_small.j1, if_neg (by simp), if_pos h1, if_pos h2, if_neg h3]
        · refine ⟨false, Ev.step (fun k => ?_) (Ev.now _), fun hb => by cases hb⟩
          rw [klaxonlaw19_small.j1, if_neg (by simp), if_pos h1, if_neg h2]
      · refine ⟨false, Ev.step (fun k => ?_) (Ev.now _), fun hb => by cases hb⟩
        rw [klaxonlaw19_small.j1, if_neg (by simp), if_neg h1]
    by_cases hl : i < l.length
    · by_cases h6 : i ≤ 60
      · obtain ⟨c, hc, hr⟩ := right_tells l[i]
        have hd : ∃ d', d = d' + 1 := ⟨d - 1, by omega⟩
        obtain ⟨d', rfl⟩ := hd
        have step : ∀ k, klaxonlaw19_small.l0 (k + 1 + 1) l now t (i : Int) = if c = true then (klaxonlaw19_small.l0 k l now (wrap64 ((wrap64 (t + ((l[i].f0).size : Int))) + ((l[i].f1).size : Int))) ((i + 1 : Nat) : Int)) else some false := by
          intro k
          rw [klaxonlaw19_small.l0, if_pos (by omega), decide_eq_true (by omega), klaxonlaw19_small.j1, if_pos rfl, if_pos (by omega), if_pos (by omega), rd_at hl, hc, Option.bind_some, show wrap64 ((i : Int) + 1) = ((i + 1 : Nat) : Int) by unfold wrap64; omega]
        cases c with
        | true =>
          obtain ⟨b, hb, hbl⟩ := small_loop l now d' (i + 1) (wrap64 ((wrap64 (t + ((l[i].f0).size : Int))) + ((l[i].f1).size : Int))) (by omega) (fun x hx => by
            rw [List.take_add_one, List.getElem?_eq_getElem hl] at hx
            rcases List.mem_append.1 hx with hx | hx
            · exact hR x hx
            · simp at hx; subst hx; exact hr rfl)
          refine ⟨b, Ev.step (f := fun k => klaxonlaw19_small.l0 (k + 1) l now t (i : Int)) (fun k => rfl) (Ev.step (fun k => ?_) hb), hbl⟩
          rw [step, if_pos rfl]
        | false =>
          refine ⟨false, Ev.step (f := fun k => klaxonlaw19_small.l0 (k + 1) l now t (i : Int)) (fun k => rfl) (Ev.step (fun k => ?_) (Ev.now _)), fun hb => by cases hb⟩
          rw [step, if_neg (by simp)]
      · obtain ⟨b, hb, hbl⟩ := stop (.inr (by omega))
        refine ⟨b, Ev.step (fun k => ?_) hb, hbl⟩
        rw [klaxonlaw19_small.l0, if_pos (by omega), decide_eq_false (by omega)]
    · obtain ⟨b, hb, hbl⟩ := stop (.inl (by omega))
      refine ⟨b, Ev.step (fun k => ?_) hb, hbl⟩
      rw [klaxonlaw19_small.l0, if_neg (by omega)]
termination_by d => d
theorem small_tells (l : List S27) (now : Int) : ∃ b, Ev (fun k => klaxonlaw19_small.f k l now) b ∧ (b = true → l.length ≤ 60 ∧ (∀ x ∈ l, Right x) ∧ 0 ≤ now ∧ now ≤ 1099511627776) := small_loop l now 61 0 0 rfl (fun x hx => by simp at hx)
end Go.Proofs.Ytaonabfnagmogaa.M
