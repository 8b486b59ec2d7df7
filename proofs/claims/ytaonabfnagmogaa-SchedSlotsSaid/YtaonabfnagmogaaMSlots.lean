/- Plain law of SchedSlots: a moment begins each slot; the next one is an interval behind. -/
import Derived.Test.YtaonabfnagmogaaMSlot
import Derived.Test.YtaonabfnagmogaaSSlots
set_option linter.unusedVariables false
set_option linter.unusedSimpArgs false
namespace Go.Proofs.Ytaonabfnagmogaa.M
open Go.RowKit Go.Proofs.Ytaonabfnagmogaa.S Go.Proofs.YtaonabfnagmogaaW.PrintWords Go.Proofs.YtaonabfnagmogaaW.PrintLast
theorem live_at' : klaxonlaw19_live.f 40 = some true := by decide +kernel
theorem live_some' : Ev (fun k => (klaxonlaw19_live.f k).bind fun t => some t) true := Ev.bind (Ev.of klaxonlaw19_live.mono live_at') (Ev.now true)
/-- The first moment behind a time. -/
def nx (I O t : Int) : Int := (sl I O t + 1) * I + O
theorem sl_ge (I O t : Int) (hI : 0 < I) : -1 ≤ sl I O t := by
  unfold sl
  split
  · omega
  · have := Int.ediv_nonneg (show 0 ≤ t - O by omega) (Int.le_of_lt hI)
    omega
theorem nx_range (I O t : Int) (hI : 0 < I) (hO : 0 ≤ O) (hOI : O < I) (ht : 0 ≤ t) : t < nx I O t ∧ nx I O t ≤ t + I ∧ O ≤ nx I O t := by
  unfold nx sl
  by_cases h : t < O
  · rw [if_pos h]; omega
  · rw [if_neg h]
    have e := Int.mul_ediv_add_emod (t - O) I
    have r0 := Int.emod_nonneg (t - O) (show I ≠ 0 by omega)
    have r1 := Int.emod_lt_of_pos (t - O) hI
    have q0 := Int.ediv_nonneg (show 0 ≤ t - O by omega) (Int.le_of_lt hI)
    generalize (t - O) / I = q at *
    generalize (t - O) % I = r at *
    have p : (q + 1) * I = I * q + I := by rw [Int.add_mul, Int.one_mul, Int.mul_comm]
    have pn : 0 ≤ I * q := Int.mul_nonneg (Int.le_of_lt hI) q0
    rw [p]
    omega
theorem sl_at (I O k : Int) (hI : 0 < I) (hk : 0 ≤ k) : sl I O (k * I + O) = k := by
  have pn : 0 ≤ k * I := Int.mul_nonneg hk (Int.le_of_lt hI)
  unfold sl
  rw [if_neg (by omega), show k * I + O - O = k * I by omega, Int.mul_ediv_cancel _ (by omega)]
theorem sl_ahead (I O k : Int) (hI : 0 < I) (hk : 0 ≤ k) : sl I O (k * I + O - 1) = k - 1 := by
  have h := sl_next I O (k * I + O) hI
  have pn : 0 ≤ k * I := Int.mul_nonneg hk (Int.le_of_lt hI)
  rw [sl_at I O k hI hk, if_pos ⟨by omega, by rw [show k * I + O - O = k * I by omega]; exact Int.mul_emod_left k I⟩] at h
  omega
theorem next_tells (x : S27) (t : Int) (hr : Right x) (h0 : 0 ≤ t) (ht : t ≤ 2199023255552) : sched_Next.f x.f0 x.f1 x.f2 x.f3 x.f4 x.f5 x.f6 t = some (nx x.f3 x.f4 t) := by
  obtain ⟨r1, r2, r3, r4, r5, r6⟩ := hr
  have hI : 0 < x.f3 := by omega
  obtain ⟨n1, n2, n3⟩ := nx_range x.f3 x.f4 t hI r3 r4 h0
  have ge := sl_ge x.f3 x.f4 t hI
  unfold sched_Next.f
  rw [slot_tells x t (by omega), Option.bind_some, slotV_sl x t hI r3 (by omega) (by omega) (by omega)]
  congr 1
  unfold nx at *
  generalize sl x.f3 x.f4 t = s at *
  have hs : s ≤ 4398046511104 := by
    have : (s + 1) * 1 ≤ (s + 1) * x.f3 := Int.mul_le_mul_of_nonneg_left (by omega) (by omega)
    omega
  have e1 : wrap64 (s + 1) = s + 1 := by unfold wrap64; omega
  rw [e1]
  generalize (s + 1) * x.f3 = p at *
  have e2 : wrap64 p = p := by unfold wrap64; omega
  rw [e2]
  unfold wrap64; omega
theorem slots_law (f0 f1 : ByteArray) (f2 I O : Int) (p : Bool) (la : Int) (now : Int) : Ev (fun k => klaxonlaw19_SchedSlots.f k f0 f1 f2 I O p la now) true := by
  have ht : Ev (fun k => klaxonlaw19_SchedSlots.j0 k now true f0 f1 f2 I O p la) true := by
    refine Ev.step (fun k => ?_) live_some'
    rw [klaxonlaw19_SchedSlots.j0, if_pos rfl]
  obtain ⟨c, hc, hl⟩ := small_tells [(⟨f0, f1, f2, I, O, p, la⟩ : S27)] now
  refine Ev.bind (f := fun k t143 => (if t143 = true then (klaxonlaw19_SchedSlots.j0 k now (decide (now > 549755813888)) f0 f1 f2 I O p la) else (klaxonlaw19_SchedSlots.j0 k now true f0 f1 f2 I O p la))) hc ?_
  cases c with
  | false => exact Ev.congr (fun k => by rw [if_neg (by simp)]) ht
  | true =>
    obtain ⟨_, hR, hf0, _⟩ := hl rfl
    have hr := hR _ List.mem_cons_self
    obtain ⟨r1, r2, r3, r4, r5, r6⟩ := hr
    by_cases h2 : now > 549755813888
    · exact Ev.congr (fun k => by rw [if_pos rfl, decide_eq_true h2]) ht
    · refine Ev.congr (fun k => by rw [if_pos rfl, decide_eq_false h2]) (Ev.step (fun k => ?_) live_some')
      have hI : 0 < I := by show 0 < I; exact Int.lt_of_lt_of_le (by decide) r1
      have hI2 : I ≤ 86400 := r2
      have hO : 0 ≤ O := r3
      have hO2 : O < I := r4
      obtain ⟨n1, n2, n3⟩ := nx_range I O now hI hO hO2 hf0
      have ge := sl_ge I O now hI
      have S : ∀ t, -1000000 ≤ t → t ≤ 2199023255552 → sched_Slot.f f0 f1 f2 I O p la t = some (sl I O t) := by
        intro t h0 h1
        have := slot_tells (⟨f0, f1, f2, I, O, p, la⟩ : S27) t (by show I ≠ 0; omega)
        rw [slotV_sl (⟨f0, f1, f2, I, O, p, la⟩ : S27) t hI hO (by show O ≤ 86400; omega) h0 (by omega)] at this
        exact this
      have N : ∀ t, 0 ≤ t → t ≤ 2199023255552 → sched_Next.f f0 f1 f2 I O p la t = some (nx I O t) := fun t h0 h1 => next_tells (⟨f0, f1, f2, I, O, p, la⟩ : S27) t ⟨r1, r2, r3, r4, r5, r6⟩ h0 h1
      have a1 : sl I O (nx I O now) = sl I O now + 1 := sl_at I O _ hI (by omega)
      have a2 : sl I O (nx I O now - 1) = sl I O now := by
        have := sl_ahead I O (sl I O now + 1) hI (by omega)
        unfold nx
        rw [this]; omega
      have a3 : nx I O (nx I O now) = nx I O now + I := by
        have h := a1
        unfold nx at h ⊢
        rw [h, Int.add_mul (sl I O now + 1) 1 I, Int.one_mul]; omega
      have a4 : sl I O (nx I O now + I) = sl I O now + 2 := by
        have := sl_at I O (sl I O now + 2) hI (by omega)
        rw [← this]
        congr 1
        unfold nx
        rw [show sl I O now + 2 = (sl I O now + 1) + 1 by omega, Int.add_mul (sl I O now + 1) 1 I, Int.one_mul]; omega
      have hs : sl I O now ≤ 549755813888 := by
        unfold sl
        split
        · omega
        · have := Int.ediv_le_self (a := now - O) I (by omega)
          omega
      have e1 : wrap64 (nx I O now - 1) = nx I O now - 1 := by unfold wrap64; omega
      have e2 : wrap64 (sl I O now + 1) = sl I O now + 1 := by unfold wrap64; omega
      have e3 : wrap64 (nx I O now + I) = nx I O now + I := by unfold wrap64; omega
      have e4 : wrap64 (sl I O now + 2) = sl I O now + 2 := by unfold wrap64; omega
      rw [klaxonlaw19_SchedSlots.j0, if_neg (by simp), N now hf0 (by omega), Option.bind_some, S now (by omega) (by omega), Option.bind_some, if_pos n1, S _ (by omega) (by omega), Option.bind_some, e2, if_pos a1, e1, S _ (by omega) (by omega), Option.bind_some, if_pos a2, N _ (by omega) (by omega), Option.bind_some, e3, if_pos a3, S _ (by omega) (by omega), Option.bind_some, e4, if_pos a4]
      by_cases h0 : sl I O now ≥ 0
      · rw [if_pos h0]
      · rw [if_neg h0, if_pos]
        by_cases hn : now < O
        · exact hn
        · exfalso
          apply h0
          unfold sl
          rw [if_neg hn]
          exact Int.ediv_nonneg (by omega) (by omega)
end Go.Proofs.Ytaonabfnagmogaa.M
