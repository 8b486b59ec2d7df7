/- Laid by a program of this place, a turned copy of the printer: functions, their contracts, and proofs that Lean checks. -/
import Derived.Test.YtcmiehddjgfjaaaGreatDoorCTxt0
import Derived.Test.YtcmiehddjgfjaaaGreatDoorCTxt1
import Derived.Test.YtcmiehddjgfjaaaGreatDoorCTxt2
namespace Go.Proofs.YtcmiehddjgfjaaaGreatDoor.A
open Go.RowKit Go.Proofs.YtcmiehddjgfjaaaGreatDoorW.PrintWords Go.Proofs.YtcmiehddjgfjaaaGreatDoorW.PrintLast Go.Proofs.YtcmiehddjgfjaaaGreatDoorW.PrintMore
attribute [local go_sem] max2_int min2_int max_two min_two max_three min_three max_four min_four   -- for this text's walks alone
set_option linter.unusedVariables false
set_option linter.unusedSimpArgs false

/-! ### klaxonref08_Digits: function 51 -/
def klaxonref08_Digits.f : Nat → Int → Option (ByteArray)
  | 0, _ => none
  | k + 1, a0 => if a0 < 10 then (if 0 ≤ a0 then (if a0 ≤ (wrap64 (a0 + 1)) then (if (wrap64 (a0 + 1)) ≤ 10 then (some ((⟨#[48, 49, 50, 51, 52, 53, 54, 55, 56, 57]⟩ : ByteArray).extract (a0 : Int).toNat ((wrap64 (a0 + 1)) : Int).toNat)) else (none)) else (none)) else (none)) else ((klaxonref08_Digits.f k (wrap64 (Int.tdiv a0 10))).bind fun t399 => (if 0 ≤ (Int.tmod a0 10) then (if (Int.tmod a0 10) ≤ (wrap64 ((Int.tmod a0 10) + 1)) then (if (wrap64 ((Int.tmod a0 10) + 1)) ≤ 10 then (if t399.size + ((⟨#[48, 49, 50, 51, 52, 53, 54, 55, 56, 57]⟩ : ByteArray).extract ((Int.tmod a0 10) : Int).toNat ((wrap64 ((Int.tmod a0 10) + 1)) : Int).toNat).size ≤ 9223372036854775807 then (some (t399 ++ ((⟨#[48, 49, 50, 51, 52, 53, 54, 55, 56, 57]⟩ : ByteArray).extract ((Int.tmod a0 10) : Int).toNat ((wrap64 ((Int.tmod a0 10) + 1)) : Int).toNat))) else (none)) else (none)) else (none)) else (none)))
theorem klaxonref08_Digits.mono_l : ∀ k, (∀ y0, LeO (klaxonref08_Digits.f k y0) (klaxonref08_Digits.f (k + 1) y0))
  | 0 => fun _ r h => by simp [klaxonref08_Digits.f] at h
  | k + 1 => by
    have ih0 := klaxonref08_Digits.mono_l k
    · intro y0
      unfold klaxonref08_Digits.f
      repeat' first
      | (with_reducible exact ih0 _)
      | (with_reducible exact LeO.refl _)
      | (with_reducible exact LeO.none _)
      | (with_reducible refine LeO.ite ?_ ?_)
      | (with_reducible refine LeO.bind ?_ (fun _ => ?_))
      | exact ih0 _
      | exact LeO.none _
      | refine LeO.ite ?_ ?_
      | refine LeO.bind ?_ (fun _ => ?_)
theorem klaxonref08_Digits.mono : ∀ a0 k, LeO (klaxonref08_Digits.f k a0) (klaxonref08_Digits.f (k + 1) a0) := by
  intro a0 k
  have ih0 := klaxonref08_Digits.mono_l k
  exact ih0 a0
def klaxonref08_Digits.T3 : Bool × List (List Nat × List Nat) := (true, [([], []), ([0], [0]), ([1], [1]), ([], []), ([3], [3]), ([], []), ([5], [5]), ([6], [6]), ([4, 7], [4, 7]), ([2, 8], [2, 8]), ([9, 2, 0, 1, 2, 3, 4, 5, 6, 7, 8, 9], [9])])
def klaxonref08_Digits.B3 : List Nat := [0, 1, 3, 0, 8, 0, 32, 96, 248, 511, 1023]
theorem klaxonref08_Digits.tab3 : rtab .any (opsOf Tryz.f51 3) = klaxonref08_Digits.T3 := by kernel_rfl
theorem klaxonref08_Digits.bits3 : waitsOk klaxonref08_Digits.T3.2 klaxonref08_Digits.B3 = true := by kernel_rfl
set_option maxHeartbeats 8000000 in
set_option maxRecDepth 100000 in
theorem klaxonref08_Digits.calls (k : Nat) : ∀ (a0 : Int) (r : ByteArray) (w : World) (h : klaxonref08_Digits.f k a0 = some r),
    Calls Tryz.prog 51 #[.int .i64 a0] w fun e w' => e = .returned (.string r) ∧ Below w.heap.size w w' := by
  induction k using Nat.strongRecOn with
  | _ k ih =>
  intro a0 r w h
  cases k with
  | zero => exact absurd h (by simp [klaxonref08_Digits.f])
  | succ k =>
  simp only [klaxonref08_Digits.f] at h
  have HB := Aside0.mk (Below.refl w.heap.size w)
  have H : (if a0 < 10 then (if 0 ≤ a0 then (if a0 ≤ (wrap64 (a0 + 1)) then (if (wrap64 (a0 + 1)) ≤ 10 then (some ((⟨#[48, 49, 50, 51, 52, 53, 54, 55, 56, 57]⟩ : ByteArray).extract (a0 : Int).toNat ((wrap64 (a0 + 1)) : Int).toNat)) else (none)) else (none)) else (none)) else ((klaxonref08_Digits.f k (wrap64 (Int.tdiv a0 10))).bind fun t399 => (if 0 ≤ (Int.tmod a0 10) then (if (Int.tmod a0 10) ≤ (wrap64 ((Int.tmod a0 10) + 1)) then (if (wrap64 ((Int.tmod a0 10) + 1)) ≤ 10 then (if t399.size + ((⟨#[48, 49, 50, 51, 52, 53, 54, 55, 56, 57]⟩ : ByteArray).extract ((Int.tmod a0 10) : Int).toNat ((wrap64 ((Int.tmod a0 10) + 1)) : Int).toNat).size ≤ 9223372036854775807 then (some (t399 ++ ((⟨#[48, 49, 50, 51, 52, 53, 54, 55, 56, 57]⟩ : ByteArray).extract ((Int.tmod a0 10) : Int).toNat ((wrap64 ((Int.tmod a0 10) + 1)) : Int).toNat))) else (none)) else (none)) else (none)) else (none)))) = some r := h
  clear h
  by_cases c2 : a0 < 10
  · rw [if_pos c2] at H
    have c2b0 : decide (a0 < 10) = true := decide_eq_true c2
    clear c2
    by_cases c3 : 0 ≤ a0
    · rw [if_pos c3] at H
      have c3b0 := eq_true c3
      have c3b1 : decide (0 ≤ a0) = true := decide_eq_true c3
      clear c3
      by_cases c4 : a0 ≤ (wrap64 (a0 + 1))
      · rw [if_pos c4] at H
        have c4b0 := eq_true c4
        have c4b1 : decide (a0 ≤ (wrap64 (a0 + 1))) = true := decide_eq_true c4
        by_cases c5 : (wrap64 (a0 + 1)) ≤ 10
        · rw [if_pos c5] at H
          have c5b0 := eq_true c5
          have c5b1 : decide ((wrap64 (a0 + 1)) ≤ 10) = true := decide_eq_true c5
          obtain rfl := Option.some.inj H
          go_enter Tryz.func51, Tryz.ntmps51
          go_wp2
          go_ret
          exact ⟨by first | rfl | (simp [errW_none, errW_some] <;> rfl) | (simp [*, errW_none, errW_some] <;> rfl), by repeat (first | (with_reducible first | exact HB.out | apply below_alloc | apply pw_below_drewN | apply below_drew1) | exact HB.out)⟩
        · rw [if_neg c5] at H
          exact absurd H (by simp)
      · rw [if_neg c4] at H
        exact absurd H (by simp)
    · rw [if_neg c3] at H
      exact absurd H (by simp)
  · rw [if_neg c2] at H
    have c2b0 : decide (a0 < 10) = false := decide_eq_false c2
    clear c2
    replace H := Option.bind_eq_some_iff.mp H
    obtain ⟨t399, A60, H⟩ := H
    replace H : (if 0 ≤ (Int.tmod a0 10) then (if (Int.tmod a0 10) ≤ (wrap64 ((Int.tmod a0 10) + 1)) then (if (wrap64 ((Int.tmod a0 10) + 1)) ≤ 10 then (if t399.size + ((⟨#[48, 49, 50, 51, 52, 53, 54, 55, 56, 57]⟩ : ByteArray).extract ((Int.tmod a0 10) : Int).toNat ((wrap64 ((Int.tmod a0 10) + 1)) : Int).toNat).size ≤ 9223372036854775807 then (some (t399 ++ ((⟨#[48, 49, 50, 51, 52, 53, 54, 55, 56, 57]⟩ : ByteArray).extract ((Int.tmod a0 10) : Int).toNat ((wrap64 ((Int.tmod a0 10) + 1)) : Int).toNat))) else (none)) else (none)) else (none)) else (none)) = some r := H
    have A6 := Aside0.mk A60
    clear A60
    obtain ⟨ji7, hji7⟩ : ∃ j_ : Int, (Int.tmod a0 10) = j_ := ⟨_, rfl⟩
    replace H : (if 0 ≤ (ji7) then (if (ji7) ≤ (wrap64 ((ji7) + 1)) then (if (wrap64 ((ji7) + 1)) ≤ 10 then (if t399.size + ((⟨#[48, 49, 50, 51, 52, 53, 54, 55, 56, 57]⟩ : ByteArray).extract ((ji7) : Int).toNat ((wrap64 ((ji7) + 1)) : Int).toNat).size ≤ 9223372036854775807 then (some (t399 ++ ((⟨#[48, 49, 50, 51, 52, 53, 54, 55, 56, 57]⟩ : ByteArray).extract ((ji7) : Int).toNat ((wrap64 ((ji7) + 1)) : Int).toNat))) else (none)) else (none)) else (none)) else (none)) = some r := by first | (rw [hji7] at H; exact H) | (simp only [hji7] at H ⊢; exact H)
    (try rw [hji7] at A6)
    by_cases c8 : 0 ≤ (ji7)
    · rw [if_pos c8] at H
      have c8b0 := eq_true c8
      have c8b1 : decide (0 ≤ (ji7)) = true := decide_eq_true c8
      clear c8
      by_cases c9 : (ji7) ≤ (wrap64 ((ji7) + 1))
      · rw [if_pos c9] at H
        have c9b0 := eq_true c9
        have c9b1 : decide ((ji7) ≤ (wrap64 ((ji7) + 1))) = true := decide_eq_true c9
        by_cases c10 : (wrap64 ((ji7) + 1)) ≤ 10
        · rw [if_pos c10] at H
          have c10b0 := eq_true c10
          have c10b1 : decide ((wrap64 ((ji7) + 1)) ≤ 10) = true := decide_eq_true c10
          by_cases c11 : t399.size + ((⟨#[48, 49, 50, 51, 52, 53, 54, 55, 56, 57]⟩ : ByteArray).extract ((ji7) : Int).toNat ((wrap64 ((ji7) + 1)) : Int).toNat).size ≤ 9223372036854775807
          · rw [if_pos c11] at H
            have c11b0 := eq_true c11
            have c11b1 : decide (t399.size + ((⟨#[48, 49, 50, 51, 52, 53, 54, 55, 56, 57]⟩ : ByteArray).extract ((ji7) : Int).toNat ((wrap64 ((ji7) + 1)) : Int).toNat).size ≤ 9223372036854775807) = true := decide_eq_true c11
            try have c11b2 : (9223372036854775807 < t399.size + ((⟨#[48, 49, 50, 51, 52, 53, 54, 55, 56, 57]⟩ : ByteArray).extract ((ji7) : Int).toNat ((wrap64 ((ji7) + 1)) : Int).toNat).size) = False := eq_false (Nat.not_lt.2 c11)
            try have c11b3 : (9223372036854775807 < t399.size + ((wrap64 (ji7 + 1)).toNat - ji7.toNat)) = False := eq_false (by have h_ := c11; have e_ : (ByteArray.mk #[48, 49, 50, 51, 52, 53, 54, 55, 56, 57]).size = 10 := rfl; rw [ByteArray.size_extract, e_] at h_; omega)
            obtain rfl := Option.some.inj H
            go_enter Tryz.func51, Tryz.ntmps51
            try go_wp2
            have n0_ := Aside0.mk (below_drew1 HB.out)
            clear HB
            have HB := n0_
            clear n0_
            refine start_ (n := 11) (S := fun w' => True) (ds := []) #[false, false, false, false, false, false, false, false, false, false, false] (by kernel_rfl) rfl rfl trivial (fun hHeld => ?_); refine with_tabW klaxonref08_Digits.tab3 klaxonref08_Digits.bits3 (fun HT_ HW_ => ?_)
            generalize w.drew = w12 at HB hHeld ⊢
            refine pure_ (i := 0) (N := some 9) (v := ?_) (a' := ?_) #[true, false, false, false, false, false, false, false, false, false, false] rfl rfl (any_of HT_.out (by kernel_rfl)) (fun _ _ _ h => h) (Or.inl ⟨by rfl, ?_⟩) ?_ ?_
            rotate_left
            · intro w'
              go_simp
              with_reducible rfl
            rotate_left
            · simp only [Act.put, List.setIfInBounds_toArray, List.set_cons_zero, List.set_cons_succ, i64_w, i32_w]
              rfl
            refine pure_ (i := 1) (N := some 10) (v := ?_) (a' := ?_) #[true, true, false, false, false, false, false, false, false, false, false] rfl rfl (any_of HT_.out (by kernel_rfl)) (fun _ _ _ h => h) (Or.inl ⟨by rfl, ?_⟩) ?_ ?_
            rotate_left
            · intro w'
              go_simp
              with_reducible rfl
            rotate_left
            · simp only [Act.put, List.setIfInBounds_toArray, List.set_cons_zero, List.set_cons_succ, i64_w, i32_w]
              rfl
            refine pure_ (i := 3) (N := some 12) (v := ?_) (a' := ?_) #[true, true, false, true, false, false, false, false, false, false, false] rfl rfl (any_of HT_.out (by kernel_rfl)) (fun _ _ _ h => h) (Or.inl ⟨by rfl, ?_⟩) ?_ ?_
            rotate_left
            · intro w'
              go_simp
              with_reducible rfl
            rotate_left
            · simp only [Act.put, List.setIfInBounds_toArray, List.set_cons_zero, List.set_cons_succ, i64_w, i32_w]
              rfl
            refine pure_ (i := 4) (N := some 13) (v := ?_) (a' := ?_) #[true, true, false, true, true, false, false, false, false, false, false] rfl rfl (any_of HT_.out (by kernel_rfl)) (fun _ _ _ h => h) (Or.inl ⟨by rfl, ?_⟩) ?_ ?_
            rotate_left
            · intro w'
              go_simp
              with_reducible rfl
            rotate_left
            · simp only [Act.put, List.setIfInBounds_toArray, List.set_cons_zero, List.set_cons_succ, i64_w, i32_w]
              rfl
            refine pure_ (i := 5) (N := some 14) (v := ?_) (a' := ?_) #[true, true, false, true, true, true, false, false, false, false, false] rfl rfl (any_of HT_.out (by kernel_rfl)) (fun _ _ _ h => h) (Or.inl ⟨by rfl, ?_⟩) ?_ ?_
            rotate_left
            · intro w'
              go_simp
              with_reducible rfl
            rotate_left
            · simp only [Act.put, List.setIfInBounds_toArray, List.set_cons_zero, List.set_cons_succ, i64_w, i32_w]
              rfl
            refine pure_ (i := 6) (N := some 15) (v := ?_) (a' := ?_) #[true, true, false, true, true, true, true, false, false, false, false] rfl rfl (any_of HT_.out (by kernel_rfl)) (fun _ _ _ h => h) (Or.inl ⟨by rfl, ?_⟩) ?_ ?_
            rotate_left
            · intro w'
              go_simp
              with_reducible rfl
            rotate_left
            · simp only [Act.put, List.setIfInBounds_toArray, List.set_cons_zero, List.set_cons_succ, i64_w, i32_w]
              rfl
            refine pure_ (i := 7) (N := some 16) (v := ?_) (a' := ?_) #[true, true, false, true, true, true, true, true, false, false, false] rfl rfl (any_of HT_.out (by kernel_rfl)) (fun _ _ _ h => h) (Or.inl ⟨by rfl, ?_⟩) ?_ ?_
            rotate_left
            · intro w'
              go_simp
              with_reducible rfl
            rotate_left
            · simp only [Act.put, List.setIfInBounds_toArray, List.set_cons_zero, List.set_cons_succ, i64_w, i32_w]
              rfl
            refine pure_ (i := 8) (N := some 17) (v := ?_) (a' := ?_) #[true, true, false, true, true, true, true, true, true, false, false] rfl rfl (any_of HT_.out (by kernel_rfl)) (fun _ _ _ h => h) (Or.inl ⟨by rfl, ?_⟩) ?_ ?_
            rotate_left
            · intro w'
              go_simp
              with_reducible rfl
            rotate_left
            · simp only [Act.put, List.setIfInBounds_toArray, List.set_cons_zero, List.set_cons_succ, i64_w, i32_w]
              rfl
            refine one_ (i := 2) (N := some 11) #[true, true, true, true, true, true, true, true, true, false, false] rfl rfl (one_of HT_.out (by kernel_rfl)) (by decide) (fun K hK => ?_)
            refine goes_ Tryz.func51 (by kernel_rfl) rfl #[.int .i64 (wrap64 (Int.tdiv a0 10))] (by rfl) rfl rfl (by (try simp only [List.map_toArray, List.map_cons, List.map_nil]); first | done | rfl | (simp only [List.length_drop, List.length_take]; rfl)) ?_
            with_reducible refine (ih k (by omega) (wrap64 (Int.tdiv a0 10)) t399 _ A6.out).mono ?_
            rintro e w13 ⟨rfl, hb⟩
            refine ⟨_, rfl, ?_⟩
            have n0_ := Aside0.mk (below_step (by repeat (first | (with_reducible first | exact HB.out | apply below_alloc | apply pw_below_drewN | apply below_drew1) | exact HB.out)) hb)
            clear HB
            have HB := n0_
            clear n0_
            (try clear hb)
            (try clear hb2)
            (try clear hk)
            (try clear hi)
            refine hK.out _ _ trivial (fun hHeld => ?_)
            clear hK K
            refine norm_ (a' := ?_) ?_ ?_
            rotate_left
            · show Act.put _ (some 11) _ = _
              simp only [Act.put, List.setIfInBounds_toArray, List.set_cons_zero, List.set_cons_succ, i64_w, i32_w]
              rfl
            refine pure_ (i := 9) (N := some 18) (v := ?_) (a' := ?_) #[true, true, true, true, true, true, true, true, true, true, false] rfl rfl (any_of HT_.out (by kernel_rfl)) (fun _ _ _ h => h) (Or.inl ⟨by rfl, ?_⟩) ?_ ?_
            rotate_left
            · intro w'
              go_simp
              with_reducible rfl
            rotate_left
            · simp only [Act.put, List.setIfInBounds_toArray, List.set_cons_zero, List.set_cons_succ, i64_w, i32_w]
              rfl
            refine pure_ (i := 10) (N := some 2) (v := ?_) (a' := ?_) #[true, true, true, true, true, true, true, true, true, true, true] rfl rfl (any_of HT_.out (by kernel_rfl)) (fun _ _ _ h => h) (Or.inl ⟨by rfl, ?_⟩) ?_ ?_
            rotate_left
            · intro w'
              go_simp
              with_reducible rfl
            rotate_left
            · simp only [Act.put, List.setIfInBounds_toArray, List.set_cons_zero, List.set_cons_succ, i64_w, i32_w]
              rfl
            refine done_ (done_of HT_.out (by kernel_rfl)) ?_
            try go_wp2
            go_ret
            exact ⟨by first | rfl | (simp [errW_none, errW_some] <;> rfl) | (simp only [← hji7]; first | rfl | (simp [errW_none, errW_some] <;> rfl)) | (simp [*, errW_none, errW_some] <;> rfl), by repeat (first | (with_reducible first | exact HB.out | apply below_alloc | apply pw_below_drewN | apply below_drew1) | exact HB.out)⟩
          · rw [if_neg c11] at H
            exact absurd H (by simp)
        · rw [if_neg c10] at H
          exact absurd H (by simp)
      · rw [if_neg c9] at H
        exact absurd H (by simp)
    · rw [if_neg c8] at H
      exact absurd H (by simp)

/-! ### klaxonref08_Print: function 34 -/
mutual
def klaxonref08_Print.l0 : Nat → ByteArray → ByteArray → Option (ByteArray)
  | 0, _, _ => none
  | k + 1, x3, x5 => if 0 ≤ (wrap64 ((x5.size : Int) - 1)) then (if (wrap64 ((x5.size : Int) - 1)) < (x5.size : Int) then (if (bt x5 (wrap64 ((x5.size : Int) - 1))) = 48 then (if (wrap64 ((x5.size : Int) - 1)) ≤ (x5.size : Int) then (klaxonref08_Print.l0 k x3 (x5.extract 0 ((wrap64 ((x5.size : Int) - 1)) : Int).toNat)) else (none)) else (if x3.size + 1 ≤ 9223372036854775807 then (if (x3 ++ (⟨#[46]⟩ : ByteArray)).size + x5.size ≤ 9223372036854775807 then (some ((x3 ++ (⟨#[46]⟩ : ByteArray)) ++ x5)) else (none)) else (none))) else (none)) else (none)
def klaxonref08_Print.f : Nat → Int → Int → Option (ByteArray)
  | 0, _, _ => none
  | k + 1, a0_0, a0_1 => (klaxonref08_Is.f a0_0 a0_1).bind fun t401 => (if t401 = true then (if a0_0 = 2 then (some (⟨#[110, 117, 108, 108]⟩ : ByteArray)) else (if a0_0 = 3 then (some (⟨#[78, 97, 78]⟩ : ByteArray)) else (if a0_0 = 4 then (some (⟨#[43, 73, 110, 102]⟩ : ByteArray)) else (if a0_0 = 5 then (some (⟨#[45, 73, 110, 102]⟩ : ByteArray)) else (if a0_1 < 0 then ((klaxonref08_Num.f (wrap64 (-a0_1))).bind fun bt402 => ((klaxonref08_Print.f k bt402.1 bt402.2).bind fun t404 => (if 1 + t404.size ≤ 9223372036854775807 then (some ((⟨#[45]⟩ : ByteArray) ++ t404)) else (none)))) else ((klaxonref08_Digits.f k (wrap64 (Int.tdiv a0_1 1000))).bind fun t405 => (if (Int.tmod a0_1 1000) = 0 then (some t405) else ((klaxonref08_Digits.f k (wrap64 (1000 + (Int.tmod a0_1 1000)))).bind fun t406 => (if 1 ≤ (t406.size : Int) then (klaxonref08_Print.l0 k t405 (t406.extract 1 t406.size)) else (none)))))))))) else (some (⟨#[]⟩ : ByteArray)))
end
theorem klaxonref08_Print.mono_l : ∀ k, (∀ y0 y1, LeO (klaxonref08_Print.f k y0 y1) (klaxonref08_Print.f (k + 1) y0 y1)) ∧ (∀ y0 y1, LeO (klaxonref08_Print.l0 k y0 y1) (klaxonref08_Print.l0 (k + 1) y0 y1))
  | 0 => ⟨fun _ _ r h => by simp [klaxonref08_Print.f] at h, fun _ _ r h => by simp [klaxonref08_Print.l0] at h⟩
  | k + 1 => by
    obtain ⟨ih0, ih1⟩ := klaxonref08_Print.mono_l k
    refine ⟨?_, ?_⟩
    · intro y0 y1
      unfold klaxonref08_Print.f
      repeat' first
      | (with_reducible exact ih0 _ _)
      | (with_reducible exact ih1 _ _)
      | (with_reducible exact klaxonref08_Digits.mono _ _)
      | (with_reducible exact LeO.refl _)
      | (with_reducible exact LeO.none _)
      | (with_reducible refine LeO.ite ?_ ?_)
      | (with_reducible refine LeO.bind ?_ (fun _ => ?_))
      | exact ih0 _ _
      | exact ih1 _ _
      | exact klaxonref08_Digits.mono _ _
      | exact LeO.none _
      | refine LeO.ite ?_ ?_
      | refine LeO.bind ?_ (fun _ => ?_)
    · intro y0 y1
      unfold klaxonref08_Print.l0
      repeat' first
      | (with_reducible exact ih0 _ _)
      | (with_reducible exact ih1 _ _)
      | (with_reducible exact klaxonref08_Digits.mono _ _)
      | (with_reducible exact LeO.refl _)
      | (with_reducible exact LeO.none _)
      | (with_reducible refine LeO.ite ?_ ?_)
      | (with_reducible refine LeO.bind ?_ (fun _ => ?_))
      | exact ih0 _ _
      | exact ih1 _ _
      | exact klaxonref08_Digits.mono _ _
      | exact LeO.none _
      | refine LeO.ite ?_ ?_
      | refine LeO.bind ?_ (fun _ => ?_)
theorem klaxonref08_Print.mono : ∀ a0 a1 k, LeO (klaxonref08_Print.f k a0 a1) (klaxonref08_Print.f (k + 1) a0 a1) := by
  intro a0 a1 k
  obtain ⟨ih0, ih1⟩ := klaxonref08_Print.mono_l k
  exact ih0 a0 a1
set_option maxHeartbeats 8000000 in
set_option maxRecDepth 100000 in
theorem klaxonref08_Print.calls (k : Nat) : ∀ (a0_0 : Int) (a0_1 : Int) (r : ByteArray) (w : World) (h : klaxonref08_Print.f k a0_0 a0_1 = some r),
    Calls Tryz.prog 34 #[.agg #[.int .i64 a0_0, .int .i64 a0_1]] w fun e w' => e = .returned (.string r) ∧ Below w.heap.size w w' := by
  induction k using Nat.strongRecOn with
  | _ k ih =>
  intro a0_0 a0_1 r w h
  cases k with
  | zero => exact absurd h (by simp [klaxonref08_Print.f])
  | succ k =>
  simp only [klaxonref08_Print.f] at h
  have hu25 := Tryz.underlying25
  have HB := Aside0.mk (Below.refl w.heap.size w)
  have H : ((klaxonref08_Is.f a0_0 a0_1).bind fun t401 => (if t401 = true then (if a0_0 = 2 then (some (⟨#[110, 117, 108, 108]⟩ : ByteArray)) else (if a0_0 = 3 then (some (⟨#[78, 97, 78]⟩ : ByteArray)) else (if a0_0 = 4 then (some (⟨#[43, 73, 110, 102]⟩ : ByteArray)) else (if a0_0 = 5 then (some (⟨#[45, 73, 110, 102]⟩ : ByteArray)) else (if a0_1 < 0 then ((klaxonref08_Num.f (wrap64 (-a0_1))).bind fun bt402 => ((klaxonref08_Print.f k bt402.1 bt402.2).bind fun t404 => (if 1 + t404.size ≤ 9223372036854775807 then (some ((⟨#[45]⟩ : ByteArray) ++ t404)) else (none)))) else ((klaxonref08_Digits.f k (wrap64 (Int.tdiv a0_1 1000))).bind fun t405 => (if (Int.tmod a0_1 1000) = 0 then (some t405) else ((klaxonref08_Digits.f k (wrap64 (1000 + (Int.tmod a0_1 1000)))).bind fun t406 => (if 1 ≤ (t406.size : Int) then (klaxonref08_Print.l0 k t405 (t406.extract 1 t406.size)) else (none)))))))))) else (some (⟨#[]⟩ : ByteArray)))) = some r := h
  clear h
  replace H := Option.bind_eq_some_iff.mp H
  obtain ⟨t401, A20, H⟩ := H
  replace H : (if t401 = true then (if a0_0 = 2 then (some (⟨#[110, 117, 108, 108]⟩ : ByteArray)) else (if a0_0 = 3 then (some (⟨#[78, 97, 78]⟩ : ByteArray)) else (if a0_0 = 4 then (some (⟨#[43, 73, 110, 102]⟩ : ByteArray)) else (if a0_0 = 5 then (some (⟨#[45, 73, 110, 102]⟩ : ByteArray)) else (if a0_1 < 0 then ((klaxonref08_Num.f (wrap64 (-a0_1))).bind fun bt402 => ((klaxonref08_Print.f k bt402.1 bt402.2).bind fun t404 => (if 1 + t404.size ≤ 9223372036854775807 then (some ((⟨#[45]⟩ : ByteArray) ++ t404)) else (none)))) else ((klaxonref08_Digits.f k (wrap64 (Int.tdiv a0_1 1000))).bind fun t405 => (if (Int.tmod a0_1 1000) = 0 then (some t405) else ((klaxonref08_Digits.f k (wrap64 (1000 + (Int.tmod a0_1 1000)))).bind fun t406 => (if 1 ≤ (t406.size : Int) then (klaxonref08_Print.l0 k t405 (t406.extract 1 t406.size)) else (none)))))))))) else (some (⟨#[]⟩ : ByteArray))) = some r := H
  have A2 := Aside0.mk A20
  clear A20
  by_cases c3 : t401 = true
  · subst c3
    have H1 : (if a0_0 = 2 then (some (⟨#[110, 117, 108, 108]⟩ : ByteArray)) else (if a0_0 = 3 then (some (⟨#[78, 97, 78]⟩ : ByteArray)) else (if a0_0 = 4 then (some (⟨#[43, 73, 110, 102]⟩ : ByteArray)) else (if a0_0 = 5 then (some (⟨#[45, 73, 110, 102]⟩ : ByteArray)) else (if a0_1 < 0 then ((klaxonref08_Num.f (wrap64 (-a0_1))).bind fun bt402 => ((klaxonref08_Print.f k bt402.1 bt402.2).bind fun t404 => (if 1 + t404.size ≤ 9223372036854775807 then (some ((⟨#[45]⟩ : ByteArray) ++ t404)) else (none)))) else ((klaxonref08_Digits.f k (wrap64 (Int.tdiv a0_1 1000))).bind fun t405 => (if (Int.tmod a0_1 1000) = 0 then (some t405) else ((klaxonref08_Digits.f k (wrap64 (1000 + (Int.tmod a0_1 1000)))).bind fun t406 => (if 1 ≤ (t406.size : Int) then (klaxonref08_Print.l0 k t405 (t406.extract 1 t406.size)) else (none)))))))))) = some r := by rw [if_pos rfl] at H; exact H
    clear H
    have H := H1
    clear H1
    by_cases c4 : a0_0 = 2
    · rw [if_pos c4] at H
      have c4b0 : (a0_0 == 2) = true := beq_iff_eq.mpr c4
      have c4b1 : (a0_0 != 2) = false := bne_eq_false_iff_eq.mpr c4
      clear c4
      obtain rfl := Option.some.inj H
      go_enter Tryz.func34, Tryz.ntmps34
      go_wp2_with (first | ((with_reducible refine gate_dst (N := 1) rfl ?_); refine box_event ?hg (N := 1) ?hd (cs := #[.int .i64 a0_0, .int .i64 a0_1]) (t := 25) ?hr ?_; (case hd => rfl); (case hg => rfl); (case hr => first | (go_simp; done) | (go_simp; rfl)); intro gb400 hg w5 hbox hb; have n0_ := Aside0.mk (below_step (by repeat (first | (with_reducible first | exact HB.out | apply below_alloc | apply pw_below_drewN | apply below_drew1) | exact HB.out)) hb); have n1_ := Aside0.mk (hbox); have n2_ := Aside0.mk ((by rw [hg]; exact (below_size (by repeat (first | (with_reducible first | exact HB.out | apply below_alloc | apply pw_below_drewN | apply below_drew1) | exact HB.out))) : w.heap.size ≤ gb400)); have n3_ := Aside0.mk ((by rw [hg]; exact (below_size (by repeat (first | (with_reducible first | exact HB.out | apply below_alloc | apply pw_below_drewN | apply below_drew1) | exact HB.out))) : w.heap.size ≤ gb400)); clear HB; have HB := n0_; have BK400 := n1_; have GW400 := n2_; have GE400 := n3_; clear n0_ n1_ n2_ n3_; clear hb hbox hg; have hcz6_0 : w5.cell? ⟨gb400, 0, none⟩ = some (.int .i64 a0_0) := (blk_cell BK400.out 0).trans rfl; have hcz6_1 : w5.cell? ⟨gb400, 1, none⟩ = some (.int .i64 a0_1) := (blk_cell BK400.out 1).trans rfl; have hfz6_0 := blk_frozen BK400.out 0; have hfz6_1 := blk_frozen BK400.out 1) | ((with_reducible refine gate_callee (f := 13) rfl ?_); refine goesL_ (some 7) rfl rfl Tryz.func13 (by kernel_rfl) rfl #[.agg #[.int .i64 a0_0, .int .i64 a0_1]] rfl (by (try simp only [List.map_toArray, List.map_cons, List.map_nil]); first | done | rfl | (simp only [List.length_drop, List.length_take]; rfl)) ?_; (with_reducible refine (klaxonref08_Is.calls a0_0 a0_1 true _ A2.out).mono ?_); rintro e w7 ⟨rfl, hb⟩; refine ⟨_, rfl, ?_⟩; have n0_ := Aside0.mk (blk_below (g := gb400) (o := .cells #[.int .i64 a0_0, .int .i64 a0_1] 25 (0, 0)) (by (with_reducible repeat (first | refine blk_drewN ?_ _ | refine blk_drew ?_ | refine blk_alloc ?_ _)); exact BK400.out) hb); have n1_ := Aside0.mk (below_step (by repeat (first | (with_reducible first | exact HB.out | apply below_alloc | apply pw_below_drewN | apply below_drew1 | refine below_set ?_ GE400.out) | exact HB.out)) hb); clear BK400; clear HB; have BK400 := n0_; have HB := n1_; clear n0_ n1_; (try clear hb); (try clear hb2); (try clear hk); (try clear hi); have hcz8_0 : w7.cell? ⟨gb400, 0, none⟩ = some (.int .i64 a0_0) := (blk_cell BK400.out 0).trans rfl; have hcz8_1 : w7.cell? ⟨gb400, 1, none⟩ = some (.int .i64 a0_1) := (blk_cell BK400.out 1).trans rfl; have hfz8_0 := blk_frozen BK400.out 0; have hfz8_1 := blk_frozen BK400.out 1))
      go_ret
      exact ⟨by first | rfl | (simp [errW_none, errW_some] <;> rfl) | (simp [*, errW_none, errW_some] <;> rfl), by repeat (first | (with_reducible first | exact HB.out | apply below_alloc | apply pw_below_drewN | apply below_drew1 | refine below_set ?_ GE400.out) | exact HB.out)⟩
    · rw [if_neg c4] at H
      have c4b0 : (a0_0 == 2) = false := beq_eq_false_iff_ne.mpr c4
      have c4b1 : (a0_0 != 2) = true := bne_iff_ne.mpr c4
      by_cases c9 : a0_0 = 3
      · rw [if_pos c9] at H
        have c9b0 : (a0_0 == 3) = true := beq_iff_eq.mpr c9
        have c9b1 : (a0_0 != 3) = false := bne_eq_false_iff_eq.mpr c9
        clear c9
        obtain rfl := Option.some.inj H
        go_enter Tryz.func34, Tryz.ntmps34
        go_wp2_with (first | ((with_reducible refine gate_dst (N := 1) rfl ?_); refine box_event ?hg (N := 1) ?hd (cs := #[.int .i64 a0_0, .int .i64 a0_1]) (t := 25) ?hr ?_; (case hd => rfl); (case hg => rfl); (case hr => first | (go_simp; done) | (go_simp; rfl)); intro gb400 hg w10 hbox hb; have n0_ := Aside0.mk (below_step (by repeat (first | (with_reducible first | exact HB.out | apply below_alloc | apply pw_below_drewN | apply below_drew1) | exact HB.out)) hb); have n1_ := Aside0.mk (hbox); have n2_ := Aside0.mk ((by rw [hg]; exact (below_size (by repeat (first | (with_reducible first | exact HB.out | apply below_alloc | apply pw_below_drewN | apply below_drew1) | exact HB.out))) : w.heap.size ≤ gb400)); have n3_ := Aside0.mk ((by rw [hg]; exact (below_size (by repeat (first | (with_reducible first | exact HB.out | apply below_alloc | apply pw_below_drewN | apply below_drew1) | exact HB.out))) : w.heap.size ≤ gb400)); clear HB; have HB := n0_; have BK400 := n1_; have GW400 := n2_; have GE400 := n3_; clear n0_ n1_ n2_ n3_; clear hb hbox hg; have hcz11_0 : w10.cell? ⟨gb400, 0, none⟩ = some (.int .i64 a0_0) := (blk_cell BK400.out 0).trans rfl; have hcz11_1 : w10.cell? ⟨gb400, 1, none⟩ = some (.int .i64 a0_1) := (blk_cell BK400.out 1).trans rfl; have hfz11_0 := blk_frozen BK400.out 0; have hfz11_1 := blk_frozen BK400.out 1) | ((with_reducible refine gate_callee (f := 13) rfl ?_); refine goesL_ (some 7) rfl rfl Tryz.func13 (by kernel_rfl) rfl #[.agg #[.int .i64 a0_0, .int .i64 a0_1]] rfl (by (try simp only [List.map_toArray, List.map_cons, List.map_nil]); first | done | rfl | (simp only [List.length_drop, List.length_take]; rfl)) ?_; (with_reducible refine (klaxonref08_Is.calls a0_0 a0_1 true _ A2.out).mono ?_); rintro e w12 ⟨rfl, hb⟩; refine ⟨_, rfl, ?_⟩; have n0_ := Aside0.mk (blk_below (g := gb400) (o := .cells #[.int .i64 a0_0, .int .i64 a0_1] 25 (0, 0)) (by (with_reducible repeat (first | refine blk_drewN ?_ _ | refine blk_drew ?_ | refine blk_alloc ?_ _)); exact BK400.out) hb); have n1_ := Aside0.mk (below_step (by repeat (first | (with_reducible first | exact HB.out | apply below_alloc | apply pw_below_drewN | apply below_drew1 | refine below_set ?_ GE400.out) | exact HB.out)) hb); clear BK400; clear HB; have BK400 := n0_; have HB := n1_; clear n0_ n1_; (try clear hb); (try clear hb2); (try clear hk); (try clear hi); have hcz13_0 : w12.cell? ⟨gb400, 0, none⟩ = some (.int .i64 a0_0) := (blk_cell BK400.out 0).trans rfl; have hcz13_1 : w12.cell? ⟨gb400, 1, none⟩ = some (.int .i64 a0_1) := (blk_cell BK400.out 1).trans rfl; have hfz13_0 := blk_frozen BK400.out 0; have hfz13_1 := blk_frozen BK400.out 1))
        go_ret
        exact ⟨by first | rfl | (simp [errW_none, errW_some] <;> rfl) | (simp [*, errW_none, errW_some] <;> rfl), by repeat (first | (with_reducible first | exact HB.out | apply below_alloc | apply pw_below_drewN | apply below_drew1 | refine below_set ?_ GE400.out) | exact HB.out)⟩
      · rw [if_neg c9] at H
        have c9b0 : (a0_0 == 3) = false := beq_eq_false_iff_ne.mpr c9
        have c9b1 : (a0_0 != 3) = true := bne_iff_ne.mpr c9
        by_cases c14 : a0_0 = 4
        · rw [if_pos c14] at H
          have c14b0 : (a0_0 == 4) = true := beq_iff_eq.mpr c14
          have c14b1 : (a0_0 != 4) = false := bne_eq_false_iff_eq.mpr c14
          clear c14
          obtain rfl := Option.some.inj H
          go_enter Tryz.func34, Tryz.ntmps34
          go_wp2_with (first | ((with_reducible refine gate_dst (N := 1) rfl ?_); refine box_event ?hg (N := 1) ?hd (cs := #[.int .i64 a0_0, .int .i64 a0_1]) (t := 25) ?hr ?_; (case hd => rfl); (case hg => rfl); (case hr => first | (go_simp; done) | (go_simp; rfl)); intro gb400 hg w15 hbox hb; have n0_ := Aside0.mk (below_step (by repeat (first | (with_reducible first | exact HB.out | apply below_alloc | apply pw_below_drewN | apply below_drew1) | exact HB.out)) hb); have n1_ := Aside0.mk (hbox); have n2_ := Aside0.mk ((by rw [hg]; exact (below_size (by repeat (first | (with_reducible first | exact HB.out | apply below_alloc | apply pw_below_drewN | apply below_drew1) | exact HB.out))) : w.heap.size ≤ gb400)); have n3_ := Aside0.mk ((by rw [hg]; exact (below_size (by repeat (first | (with_reducible first | exact HB.out | apply below_alloc | apply pw_below_drewN | apply below_drew1) | exact HB.out))) : w.heap.size ≤ gb400)); clear HB; have HB := n0_; have BK400 := n1_; have GW400 := n2_; have GE400 := n3_; clear n0_ n1_ n2_ n3_; clear hb hbox hg; have hcz16_0 : w15.cell? ⟨gb400, 0, none⟩ = some (.int .i64 a0_0) := (blk_cell BK400.out 0).trans rfl; have hcz16_1 : w15.cell? ⟨gb400, 1, none⟩ = some (.int .i64 a0_1) := (blk_cell BK400.out 1).trans rfl; have hfz16_0 := blk_frozen BK400.out 0; have hfz16_1 := blk_frozen BK400.out 1) | ((with_reducible refine gate_callee (f := 13) rfl ?_); refine goesL_ (some 7) rfl rfl Tryz.func13 (by kernel_rfl) rfl #[.agg #[.int .i64 a0_0, .int .i64 a0_1]] rfl (by (try simp only [List.map_toArray, List.map_cons, List.map_nil]); first | done | rfl | (simp only [List.length_drop, List.length_take]; rfl)) ?_; (with_reducible refine (klaxonref08_Is.calls a0_0 a0_1 true _ A2.out).mono ?_); rintro e w17 ⟨rfl, hb⟩; refine ⟨_, rfl, ?_⟩; have n0_ := Aside0.mk (blk_below (g := gb400) (o := .cells #[.int .i64 a0_0, .int .i64 a0_1] 25 (0, 0)) (by (with_reducible repeat (first | refine blk_drewN ?_ _ | refine blk_drew ?_ | refine blk_alloc ?_ _)); exact BK400.out) hb); have n1_ := Aside0.mk (below_step (by repeat (first | (with_reducible first | exact HB.out | apply below_alloc | apply pw_below_drewN | apply below_drew1 | refine below_set ?_ GE400.out) | exact HB.out)) hb); clear BK400; clear HB; have BK400 := n0_; have HB := n1_; clear n0_ n1_; (try clear hb); (try clear hb2); (try clear hk); (try clear hi); have hcz18_0 : w17.cell? ⟨gb400, 0, none⟩ = some (.int .i64 a0_0) := (blk_cell BK400.out 0).trans rfl; have hcz18_1 : w17.cell? ⟨gb400, 1, none⟩ = some (.int .i64 a0_1) := (blk_cell BK400.out 1).trans rfl; have hfz18_0 := blk_frozen BK400.out 0; have hfz18_1 := blk_frozen BK400.out 1))
          go_ret
          exact ⟨by first | rfl | (simp [errW_none, errW_some] <;> rfl) | (simp [*, errW_none, errW_some] <;> rfl), by repeat (first | (with_reducible first | exact HB.out | apply below_alloc | apply pw_below_drewN | apply below_drew1 | refine below_set ?_ GE400.out) | exact HB.out)⟩
        · rw [if_neg c14] at H
          have c14b0 : (a0_0 == 4) = false := beq_eq_false_iff_ne.mpr c14
          have c14b1 : (a0_0 != 4) = true := bne_iff_ne.mpr c14
          by_cases c19 : a0_0 = 5
          · rw [if_pos c19] at H
            have c19b0 : (a0_0 == 5) = true := beq_iff_eq.mpr c19
            have c19b1 : (a0_0 != 5) = false := bne_eq_false_iff_eq.mpr c19
            clear c19
            obtain rfl := Option.some.inj H
            go_enter Tryz.func34, Tryz.ntmps34
            go_wp2_with (first | ((with_reducible refine gate_dst (N := 1) rfl ?_); refine box_event ?hg (N := 1) ?hd (cs := #[.int .i64 a0_0, .int .i64 a0_1]) (t := 25) ?hr ?_; (case hd => rfl); (case hg => rfl); (case hr => first | (go_simp; done) | (go_simp; rfl)); intro gb400 hg w20 hbox hb; have n0_ := Aside0.mk (below_step (by repeat (first | (with_reducible first | exact HB.out | apply below_alloc | apply pw_below_drewN | apply below_drew1) | exact HB.out)) hb); have n1_ := Aside0.mk (hbox); have n2_ := Aside0.mk ((by rw [hg]; exact (below_size (by repeat (first | (with_reducible first | exact HB.out | apply below_alloc | apply pw_below_drewN | apply below_drew1) | exact HB.out))) : w.heap.size ≤ gb400)); have n3_ := Aside0.mk ((by rw [hg]; exact (below_size (by repeat (first | (with_reducible first | exact HB.out | apply below_alloc | apply pw_below_drewN | apply below_drew1) | exact HB.out))) : w.heap.size ≤ gb400)); clear HB; have HB := n0_; have BK400 := n1_; have GW400 := n2_; have GE400 := n3_; clear n0_ n1_ n2_ n3_; clear hb hbox hg; have hcz21_0 : w20.cell? ⟨gb400, 0, none⟩ = some (.int .i64 a0_0) := (blk_cell BK400.out 0).trans rfl; have hcz21_1 : w20.cell? ⟨gb400, 1, none⟩ = some (.int .i64 a0_1) := (blk_cell BK400.out 1).trans rfl; have hfz21_0 := blk_frozen BK400.out 0; have hfz21_1 := blk_frozen BK400.out 1) | ((with_reducible refine gate_callee (f := 13) rfl ?_); refine goesL_ (some 7) rfl rfl Tryz.func13 (by kernel_rfl) rfl #[.agg #[.int .i64 a0_0, .int .i64 a0_1]] rfl (by (try simp only [List.map_toArray, List.map_cons, List.map_nil]); first | done | rfl | (simp only [List.length_drop, List.length_take]; rfl)) ?_; (with_reducible refine (klaxonref08_Is.calls a0_0 a0_1 true _ A2.out).mono ?_); rintro e w22 ⟨rfl, hb⟩; refine ⟨_, rfl, ?_⟩; have n0_ := Aside0.mk (blk_below (g := gb400) (o := .cells #[.int .i64 a0_0, .int .i64 a0_1] 25 (0, 0)) (by (with_reducible repeat (first | refine blk_drewN ?_ _ | refine blk_drew ?_ | refine blk_alloc ?_ _)); exact BK400.out) hb); have n1_ := Aside0.mk (below_step (by repeat (first | (with_reducible first | exact HB.out | apply below_alloc | apply pw_below_drewN | apply below_drew1 | refine below_set ?_ GE400.out) | exact HB.out)) hb); clear BK400; clear HB; have BK400 := n0_; have HB := n1_; clear n0_ n1_; (try clear hb); (try clear hb2); (try clear hk); (try clear hi); have hcz23_0 : w22.cell? ⟨gb400, 0, none⟩ = some (.int .i64 a0_0) := (blk_cell BK400.out 0).trans rfl; have hcz23_1 : w22.cell? ⟨gb400, 1, none⟩ = some (.int .i64 a0_1) := (blk_cell BK400.out 1).trans rfl; have hfz23_0 := blk_frozen BK400.out 0; have hfz23_1 := blk_frozen BK400.out 1))
            go_ret
            exact ⟨by first | rfl | (simp [errW_none, errW_some] <;> rfl) | (simp [*, errW_none, errW_some] <;> rfl), by repeat (first | (with_reducible first | exact HB.out | apply below_alloc | apply pw_below_drewN | apply below_drew1 | refine below_set ?_ GE400.out) | exact HB.out)⟩
          · rw [if_neg c19] at H
            have c19b0 : (a0_0 == 5) = false := beq_eq_false_iff_ne.mpr c19
            have c19b1 : (a0_0 != 5) = true := bne_iff_ne.mpr c19
            by_cases c24 : a0_1 < 0
            · rw [if_pos c24] at H
              have c24b0 : decide (a0_1 < 0) = true := decide_eq_true c24
              clear c24
              replace H := Option.bind_eq_some_iff.mp H
              obtain ⟨⟨t402, t403⟩, A250, H⟩ := H
              replace H : ((klaxonref08_Print.f k t402 t403).bind fun t404 => (if 1 + t404.size ≤ 9223372036854775807 then (some ((⟨#[45]⟩ : ByteArray) ++ t404)) else (none))) = some r := H
              have A25 := Aside0.mk A250
              clear A250
              replace H := Option.bind_eq_some_iff.mp H
              obtain ⟨t404, A260, H⟩ := H
              replace H : (if 1 + t404.size ≤ 9223372036854775807 then (some ((⟨#[45]⟩ : ByteArray) ++ t404)) else (none)) = some r := H
              have A26 := Aside0.mk A260
              clear A260
              by_cases c27 : 1 + t404.size ≤ 9223372036854775807
              · rw [if_pos c27] at H
                have c27b0 := eq_true c27
                have c27b1 : decide (1 + t404.size ≤ 9223372036854775807) = true := decide_eq_true c27
                try have c27b2 : (9223372036854775807 < 1 + t404.size) = False := eq_false (Nat.not_lt.2 c27)
                obtain rfl := Option.some.inj H
                go_enter Tryz.func34, Tryz.ntmps34
                go_wp2_with (first | ((with_reducible refine gate_dst (N := 1) rfl ?_); refine box_event ?hg (N := 1) ?hd (cs := #[.int .i64 a0_0, .int .i64 a0_1]) (t := 25) ?hr ?_; (case hd => rfl); (case hg => rfl); (case hr => first | (go_simp; done) | (go_simp; rfl)); intro gb400 hg w28 hbox hb; have n0_ := Aside0.mk (below_step (by repeat (first | (with_reducible first | exact HB.out | apply below_alloc | apply pw_below_drewN | apply below_drew1) | exact HB.out)) hb); have n1_ := Aside0.mk (hbox); have n2_ := Aside0.mk ((by rw [hg]; exact (below_size (by repeat (first | (with_reducible first | exact HB.out | apply below_alloc | apply pw_below_drewN | apply below_drew1) | exact HB.out))) : w.heap.size ≤ gb400)); have n3_ := Aside0.mk ((by rw [hg]; exact (below_size (by repeat (first | (with_reducible first | exact HB.out | apply below_alloc | apply pw_below_drewN | apply below_drew1) | exact HB.out))) : w.heap.size ≤ gb400)); clear HB; have HB := n0_; have BK400 := n1_; have GW400 := n2_; have GE400 := n3_; clear n0_ n1_ n2_ n3_; clear hb hbox hg; have hcz29_0 : w28.cell? ⟨gb400, 0, none⟩ = some (.int .i64 a0_0) := (blk_cell BK400.out 0).trans rfl; have hcz29_1 : w28.cell? ⟨gb400, 1, none⟩ = some (.int .i64 a0_1) := (blk_cell BK400.out 1).trans rfl; have hfz29_0 := blk_frozen BK400.out 0; have hfz29_1 := blk_frozen BK400.out 1) | ((with_reducible refine gate_callee (f := 13) rfl ?_); refine goesL_ (some 7) rfl rfl Tryz.func13 (by kernel_rfl) rfl #[.agg #[.int .i64 a0_0, .int .i64 a0_1]] rfl (by (try simp only [List.map_toArray, List.map_cons, List.map_nil]); first | done | rfl | (simp only [List.length_drop, List.length_take]; rfl)) ?_; (with_reducible refine (klaxonref08_Is.calls a0_0 a0_1 true _ A2.out).mono ?_); rintro e w30 ⟨rfl, hb⟩; refine ⟨_, rfl, ?_⟩; have n0_ := Aside0.mk (blk_below (g := gb400) (o := .cells #[.int .i64 a0_0, .int .i64 a0_1] 25 (0, 0)) (by (with_reducible repeat (first | refine blk_drewN ?_ _ | refine blk_drew ?_ | refine blk_alloc ?_ _)); exact BK400.out) hb); have n1_ := Aside0.mk (below_step (by repeat (first | (with_reducible first | exact HB.out | apply below_alloc | apply pw_below_drewN | apply below_drew1 | refine below_set ?_ GE400.out) | exact HB.out)) hb); clear BK400; clear HB; have BK400 := n0_; have HB := n1_; clear n0_ n1_; (try clear hb); (try clear hb2); (try clear hk); (try clear hi); have hcz31_0 : w30.cell? ⟨gb400, 0, none⟩ = some (.int .i64 a0_0) := (blk_cell BK400.out 0).trans rfl; have hcz31_1 : w30.cell? ⟨gb400, 1, none⟩ = some (.int .i64 a0_1) := (blk_cell BK400.out 1).trans rfl; have hfz31_0 := blk_frozen BK400.out 0; have hfz31_1 := blk_frozen BK400.out 1) | ((with_reducible refine gate_callee (f := 20) rfl ?_); refine goesL_ (some 25) rfl rfl Tryz.func20 (by kernel_rfl) rfl #[.int .i64 (wrap64 (-a0_1))] rfl (by (try simp only [List.map_toArray, List.map_cons, List.map_nil]); first | done | rfl | (simp only [List.length_drop, List.length_take]; rfl)) ?_; (with_reducible refine (klaxonref08_Num.calls (wrap64 (-a0_1)) t402 t403 _ A25.out).mono ?_); rintro e w32 ⟨rfl, hb⟩; refine ⟨_, rfl, ?_⟩; have n0_ := Aside0.mk (blk_below (g := gb400) (o := .cells #[.int .i64 a0_0, .int .i64 a0_1] 25 (0, 0)) (by (with_reducible repeat (first | refine blk_drewN ?_ _ | refine blk_drew ?_ | refine blk_alloc ?_ _)); exact BK400.out) hb); have n1_ := Aside0.mk (below_step (by repeat (first | (with_reducible first | exact HB.out | apply below_alloc | apply pw_below_drewN | apply below_drew1 | refine below_set ?_ GE400.out) | exact HB.out)) hb); clear BK400; clear HB; have BK400 := n0_; have HB := n1_; clear n0_ n1_; (try clear hb); (try clear hb2); (try clear hk); (try clear hi)) | ((with_reducible refine gate_callee (f := 34) rfl ?_); refine goesL_ (some 26) rfl rfl Tryz.func34 (by kernel_rfl) rfl #[.agg #[.int .i64 t402, .int .i64 t403]] rfl (by (try simp only [List.map_toArray, List.map_cons, List.map_nil]); first | done | rfl | (simp only [List.length_drop, List.length_take]; rfl)) ?_; (with_reducible refine (ih k (by omega) t402 t403 t404 _ A26.out).mono ?_); rintro e w33 ⟨rfl, hb⟩; refine ⟨_, rfl, ?_⟩; have n0_ := Aside0.mk (blk_below (g := gb400) (o := .cells #[.int .i64 a0_0, .int .i64 a0_1] 25 (0, 0)) (by (with_reducible repeat (first | refine blk_drewN ?_ _ | refine blk_drew ?_ | refine blk_alloc ?_ _)); exact BK400.out) hb); have n1_ := Aside0.mk (below_step (by repeat (first | (with_reducible first | exact HB.out | apply below_alloc | apply pw_below_drewN | apply below_drew1 | refine below_set ?_ GE400.out) | exact HB.out)) hb); clear BK400; clear HB; have BK400 := n0_; have HB := n1_; clear n0_ n1_; (try clear hb); (try clear hb2); (try clear hk); (try clear hi)))
                go_ret
                exact ⟨by first | rfl | (simp [errW_none, errW_some] <;> rfl) | (simp [*, errW_none, errW_some] <;> rfl), by repeat (first | (with_reducible first | exact HB.out | apply below_alloc | apply pw_below_drewN | apply below_drew1 | refine below_set ?_ GE400.out) | exact HB.out)⟩
              · rw [if_neg c27] at H
                exact absurd H (by simp)
            · rw [if_neg c24] at H
              have c24b0 : decide (a0_1 < 0) = false := decide_eq_false c24
              clear c24
              replace H := Option.bind_eq_some_iff.mp H
              obtain ⟨t405, A340, H⟩ := H
              replace H : (if (Int.tmod a0_1 1000) = 0 then (some t405) else ((klaxonref08_Digits.f k (wrap64 (1000 + (Int.tmod a0_1 1000)))).bind fun t406 => (if 1 ≤ (t406.size : Int) then (klaxonref08_Print.l0 k t405 (t406.extract 1 t406.size)) else (none)))) = some r := H
              have A34 := Aside0.mk A340
              clear A340
              by_cases c35 : (Int.tmod a0_1 1000) = 0
              · rw [if_pos c35] at H
                have c35b0 : ((Int.tmod a0_1 1000) == 0) = true := beq_iff_eq.mpr c35
                have c35b1 : ((Int.tmod a0_1 1000) != 0) = false := bne_eq_false_iff_eq.mpr c35
                clear c35
                obtain rfl := Option.some.inj H
                go_enter Tryz.func34, Tryz.ntmps34
                go_wp2_with (first | ((with_reducible refine gate_dst (N := 1) rfl ?_); refine box_event ?hg (N := 1) ?hd (cs := #[.int .i64 a0_0, .int .i64 a0_1]) (t := 25) ?hr ?_; (case hd => rfl); (case hg => rfl); (case hr => first | (go_simp; done) | (go_simp; rfl)); intro gb400 hg w36 hbox hb; have n0_ := Aside0.mk (below_step (by repeat (first | (with_reducible first | exact HB.out | apply below_alloc | apply pw_below_drewN | apply below_drew1) | exact HB.out)) hb); have n1_ := Aside0.mk (hbox); have n2_ := Aside0.mk ((by rw [hg]; exact (below_size (by repeat (first | (with_reducible first | exact HB.out | apply below_alloc | apply pw_below_drewN | apply below_drew1) | exact HB.out))) : w.heap.size ≤ gb400)); have n3_ := Aside0.mk ((by rw [hg]; exact (below_size (by repeat (first | (with_reducible first | exact HB.out | apply below_alloc | apply pw_below_drewN | apply below_drew1) | exact HB.out))) : w.heap.size ≤ gb400)); clear HB; have HB := n0_; have BK400 := n1_; have GW400 := n2_; have GE400 := n3_; clear n0_ n1_ n2_ n3_; clear hb hbox hg; have hcz37_0 : w36.cell? ⟨gb400, 0, none⟩ = some (.int .i64 a0_0) := (blk_cell BK400.out 0).trans rfl; have hcz37_1 : w36.cell? ⟨gb400, 1, none⟩ = some (.int .i64 a0_1) := (blk_cell BK400.out 1).trans rfl; have hfz37_0 := blk_frozen BK400.out 0; have hfz37_1 := blk_frozen BK400.out 1) | ((with_reducible refine gate_callee (f := 13) rfl ?_); refine goesL_ (some 7) rfl rfl Tryz.func13 (by kernel_rfl) rfl #[.agg #[.int .i64 a0_0, .int .i64 a0_1]] rfl (by (try simp only [List.map_toArray, List.map_cons, List.map_nil]); first | done | rfl | (simp only [List.length_drop, List.length_take]; rfl)) ?_; (with_reducible refine (klaxonref08_Is.calls a0_0 a0_1 true _ A2.out).mono ?_); rintro e w38 ⟨rfl, hb⟩; refine ⟨_, rfl, ?_⟩; have n0_ := Aside0.mk (blk_below (g := gb400) (o := .cells #[.int .i64 a0_0, .int .i64 a0_1] 25 (0, 0)) (by (with_reducible repeat (first | refine blk_drewN ?_ _ | refine blk_drew ?_ | refine blk_alloc ?_ _)); exact BK400.out) hb); have n1_ := Aside0.mk (below_step (by repeat (first | (with_reducible first | exact HB.out | apply below_alloc | apply pw_below_drewN | apply below_drew1 | refine below_set ?_ GE400.out) | exact HB.out)) hb); clear BK400; clear HB; have BK400 := n0_; have HB := n1_; clear n0_ n1_; (try clear hb); (try clear hb2); (try clear hk); (try clear hi); have hcz39_0 : w38.cell? ⟨gb400, 0, none⟩ = some (.int .i64 a0_0) := (blk_cell BK400.out 0).trans rfl; have hcz39_1 : w38.cell? ⟨gb400, 1, none⟩ = some (.int .i64 a0_1) := (blk_cell BK400.out 1).trans rfl; have hfz39_0 := blk_frozen BK400.out 0; have hfz39_1 := blk_frozen BK400.out 1) | ((with_reducible refine gate_callee (f := 51) rfl ?_); refine goesL_ (some 31) rfl rfl Tryz.func51 (by kernel_rfl) rfl #[.int .i64 (wrap64 (Int.tdiv a0_1 1000))] rfl (by (try simp only [List.map_toArray, List.map_cons, List.map_nil]); first | done | rfl | (simp only [List.length_drop, List.length_take]; rfl)) ?_; (with_reducible refine (klaxonref08_Digits.calls k (wrap64 (Int.tdiv a0_1 1000)) t405 _ A34.out).mono ?_); rintro e w40 ⟨rfl, hb⟩; refine ⟨_, rfl, ?_⟩; have n0_ := Aside0.mk (blk_below (g := gb400) (o := .cells #[.int .i64 a0_0, .int .i64 a0_1] 25 (0, 0)) (by (with_reducible repeat (first | refine blk_drewN ?_ _ | refine blk_drew ?_ | refine blk_alloc ?_ _)); exact BK400.out) hb); have n1_ := Aside0.mk (below_step (by repeat (first | (with_reducible first | exact HB.out | apply below_alloc | apply pw_below_drewN | apply below_drew1 | refine below_set ?_ GE400.out) | exact HB.out)) hb); clear BK400; clear HB; have BK400 := n0_; have HB := n1_; clear n0_ n1_; (try clear hb); (try clear hb2); (try clear hk); (try clear hi); have hcz41_0 : w40.cell? ⟨gb400, 0, none⟩ = some (.int .i64 a0_0) := (blk_cell BK400.out 0).trans rfl; have hcz41_1 : w40.cell? ⟨gb400, 1, none⟩ = some (.int .i64 a0_1) := (blk_cell BK400.out 1).trans rfl; have hfz41_0 := blk_frozen BK400.out 0; have hfz41_1 := blk_frozen BK400.out 1))
                go_ret
                exact ⟨by first | rfl | (simp [errW_none, errW_some] <;> rfl) | (simp [*, errW_none, errW_some] <;> rfl), by repeat (first | (with_reducible first | exact HB.out | apply below_alloc | apply pw_below_drewN | apply below_drew1 | refine below_set ?_ GE400.out) | exact HB.out)⟩
              · rw [if_neg c35] at H
                have c35b0 : ((Int.tmod a0_1 1000) == 0) = false := beq_eq_false_iff_ne.mpr c35
                have c35b1 : ((Int.tmod a0_1 1000) != 0) = true := bne_iff_ne.mpr c35
                replace H := Option.bind_eq_some_iff.mp H
                obtain ⟨t406, A420, H⟩ := H
                replace H : (if 1 ≤ (t406.size : Int) then (klaxonref08_Print.l0 k t405 (t406.extract 1 t406.size)) else (none)) = some r := H
                have A42 := Aside0.mk A420
                clear A420
                by_cases c43 : 1 ≤ (t406.size : Int)
                · rw [if_pos c43] at H
                  have c43b0 := eq_true c43
                  have c43b1 : decide (1 ≤ (t406.size : Int)) = true := decide_eq_true c43
                  clear c43
                  have H' := Aside0.mk H
                  clear H
                  go_enter Tryz.func34, Tryz.ntmps34
                  go_wp2_with (first | ((with_reducible refine gate_dst (N := 1) rfl ?_); refine box_event ?hg (N := 1) ?hd (cs := #[.int .i64 a0_0, .int .i64 a0_1]) (t := 25) ?hr ?_; (case hd => rfl); (case hg => rfl); (case hr => first | (go_simp; done) | (go_simp; rfl)); intro gb400 hg w44 hbox hb; have n0_ := Aside0.mk (below_step (by repeat (first | (with_reducible first | exact HB.out | apply below_alloc | apply pw_below_drewN | apply below_drew1) | exact HB.out)) hb); have n1_ := Aside0.mk (hbox); have n2_ := Aside0.mk ((by rw [hg]; exact (below_size (by repeat (first | (with_reducible first | exact HB.out | apply below_alloc | apply pw_below_drewN | apply below_drew1) | exact HB.out))) : w.heap.size ≤ gb400)); have n3_ := Aside0.mk ((by rw [hg]; exact (below_size (by repeat (first | (with_reducible first | exact HB.out | apply below_alloc | apply pw_below_drewN | apply below_drew1) | exact HB.out))) : w.heap.size ≤ gb400)); clear HB; have HB := n0_; have BK400 := n1_; have GW400 := n2_; have GE400 := n3_; clear n0_ n1_ n2_ n3_; clear hb hbox hg; have hcz45_0 : w44.cell? ⟨gb400, 0, none⟩ = some (.int .i64 a0_0) := (blk_cell BK400.out 0).trans rfl; have hcz45_1 : w44.cell? ⟨gb400, 1, none⟩ = some (.int .i64 a0_1) := (blk_cell BK400.out 1).trans rfl; have hfz45_0 := blk_frozen BK400.out 0; have hfz45_1 := blk_frozen BK400.out 1) | ((with_reducible refine gate_callee (f := 13) rfl ?_); refine goesL_ (some 7) rfl rfl Tryz.func13 (by kernel_rfl) rfl #[.agg #[.int .i64 a0_0, .int .i64 a0_1]] rfl (by (try simp only [List.map_toArray, List.map_cons, List.map_nil]); first | done | rfl | (simp only [List.length_drop, List.length_take]; rfl)) ?_; (with_reducible refine (klaxonref08_Is.calls a0_0 a0_1 true _ A2.out).mono ?_); rintro e w46 ⟨rfl, hb⟩; refine ⟨_, rfl, ?_⟩; have n0_ := Aside0.mk (blk_below (g := gb400) (o := .cells #[.int .i64 a0_0, .int .i64 a0_1] 25 (0, 0)) (by (with_reducible repeat (first | refine blk_drewN ?_ _ | refine blk_drew ?_ | refine blk_alloc ?_ _)); exact BK400.out) hb); have n1_ := Aside0.mk (below_step (by repeat (first | (with_reducible first | exact HB.out | apply below_alloc | apply pw_below_drewN | apply below_drew1 | refine below_set ?_ GE400.out) | exact HB.out)) hb); clear BK400; clear HB; have BK400 := n0_; have HB := n1_; clear n0_ n1_; (try clear hb); (try clear hb2); (try clear hk); (try clear hi); have hcz47_0 : w46.cell? ⟨gb400, 0, none⟩ = some (.int .i64 a0_0) := (blk_cell BK400.out 0).trans rfl; have hcz47_1 : w46.cell? ⟨gb400, 1, none⟩ = some (.int .i64 a0_1) := (blk_cell BK400.out 1).trans rfl; have hfz47_0 := blk_frozen BK400.out 0; have hfz47_1 := blk_frozen BK400.out 1) | ((with_reducible refine gate_callee (f := 51) rfl ?_); refine goesL_ (some 31) rfl rfl Tryz.func51 (by kernel_rfl) rfl #[.int .i64 (wrap64 (Int.tdiv a0_1 1000))] rfl (by (try simp only [List.map_toArray, List.map_cons, List.map_nil]); first | done | rfl | (simp only [List.length_drop, List.length_take]; rfl)) ?_; (with_reducible refine (klaxonref08_Digits.calls k (wrap64 (Int.tdiv a0_1 1000)) t405 _ A34.out).mono ?_); rintro e w48 ⟨rfl, hb⟩; refine ⟨_, rfl, ?_⟩; have n0_ := Aside0.mk (blk_below (g := gb400) (o := .cells #[.int .i64 a0_0, .int .i64 a0_1] 25 (0, 0)) (by (with_reducible repeat (first | refine blk_drewN ?_ _ | refine blk_drew ?_ | refine blk_alloc ?_ _)); exact BK400.out) hb); have n1_ := Aside0.mk (below_step (by repeat (first | (with_reducible first | exact HB.out | apply below_alloc | apply pw_below_drewN | apply below_drew1 | refine below_set ?_ GE400.out) | exact HB.out)) hb); clear BK400; clear HB; have BK400 := n0_; have HB := n1_; clear n0_ n1_; (try clear hb); (try clear hb2); (try clear hk); (try clear hi); have hcz49_0 : w48.cell? ⟨gb400, 0, none⟩ = some (.int .i64 a0_0) := (blk_cell BK400.out 0).trans rfl; have hcz49_1 : w48.cell? ⟨gb400, 1, none⟩ = some (.int .i64 a0_1) := (blk_cell BK400.out 1).trans rfl; have hfz49_0 := blk_frozen BK400.out 0; have hfz49_1 := blk_frozen BK400.out 1) | ((with_reducible refine gate_callee (f := 51) rfl ?_); refine goesL_ (some 40) rfl rfl Tryz.func51 (by kernel_rfl) rfl #[.int .i64 (wrap64 (1000 + (Int.tmod a0_1 1000)))] rfl (by (try simp only [List.map_toArray, List.map_cons, List.map_nil]); first | done | rfl | (simp only [List.length_drop, List.length_take]; rfl)) ?_; (with_reducible refine (klaxonref08_Digits.calls k (wrap64 (1000 + (Int.tmod a0_1 1000))) t406 _ A42.out).mono ?_); rintro e w50 ⟨rfl, hb⟩; refine ⟨_, rfl, ?_⟩; have n0_ := Aside0.mk (blk_below (g := gb400) (o := .cells #[.int .i64 a0_0, .int .i64 a0_1] 25 (0, 0)) (by (with_reducible repeat (first | refine blk_drewN ?_ _ | refine blk_drew ?_ | refine blk_alloc ?_ _)); exact BK400.out) hb); have n1_ := Aside0.mk (below_step (by repeat (first | (with_reducible first | exact HB.out | apply below_alloc | apply pw_below_drewN | apply below_drew1 | refine below_set ?_ GE400.out) | exact HB.out)) hb); clear BK400; clear HB; have BK400 := n0_; have HB := n1_; clear n0_ n1_; (try clear hb); (try clear hb2); (try clear hk); (try clear hi)))
                  go_loopg [5] k (fun kq v5 w' => ∃ (x5_1 : ByteArray), v5 = .string x5_1 ∧ Aside0 (klaxonref08_Print.l0 kq t405 x5_1 = some r) ∧ Aside0 (kq ≤ k) ∧ Aside0 (w'.heap[gb400]? = some (.cells #[.int .i64 a0_0, .int .i64 a0_1] 25 (0, 0))) ∧ Aside0 (Below w.heap.size w w'))
                  case atStart => exact ⟨(t406.extract 1 t406.size), (by first | rfl | (simp; done) | (simp [*]; done)), H', ⟨Nat.le_refl _⟩, ⟨by (with_reducible repeat (first | refine blk_drewN ?_ _ | refine blk_drew ?_ | refine blk_alloc ?_ _)); exact BK400.out⟩, ⟨by repeat (first | (with_reducible first | exact HB.out | apply below_alloc | apply pw_below_drewN | apply below_drew1 | refine below_set ?_ GE400.out) | exact HB.out)⟩⟩
                  case round =>
                    clear H'
                    try clear c1
                    try clear c2
                    try clear p2
                    try clear c3
                    try clear c4
                    try clear c4b0
                    try clear c4b1
                    try clear c5
                    try clear p6
                    try clear c9
                    try clear c9b0
                    try clear c9b1
                    try clear c13
                    try clear c14
                    try clear c14b0
                    try clear c14b1
                    try clear c19
                    try clear c19b0
                    try clear c19b1
                    try clear c20
                    try clear c24
                    try clear c24b0
                    try clear c27
                    try clear c27b0
                    try clear c27b1
                    try clear c27b2
                    try clear c34
                    try clear c35
                    try clear c35b0
                    try clear c35b1
                    try clear c43
                    try clear c43b0
                    try clear c43b1
                    try clear hcz11_0
                    try clear hcz11_1
                    try clear hcz13_0
                    try clear hcz13_1
                    try clear hcz16_0
                    try clear hcz16_1
                    try clear hcz18_0
                    try clear hcz18_1
                    try clear hcz21_0
                    try clear hcz21_1
                    try clear hcz23_0
                    try clear hcz23_1
                    try clear hcz29_0
                    try clear hcz29_1
                    try clear hcz31_0
                    try clear hcz31_1
                    try clear hcz37_0
                    try clear hcz37_1
                    try clear hcz39_0
                    try clear hcz39_1
                    try clear hcz41_0
                    try clear hcz41_1
                    try clear hcz45_0
                    try clear hcz45_1
                    try clear hcz47_0
                    try clear hcz47_1
                    try clear hcz49_0
                    try clear hcz49_1
                    try clear hcz6_0
                    try clear hcz6_1
                    try clear hcz8_0
                    try clear hcz8_1
                    try clear hfz11_0
                    try clear hfz11_1
                    try clear hfz13_0
                    try clear hfz13_1
                    try clear hfz16_0
                    try clear hfz16_1
                    try clear hfz18_0
                    try clear hfz18_1
                    try clear hfz21_0
                    try clear hfz21_1
                    try clear hfz23_0
                    try clear hfz23_1
                    try clear hfz29_0
                    try clear hfz29_1
                    try clear hfz31_0
                    try clear hfz31_1
                    try clear hfz37_0
                    try clear hfz37_1
                    try clear hfz39_0
                    try clear hfz39_1
                    try clear hfz41_0
                    try clear hfz41_1
                    try clear hfz45_0
                    try clear hfz45_1
                    try clear hfz47_0
                    try clear hfz47_1
                    try clear hfz49_0
                    try clear hfz49_1
                    try clear hfz6_0
                    try clear hfz6_1
                    try clear hfz8_0
                    try clear hfz8_1
                    obtain ⟨x5_1, rfl, HA, HK1, BK400, HB⟩ := hrel
                    cases gk with
                    | zero => exact absurd HA.out (by simp [klaxonref08_Print.l0])
                    | succ k1 =>
                      have H := HA.out
                      clear HA
                      simp only [klaxonref08_Print.l0] at H
                      obtain ⟨ji51, hji51⟩ : ∃ j_ : Int, (wrap64 ((x5_1.size : Int) - 1)) = j_ := ⟨_, rfl⟩
                      replace H : (if 0 ≤ (ji51) then (if (ji51) < (x5_1.size : Int) then (if (bt x5_1 (ji51)) = 48 then (if (ji51) ≤ (x5_1.size : Int) then (klaxonref08_Print.l0 k1 t405 (x5_1.extract 0 ((ji51) : Int).toNat)) else (none)) else (if t405.size + 1 ≤ 9223372036854775807 then (if (t405 ++ (⟨#[46]⟩ : ByteArray)).size + x5_1.size ≤ 9223372036854775807 then (some ((t405 ++ (⟨#[46]⟩ : ByteArray)) ++ x5_1)) else (none)) else (none))) else (none)) else (none)) = some r := by first | (rw [hji51] at H; exact H) | (simp only [hji51] at H ⊢; exact H)
                      have hji51w : (IntKind.i64.wrap ((x5_1.size : Int) - 1)) = ji51 := (i64_w _).trans hji51
                      by_cases c52 : 0 ≤ (ji51)
                      · rw [if_pos c52] at H
                        have c52b0 : decide (0 ≤ (ji51)) = true := decide_eq_true c52
                        clear c52
                        by_cases c53 : (ji51) < (x5_1.size : Int)
                        · rw [if_pos c53] at H
                          have c53b0 : decide ((ji51) < (x5_1.size : Int)) = true := decide_eq_true c53
                          clear c53
                          by_cases c55 : (bt x5_1 (ji51)) = 48
                          · rw [if_pos c55] at H
                            have c55b0 : ((bt x5_1 (ji51)) == 48) = true := beq_iff_eq.mpr c55
                            have c55b1 : ((bt x5_1 (ji51)) != 48) = false := bne_eq_false_iff_eq.mpr c55
                            clear c55
                            have c56b0 := eq_true (of_decide_eq_true (by first | (with_reducible assumption) | assumption) : 0 ≤ (ji51))
                            by_cases c57 : (ji51) ≤ (x5_1.size : Int)
                            · rw [if_pos c57] at H
                              have c57b0 := eq_true c57
                              have c57b1 : decide ((ji51) ≤ (x5_1.size : Int)) = true := decide_eq_true c57
                              clear c57
                              have H' := Aside0.mk H
                              clear H
                              have p54 : 0 ≤ ((ji51) : Int) := of_decide_eq_true (by first | (with_reducible assumption) | assumption)
                              have q54 : (ji51) < (x5_1.size : Int) := of_decide_eq_true (by first | (with_reducible assumption) | assumption)
                              have hx54 := bt_at x5_1 (ji51)
                              replace p54 := eq_true p54
                              replace q54 := eq_true q54
                              go_wp2
                              go_roundg k1
                              case measure => have := HK1.out; omega
                              case rel => exact ⟨(x5_1.extract 0 ((ji51) : Int).toNat), (by first | rfl | (simp; done) | (simp only [← hji51] <;> (first | rfl | simp)) | (simp [*]; done)), H', ⟨by have := HK1.out; omega⟩, ⟨by (with_reducible repeat (first | refine blk_drewN ?_ _ | refine blk_drew ?_ | refine blk_alloc ?_ _)); exact BK400.out⟩, ⟨by repeat (first | (with_reducible first | exact HB.out | apply below_alloc | apply pw_below_drewN | apply below_drew1 | refine below_set ?_ GE400.out) | exact HB.out)⟩⟩
                            · rw [if_neg c57] at H
                              exact absurd H (by simp)
                          · rw [if_neg c55] at H
                            have c55b0 : ((bt x5_1 (ji51)) == 48) = false := beq_eq_false_iff_ne.mpr c55
                            have c55b1 : ((bt x5_1 (ji51)) != 48) = true := bne_iff_ne.mpr c55
                            by_cases c58 : t405.size + 1 ≤ 9223372036854775807
                            · rw [if_pos c58] at H
                              have c58b0 := eq_true c58
                              have c58b1 : decide (t405.size + 1 ≤ 9223372036854775807) = true := decide_eq_true c58
                              try have c58b2 : (9223372036854775807 < t405.size + 1) = False := eq_false (Nat.not_lt.2 c58)
                              by_cases c59 : (t405 ++ (⟨#[46]⟩ : ByteArray)).size + x5_1.size ≤ 9223372036854775807
                              · rw [if_pos c59] at H
                                have c59b0 := eq_true c59
                                have c59b1 : decide ((t405 ++ (⟨#[46]⟩ : ByteArray)).size + x5_1.size ≤ 9223372036854775807) = true := decide_eq_true c59
                                try have c59b2 : (9223372036854775807 < (t405 ++ (⟨#[46]⟩ : ByteArray)).size + x5_1.size) = False := eq_false (Nat.not_lt.2 c59)
                                obtain rfl := Option.some.inj H
                                have p54 : 0 ≤ ((ji51) : Int) := of_decide_eq_true (by first | (with_reducible assumption) | assumption)
                                have q54 : (ji51) < (x5_1.size : Int) := of_decide_eq_true (by first | (with_reducible assumption) | assumption)
                                have hx54 := bt_at x5_1 (ji51)
                                replace p54 := eq_true p54
                                replace q54 := eq_true q54
                                go_wp2
                                go_ret
                                exact ⟨by first | rfl | (simp [errW_none, errW_some] <;> rfl) | (simp only [← hji51]; first | rfl | (simp [errW_none, errW_some] <;> rfl)) | (simp [*, errW_none, errW_some] <;> rfl), by repeat (first | (with_reducible first | exact HB.out | apply below_alloc | apply pw_below_drewN | apply below_drew1 | refine below_set ?_ GE400.out) | exact HB.out)⟩
                              · rw [if_neg c59] at H
                                exact absurd H (by simp)
                            · rw [if_neg c58] at H
                              exact absurd H (by simp)
                        · rw [if_neg c53] at H
                          exact absurd H (by simp)
                      · rw [if_neg c52] at H
                        exact absurd H (by simp)
                · rw [if_neg c43] at H
                  exact absurd H (by simp)
  · replace c3 := Bool.eq_false_iff.mpr c3
    subst c3
    have H1 : (some (⟨#[]⟩ : ByteArray)) = some r := by rw [if_neg (show ¬ (false = true) by decide)] at H; exact H
    clear H
    have H := H1
    clear H1
    obtain rfl := Option.some.inj H
    go_enter Tryz.func34, Tryz.ntmps34
    go_wp2_with (first | ((with_reducible refine gate_dst (N := 1) rfl ?_); refine box_event ?hg (N := 1) ?hd (cs := #[.int .i64 a0_0, .int .i64 a0_1]) (t := 25) ?hr ?_; (case hd => rfl); (case hg => rfl); (case hr => first | (go_simp; done) | (go_simp; rfl)); intro gb400 hg w60 hbox hb; have n0_ := Aside0.mk (below_step (by repeat (first | (with_reducible first | exact HB.out | apply below_alloc | apply pw_below_drewN | apply below_drew1) | exact HB.out)) hb); have n1_ := Aside0.mk (hbox); have n2_ := Aside0.mk ((by rw [hg]; exact (below_size (by repeat (first | (with_reducible first | exact HB.out | apply below_alloc | apply pw_below_drewN | apply below_drew1) | exact HB.out))) : w.heap.size ≤ gb400)); have n3_ := Aside0.mk ((by rw [hg]; exact (below_size (by repeat (first | (with_reducible first | exact HB.out | apply below_alloc | apply pw_below_drewN | apply below_drew1) | exact HB.out))) : w.heap.size ≤ gb400)); clear HB; have HB := n0_; have BK400 := n1_; have GW400 := n2_; have GE400 := n3_; clear n0_ n1_ n2_ n3_; clear hb hbox hg; have hcz61_0 : w60.cell? ⟨gb400, 0, none⟩ = some (.int .i64 a0_0) := (blk_cell BK400.out 0).trans rfl; have hcz61_1 : w60.cell? ⟨gb400, 1, none⟩ = some (.int .i64 a0_1) := (blk_cell BK400.out 1).trans rfl; have hfz61_0 := blk_frozen BK400.out 0; have hfz61_1 := blk_frozen BK400.out 1) | ((with_reducible refine gate_callee (f := 13) rfl ?_); refine goesL_ (some 7) rfl rfl Tryz.func13 (by kernel_rfl) rfl #[.agg #[.int .i64 a0_0, .int .i64 a0_1]] rfl (by (try simp only [List.map_toArray, List.map_cons, List.map_nil]); first | done | rfl | (simp only [List.length_drop, List.length_take]; rfl)) ?_; (with_reducible refine (klaxonref08_Is.calls a0_0 a0_1 false _ A2.out).mono ?_); rintro e w62 ⟨rfl, hb⟩; refine ⟨_, rfl, ?_⟩; have n0_ := Aside0.mk (blk_below (g := gb400) (o := .cells #[.int .i64 a0_0, .int .i64 a0_1] 25 (0, 0)) (by (with_reducible repeat (first | refine blk_drewN ?_ _ | refine blk_drew ?_ | refine blk_alloc ?_ _)); exact BK400.out) hb); have n1_ := Aside0.mk (below_step (by repeat (first | (with_reducible first | exact HB.out | apply below_alloc | apply pw_below_drewN | apply below_drew1 | refine below_set ?_ GE400.out) | exact HB.out)) hb); clear BK400; clear HB; have BK400 := n0_; have HB := n1_; clear n0_ n1_; (try clear hb); (try clear hb2); (try clear hk); (try clear hi)))
    go_ret
    exact ⟨by first | rfl | (simp [errW_none, errW_some] <;> rfl) | (simp [*, errW_none, errW_some] <;> rfl), by repeat (first | (with_reducible first | exact HB.out | apply below_alloc | apply pw_below_drewN | apply below_drew1 | refine below_set ?_ GE400.out) | exact HB.out)⟩

end Go.Proofs.YtcmiehddjgfjaaaGreatDoor.A
/- The document's texts of values are the program's. Plain. -/
namespace Go.Proofs.YtcmiehddjgfjaaaGreatDoor.A
open Go.RowKit Go.Proofs.YtcmiehddjgfjaaaGreatDoorW.PrintWords Go.Proofs.YtcmiehddjgfjaaaGreatDoorW.PrintLast Go.Proofs.YtcmiehddjgfjaaaGreatDoorW.PrintMore
set_option linter.unusedVariables false
set_option linter.unusedSimpArgs false
theorem dig_at : ∀ n : Fin 10, (⟨#[48, 49, 50, 51, 52, 53, 54, 55, 56, 57]⟩ : ByteArray).extract n.1 (n.1 + 1) = sb [dg8 n.1] := by decide
theorem digits_ev (n : Nat) (hn : n ≤ 1000000000000000) : Ev (fun k => klaxonref08_Digits.f k (n : Int)) (sb (Lib.decDigits n)) := by
  induction n using Nat.strongRecOn with
  | _ n ih =>
    by_cases h : n < 10
    · have e1 : wrap64 ((n : Int) + 1) = ((n + 1 : Nat) : Int) := by rw [wrap_id (by omega) (by omega)]; omega
      refine ⟨1, fun k hk => ?_⟩
      obtain ⟨k, rfl⟩ : ∃ m, k = m + 1 := ⟨k - 1, by omega⟩
      simp only [klaxonref08_Digits.f]
      rw [if_pos (by omega), if_pos (by omega), e1, if_pos (by omega), if_pos (by omega), Int.toNat_natCast, Int.toNat_natCast, dec_small h]
      exact congrArg some (dig_at ⟨n, h⟩)
    · have q := ih (n / 10) (by omega) (by omega)
      have e0 : wrap64 (Int.tdiv (n : Int) 10) = ((n / 10 : Nat) : Int) := by
        rw [Int.tdiv_eq_ediv_of_nonneg (by omega), wrap_id (by omega) (by omega)]; omega
      have e2 : Int.tmod (n : Int) 10 = ((n % 10 : Nat) : Int) := by
        rw [Int.tmod_eq_emod_of_nonneg (by omega)]; omega
      have e1 : wrap64 (((n % 10 : Nat) : Int) + 1) = ((n % 10 + 1 : Nat) : Int) := by rw [wrap_id (by omega) (by omega)]; omega
      have e3 := dig_at ⟨n % 10, by omega⟩
      have hl := dec_le (n / 10)
      refine Ev.step (fun k => ?_) (Ev.bind (f := fun k t => if t.size + (sb [dg8 (n % 10)]).size ≤ 9223372036854775807 then some (t ++ sb [dg8 (n % 10)]) else none) q (r := sb (Lib.decDigits n)) ?_)
      · simp only [klaxonref08_Digits.f]
        rw [if_neg (by omega), e0, e2, e1]
        cases hq : klaxonref08_Digits.f k ((n / 10 : Nat) : Int) with
        | none => rfl
        | some t =>
          simp only [Option.bind_some]
          rw [if_pos (by omega), if_pos (by omega), if_pos (by omega), Int.toNat_natCast, Int.toNat_natCast, e3]
      · refine ⟨0, fun k _ => ?_⟩
        show (if (Lib.decDigits (n / 10)).length + 1 ≤ 9223372036854775807 then _ else _) = _
        rw [if_pos (by omega), dec_big h, sb_app]
/-- A byte of a text. -/
theorem bt_sb (l : List UInt8) (i : Nat) (h : i < l.length) : bt (sb l) (i : Int) = (l[i].toNat : Int) := by
  have h' : ((i : Int).toNat) < (sb l).size := by rw [Int.toNat_natCast]; exact h
  rw [← bt_at (sb l) (i : Int) h']
  rfl
theorem sb_take (l : List UInt8) (c : UInt8) : (sb (l ++ [c])).extract 0 l.length = sb l := by
  apply ByteArray.ext
  simp
theorem sb_size' (l : List UInt8) : ((sb l).size : Int) = (l.length : Int) := rfl
theorem snoc_bt (l : List UInt8) (c : UInt8) : bt (sb (l ++ [c])) (l.length : Int) = (c.toNat : Int) := by
  rw [bt_sb _ _ (by simp)]
  simp
theorem trim_go (q l : List UInt8) (hl : l.length ≤ 1000) {r : ByteArray} (h : Ev (fun k => klaxonref08_Print.l0 k (sb q) (sb l)) r) : Ev (fun k => klaxonref08_Print.l0 k (sb q) (sb (l ++ [48]))) r := by
  refine Ev.step (fun k => ?_) h
  have e1 : wrap64 (((sb (l ++ [48])).size : Int) - 1) = (l.length : Int) := by
    have e0 : ((sb (l ++ [48])).size : Int) = (l.length : Int) + 1 := by rw [sb_size']; simp
    rw [e0, wrap_id (by omega) (by omega)]; omega
  simp only [klaxonref08_Print.l0]
  rw [e1, if_pos (by omega), sb_size', if_pos (by simp; omega), snoc_bt, if_pos (by decide), if_pos (by simp; omega), Int.toNat_natCast, sb_take]
theorem trim_end (q l : List UInt8) (c : UInt8) (hc : c ≠ 48) (hl : l.length ≤ 1000) (hq : q.length ≤ 1000) : Ev (fun k => klaxonref08_Print.l0 k (sb q) (sb (l ++ [c]))) (sb (q ++ 46 :: (l ++ [c]))) := by
  refine ⟨1, fun k hk => ?_⟩
  obtain ⟨k, rfl⟩ : ∃ m, k = m + 1 := ⟨k - 1, by omega⟩
  have e1 : wrap64 (((sb (l ++ [c])).size : Int) - 1) = (l.length : Int) := by
    have e0 : ((sb (l ++ [c])).size : Int) = (l.length : Int) + 1 := by rw [sb_size']; simp
    rw [e0, wrap_id (by omega) (by omega)]; omega
  have hc' : ¬ ((c.toNat : Int) = 48) := fun h => hc (UInt8.toNat_inj.1 (by have h48 : (48 : UInt8).toNat = 48 := rfl; omega))
  simp only [klaxonref08_Print.l0]
  rw [e1, if_pos (by omega), sb_size', if_pos (by simp; omega), snoc_bt, if_neg hc', if_pos (by rw [sb_size]; omega), if_pos (by rw [show (⟨#[46]⟩ : ByteArray) = sb [46] from rfl, sb_app, sb_size, sb_size]; simp; omega)]
  rw [show (⟨#[46]⟩ : ByteArray) = sb [46] from rfl, sb_app, sb_app]
  simp
theorem trim_ev (q : List UInt8) (hq : q.length ≤ 1000) (r : Nat) (h0 : 0 < r) (h : r < 1000) : Ev (fun k => klaxonref08_Print.l0 k (sb q) (sb [dg8 (r / 100), dg8 (r / 10 % 10), dg8 (r % 10)])) (sb (q ++ 46 :: frac r)) := by
  have z : ∀ {d : Nat}, d < 10 → d ≠ 0 → dg8 d ≠ 48 := fun hd h0 he => by
    have := dg8_zero hd
    rw [he, decide_eq_false h0] at this
    exact absurd this (by decide)
  rcases frac_cases r h0 h with ⟨c0, e⟩ | ⟨c0, c1, e⟩ | ⟨c0, c1, e⟩ <;> rw [e]
  · exact trim_end q [dg8 (r / 100), dg8 (r / 10 % 10)] (dg8 (r % 10)) (z (by omega) c0) (by simp) hq
  · have t := trim_go q [dg8 (r / 100), dg8 (r / 10 % 10)] (by simp) (trim_end q [dg8 (r / 100)] (dg8 (r / 10 % 10)) (z (by omega) c1) (by simp) hq)
    rw [c0]
    exact t
  · have t := trim_go q [dg8 (r / 100), 48] (by simp) (trim_go q [dg8 (r / 100)] (by simp) (trim_end q [] (dg8 (r / 100)) (z (by omega) (by omega)) (by simp) hq))
    rw [c0, c1]
    exact t
theorem print_pos (m : Nat) (hm : m ≤ 1000000000000000) : Ev (fun k => klaxonref08_Print.f k 1 (m : Int)) (sb (nBody m)) := by
  have e0 : wrap64 (Int.tdiv (m : Int) 1000) = ((m / 1000 : Nat) : Int) := by
    rw [Int.tdiv_eq_ediv_of_nonneg (by omega), wrap_id (by omega) (by omega)]; omega
  have e2 : Int.tmod (m : Int) 1000 = ((m % 1000 : Nat) : Int) := by
    rw [Int.tmod_eq_emod_of_nonneg (by omega)]; omega
  have e1 : wrap64 (1000 + ((m % 1000 : Nat) : Int)) = ((1000 + m % 1000 : Nat) : Int) := by rw [wrap_id (by omega) (by omega)]; omega
  have hv : isV (1, (m : Int)) := .inl ⟨rfl, by show -1000000000000000 ≤ (m : Int); omega, by show (m : Int) ≤ 1000000000000000; omega⟩
  have hd := digits_ev (m / 1000) (by omega)
  refine Ev.step (f := fun k => (klaxonref08_Digits.f k ((m / 1000 : Nat) : Int)).bind fun t405 => (if ((m % 1000 : Nat) : Int) = 0 then (some t405) else ((klaxonref08_Digits.f k ((1000 + m % 1000 : Nat) : Int)).bind fun t406 => (if 1 ≤ (t406.size : Int) then (klaxonref08_Print.l0 k t405 (t406.extract 1 t406.size)) else (none))))) (fun k => ?_) ?_
  · simp only [klaxonref08_Print.f]
    rw [ris_is, decide_eq_true hv]
    simp only [Option.bind_some, if_true]
    rw [if_neg (by decide), if_neg (by decide), if_neg (by decide), if_neg (by decide), if_neg (by omega), e0, e2, e1]
  · refine Ev.bind (f := fun k t405 => (if ((m % 1000 : Nat) : Int) = 0 then (some t405) else ((klaxonref08_Digits.f k ((1000 + m % 1000 : Nat) : Int)).bind fun t406 => (if 1 ≤ (t406.size : Int) then (klaxonref08_Print.l0 k t405 (t406.extract 1 t406.size)) else (none))))) hd ?_
    unfold nBody
    by_cases h : m % 1000 > 0
    · rw [if_pos h]
      have h3 := digits_ev (1000 + m % 1000) (by omega)
      refine Ev.congr (f := fun k => ((klaxonref08_Digits.f k ((1000 + m % 1000 : Nat) : Int)).bind fun t406 => (if 1 ≤ (t406.size : Int) then (klaxonref08_Print.l0 k (sb (Lib.decDigits (m / 1000))) (t406.extract 1 t406.size)) else (none)))) (fun k => by rw [if_neg (by omega)]) ?_
      refine Ev.bind (f := fun k t406 => (if 1 ≤ (t406.size : Int) then (klaxonref08_Print.l0 k (sb (Lib.decDigits (m / 1000))) (t406.extract 1 t406.size)) else (none))) h3 ?_
      rw [dec_1000 _ (by omega)]
      have hl := dec_len 12 (m / 1000) (by omega)
      refine Ev.congr (fun k => ?_) (trim_ev (Lib.decDigits (m / 1000)) (by omega) (m % 1000) h (by omega))
      rw [if_pos (by rw [sb_size]; simp)]
      have e9 := sb_drop [49, dg8 (m % 1000 / 100), dg8 (m % 1000 / 10 % 10), dg8 (m % 1000 % 10)]
      rw [show (sb [49, dg8 (m % 1000 / 100), dg8 (m % 1000 / 10 % 10), dg8 (m % 1000 % 10)]).size = [49, dg8 (m % 1000 / 100), dg8 (m % 1000 / 10 % 10), dg8 (m % 1000 % 10)].length from rfl, e9]
      rfl
    · rw [if_neg h, List.append_nil]
      refine ⟨0, fun k _ => ?_⟩
      show (if ((m % 1000 : Nat) : Int) = 0 then _ else _) = _
      rw [if_pos (by omega)]
theorem rnum_is (n : Int) : klaxonref08_Num.f n = some (vNum n) := by
  unfold klaxonref08_Num.f vNum klaxonref08_Plus.f klaxonref08_Minus.f
  split
  · rfl
  · split <;> rfl
/-- The document's text of a value. -/
theorem rprint_ev (a b : Int) : Ev (fun k => klaxonref08_Print.f k a b) (sb (vPrint (a, b))) := by
  by_cases hv : isV (a, b)
  · rcases hv with ⟨h, h1, h2⟩ | ⟨h, h1⟩
    · have h' : a = 1 := h
      subst h'
      have hv : isV (1, b) := .inl ⟨h, h1, h2⟩
      obtain ⟨m, hm, hp, hn⟩ := print_head b hv
      by_cases hb : b < 0
      · rw [if_pos hb] at hp hn
        rw [hp]
        have e1 : wrap64 (-b) = (m : Int) := by rw [wrap_id (by omega) (by omega)]; omega
        have e2 : klaxonref08_Num.f (m : Int) = some (1, (m : Int)) := by
          rw [rnum_is]; unfold vNum; rw [if_neg (by omega), if_neg (by omega)]
        refine Ev.step (f := fun k => (klaxonref08_Print.f k 1 (m : Int)).bind fun t404 => (if 1 + t404.size ≤ 9223372036854775807 then (some ((⟨#[45]⟩ : ByteArray) ++ t404)) else (none))) (fun k => ?_) ?_
        · simp only [klaxonref08_Print.f]
          rw [ris_is, decide_eq_true hv]
          simp only [Option.bind_some, if_true]
          rw [if_neg (by decide), if_neg (by decide), if_neg (by decide), if_neg (by decide), if_pos hb, e1, e2]
          rfl
        · refine Ev.bind (f := fun k t404 => (if 1 + t404.size ≤ 9223372036854775807 then (some ((⟨#[45]⟩ : ByteArray) ++ t404)) else (none))) (print_pos m hm) ⟨0, fun k _ => ?_⟩
          have hl := pText_len hv
          rw [hp, List.length_cons] at hl
          show (if 1 + (nBody m).length ≤ 9223372036854775807 then _ else _) = _
          rw [if_pos (by omega)]
          exact congrArg some (sb_lit 45 (nBody m))
      · rw [if_neg hb] at hp hn
        rw [hp, hn]
        exact print_pos m hm
    · have h1' : b = 0 := h1
      subst h1'
      have hv : isV (a, 0) := .inr ⟨h, rfl⟩
      have hp : vPrint (a, 0) = pText (a, 0) := if_pos hv
      rw [hp]
      refine ⟨1, fun k hk => ?_⟩
      obtain ⟨k, rfl⟩ : ∃ m, k = m + 1 := ⟨k - 1, by omega⟩
      have h' : a = 2 ∨ a = 3 ∨ a = 4 ∨ a = 5 := h
      simp only [klaxonref08_Print.f]
      rw [ris_is, decide_eq_true hv]
      rcases h' with rfl | rfl | rfl | rfl <;> rfl
  · refine ⟨1, fun k hk => ?_⟩
    obtain ⟨k, rfl⟩ : ∃ m, k = m + 1 := ⟨k - 1, by omega⟩
    have hp : vPrint (a, b) = [] := if_neg hv
    simp only [klaxonref08_Print.f]
    rw [ris_is, decide_eq_false hv, hp]
    rfl
end Go.Proofs.YtcmiehddjgfjaaaGreatDoor.A
/- Laid by a program of this place, a turned copy of the printer: functions, their contracts, and proofs that Lean checks. -/
namespace Go.Proofs.YtcmiehddjgfjaaaGreatDoor.A
open Go.RowKit Go.Proofs.YtcmiehddjgfjaaaGreatDoorW.PrintWords Go.Proofs.YtcmiehddjgfjaaaGreatDoorW.PrintLast Go.Proofs.YtcmiehddjgfjaaaGreatDoorW.PrintMore
attribute [local go_sem] max2_int min2_int max_two min_two max_three min_three max_four min_four   -- for this text's walks alone
set_option linter.unusedVariables false
set_option linter.unusedSimpArgs false

/-! ### klaxonref08_Parse: function 32 -/
mutual
def klaxonref08_Parse.l0 : Nat → ByteArray → List (S25) → Int → Option (Int × Int × Int)
  | 0, _, _, _ => none
  | k + 1, x0, x4, x5 => if x5 < (x4.length : Int) then (if 0 ≤ x5 then ((klaxonref08_Print.f k ((rd_T25 x4 x5).f0) ((rd_T25 x4 x5).f1)).bind fun t420 => (if t420.toList = x0.toList then (some ((rd_T25 x4 x5).f0, (rd_T25 x4 x5).f1, 0)) else (klaxonref08_Parse.l0 k x0 x4 (wrap64 (x5 + 1))))) else (none)) else (if (x0.size : Int) > 20 then (some (0, 0, 80)) else (klaxonref08_Parse.l1 k x0 0 (-1) 0))
def klaxonref08_Parse.l1 : Nat → ByteArray → Int → Int → Int → Option (Int × Int × Int)
  | 0, _, _, _, _ => none
  | k + 1, x0, x6, x7, x8 => if x8 < (x0.size : Int) then (if 0 ≤ x8 then (if (bt x0 x8) = 45 then (klaxonref08_Parse.j2 k x0 x6 x7 x8 (x8 == 0)) else (klaxonref08_Parse.j2 k x0 x6 x7 x8 false)) else (none)) else (if x7 < 0 then (klaxonref08_Parse.j5 k x0 x6 3) else (klaxonref08_Parse.j5 k x0 x6 x7))
def klaxonref08_Parse.j2 : Nat → ByteArray → Int → Int → Int → Bool → Option (Int × Int × Int)
  | 0, _, _, _, _, _ => none
  | k + 1, x0, x6, x7, x8, x43 => if x43 = true then (klaxonref08_Parse.l1 k x0 x6 x7 (wrap64 (x8 + 1))) else (if 0 ≤ x8 then (if x8 < (x0.size : Int) then (if (bt x0 x8) = 46 then (klaxonref08_Parse.j3 k x0 x6 x7 x8 (decide (x7 < 0))) else (klaxonref08_Parse.j3 k x0 x6 x7 x8 false)) else (none)) else (none))
def klaxonref08_Parse.j3 : Nat → ByteArray → Int → Int → Int → Bool → Option (Int × Int × Int)
  | 0, _, _, _, _, _ => none
  | k + 1, x0, x6, x7, x8, x52 => if x52 = true then (klaxonref08_Parse.l1 k x0 x6 3 (wrap64 (x8 + 1))) else (if 0 ≤ x8 then (if x8 < (x0.size : Int) then (if (bt x0 x8) ≥ 48 then (if (bt x0 x8) ≤ 57 then (if x7 = 0 then (klaxonref08_Parse.j4 k x0 x6 x7 x8 false) else (klaxonref08_Parse.j4 k x0 x6 x7 x8 (decide (x6 ≤ 1000000000000000)))) else (klaxonref08_Parse.j4 k x0 x6 x7 x8 false)) else (klaxonref08_Parse.j4 k x0 x6 x7 x8 false)) else (none)) else (none))
def klaxonref08_Parse.j4 : Nat → ByteArray → Int → Int → Int → Bool → Option (Int × Int × Int)
  | 0, _, _, _, _, _ => none
  | k + 1, x0, x6, x7, x8, x61 => if x61 = true then (if 0 ≤ x8 then (if x8 < (x0.size : Int) then (if x7 > 0 then (klaxonref08_Parse.l1 k x0 (wrap64 ((wrap64 (10 * x6)) + (((bt x0 x8) - 48) % 256))) (wrap64 (x7 - 1)) (wrap64 (x8 + 1))) else (klaxonref08_Parse.l1 k x0 (wrap64 ((wrap64 (10 * x6)) + (((bt x0 x8) - 48) % 256))) x7 (wrap64 (x8 + 1)))) else (none)) else (none)) else (some (0, 0, 80))
def klaxonref08_Parse.j5 : Nat → ByteArray → Int → Int → Option (Int × Int × Int)
  | 0, _, _, _ => none
  | k + 1, x0, x6, x7 => klaxonref08_Parse.l2 k x0 x6 x7
def klaxonref08_Parse.j7 : Nat → ByteArray → Int → Int → Option (Int × Int × Int)
  | 0, _, _, _ => none
  | k + 1, x0, x6, x7 => (klaxonref08_Num.f x6).bind fun bt422 => (if x0.toList = ([] : List UInt8) then (klaxonref08_Parse.j8 k x0 x6 x7 false bt422.1 bt422.2) else (if 0 < (x0.size : Int) then (klaxonref08_Parse.j8 k x0 x6 x7 ((bt x0 0) == 45) bt422.1 bt422.2) else (none)))
def klaxonref08_Parse.j8 : Nat → ByteArray → Int → Int → Bool → Int → Int → Option (Int × Int × Int)
  | 0, _, _, _, _, _, _ => none
  | k + 1, x0, x6, x7, x112, x425000, x425001 => if x112 = true then ((klaxonref08_Num.f (wrap64 (-x6))).bind fun bt425 => (klaxonref08_Parse.j9 k x0 x7 bt425.1 bt425.2)) else (klaxonref08_Parse.j9 k x0 x7 x425000 x425001)
def klaxonref08_Parse.j9 : Nat → ByteArray → Int → Int → Int → Option (Int × Int × Int)
  | 0, _, _, _, _ => none
  | k + 1, x0, x7, x425000, x425001 => if x7 > 0 then (some (0, 0, 80)) else ((klaxonref08_num.f x425000 x425001).bind fun t427 => (if t427 = true then ((klaxonref08_Print.f k x425000 x425001).bind fun t428 => (if t428.toList = x0.toList then (some (x425000, x425001, 0)) else (some (0, 0, 80)))) else (some (0, 0, 80))))
def klaxonref08_Parse.l2 : Nat → ByteArray → Int → Int → Option (Int × Int × Int)
  | 0, _, _, _ => none
  | k + 1, x0, x6, x7 => if x7 > 0 then (if x6 ≤ 1000000000000000 then (klaxonref08_Parse.l2 k x0 (wrap64 (10 * x6)) (wrap64 (x7 - 1))) else (klaxonref08_Parse.j7 k x0 x6 x7)) else (klaxonref08_Parse.j7 k x0 x6 x7)
end
def klaxonref08_Parse.f (k : Nat) (a0 : ByteArray) : Option (Int × Int × Int) := (klaxonref08_Null.f).bind fun bt408 => ((klaxonref08_NaN.f).bind fun bt410 => ((klaxonref08_Plus.f).bind fun bt412 => ((klaxonref08_Minus.f).bind fun bt414 => (klaxonref08_Parse.l0 k a0 (([(⟨bt408.1, bt408.2⟩ : S25), (⟨bt410.1, bt410.2⟩ : S25), (⟨bt412.1, bt412.2⟩ : S25), (⟨bt414.1, bt414.2⟩ : S25)] : List (S25))) 0))))
theorem klaxonref08_Parse.mono_l : ∀ k, (∀ y0 y1 y2, LeO (klaxonref08_Parse.l0 k y0 y1 y2) (klaxonref08_Parse.l0 (k + 1) y0 y1 y2)) ∧ (∀ y0 y1 y2 y3, LeO (klaxonref08_Parse.l1 k y0 y1 y2 y3) (klaxonref08_Parse.l1 (k + 1) y0 y1 y2 y3)) ∧ (∀ y0 y1 y2 y3 y4, LeO (klaxonref08_Parse.j2 k y0 y1 y2 y3 y4) (klaxonref08_Parse.j2 (k + 1) y0 y1 y2 y3 y4)) ∧ (∀ y0 y1 y2 y3 y4, LeO (klaxonref08_Parse.j3 k y0 y1 y2 y3 y4) (klaxonref08_Parse.j3 (k + 1) y0 y1 y2 y3 y4)) ∧ (∀ y0 y1 y2 y3 y4, LeO (klaxonref08_Parse.j4 k y0 y1 y2 y3 y4) (klaxonref08_Parse.j4 (k + 1) y0 y1 y2 y3 y4)) ∧ (∀ y0 y1 y2, LeO (klaxonref08_Parse.j5 k y0 y1 y2) (klaxonref08_Parse.j5 (k + 1) y0 y1 y2)) ∧ (∀ y0 y1 y2, LeO (klaxonref08_Parse.j7 k y0 y1 y2) (klaxonref08_Parse.j7 (k + 1) y0 y1 y2)) ∧ (∀ y0 y1 y2 y3 y4 y5, LeO (klaxonref08_Parse.j8 k y0 y1 y2 y3 y4 y5) (klaxonref08_Parse.j8 (k + 1) y0 y1 y2 y3 y4 y5)) ∧ (∀ y0 y1 y2 y3, LeO (klaxonref08_Parse.j9 k y0 y1 y2 y3) (klaxonref08_Parse.j9 (k + 1) y0 y1 y2 y3)) ∧ (∀ y0 y1 y2, LeO (klaxonref08_Parse.l2 k y0 y1 y2) (klaxonref08_Parse.l2 (k + 1) y0 y1 y2))
  | 0 => ⟨fun _ _ _ r h => by simp [klaxonref08_Parse.l0] at h, fun _ _ _ _ r h => by simp [klaxonref08_Parse.l1] at h, fun _ _ _ _ _ r h => by simp [klaxonref08_Parse.j2] at h, fun _ _ _ _ _ r h => by simp [klaxonref08_Parse.j3] at h, fun _ _ _ _ _ r h => by simp [klaxonref08_Parse.j4] at h, fun _ _ _ r h => by simp [klaxonref08_Parse.j5] at h, fun _ _ _ r h => by simp [klaxonref08_Parse.j7] at h, fun _ _ _ _ _ _ r h => by simp [klaxonref08_Parse.j8] at h, fun _ _ _ _ r h => by simp [klaxonref08_Parse.j9] at h, fun _ _ _ r h => by simp [klaxonref08_Parse.l2] at h⟩
  | k + 1 => by
    obtain ⟨ih0, ih1, ih2, ih3, ih4, ih5, ih6, ih7, ih8, ih9⟩ := klaxonref08_Parse.mono_l k
    refine ⟨?_, ?_, ?_, ?_, ?_, ?_, ?_, ?_, ?_, ?_⟩
    · intro y0 y1 y2
      unfold klaxonref08_Parse.l0
      repeat' first
      | (with_reducible exact ih0 _ _ _)
      | (with_reducible exact ih1 _ _ _ _)
      | (with_reducible exact ih2 _ _ _ _ _)
      | (with_reducible exact ih3 _ _ _ _ _)
      | (with_reducible exact ih4 _ _ _ _ _)
      | (with_reducible exact ih5 _ _ _)
      | (with_reducible exact ih6 _ _ _)
      | (with_reducible exact ih7 _ _ _ _ _ _)
      | (with_reducible exact ih8 _ _ _ _)
      | (with_reducible exact ih9 _ _ _)
      | (with_reducible exact klaxonref08_Print.mono _ _ _)
      | (with_reducible exact LeO.refl _)
      | (with_reducible exact LeO.none _)
      | (with_reducible refine LeO.ite ?_ ?_)
      | (with_reducible refine LeO.bind ?_ (fun _ => ?_))
      | exact ih0 _ _ _
      | exact ih1 _ _ _ _
      | exact ih2 _ _ _ _ _
      | exact ih3 _ _ _ _ _
      | exact ih4 _ _ _ _ _
      | exact ih5 _ _ _
      | exact ih6 _ _ _
      | exact ih7 _ _ _ _ _ _
      | exact ih8 _ _ _ _
      | exact ih9 _ _ _
      | exact klaxonref08_Print.mono _ _ _
      | exact LeO.none _
      | refine LeO.ite ?_ ?_
      | refine LeO.bind ?_ (fun _ => ?_)
    · intro y0 y1 y2 y3
      unfold klaxonref08_Parse.l1
      repeat' first
      | (with_reducible exact ih0 _ _ _)
      | (with_reducible exact ih1 _ _ _ _)
      | (with_reducible exact ih2 _ _ _ _ _)
      | (with_reducible exact ih3 _ _ _ _ _)
      | (with_reducible exact ih4 _ _ _ _ _)
      | (with_reducible exact ih5 _ _ _)
      | (with_reducible exact ih6 _ _ _)
      | (with_reducible exact ih7 _ _ _ _ _ _)
      | (with_reducible exact ih8 _ _ _ _)
      | (with_reducible exact ih9 _ _ _)
      | (with_reducible exact klaxonref08_Print.mono _ _ _)
      | (with_reducible exact LeO.refl _)
      | (with_reducible exact LeO.none _)
      | (with_reducible refine LeO.ite ?_ ?_)
      | (with_reducible refine LeO.bind ?_ (fun _ => ?_))
      | exact ih0 _ _ _
      | exact ih1 _ _ _ _
      | exact ih2 _ _ _ _ _
      | exact ih3 _ _ _ _ _
      | exact ih4 _ _ _ _ _
      | exact ih5 _ _ _
      | exact ih6 _ _ _
      | exact ih7 _ _ _ _ _ _
      | exact ih8 _ _ _ _
      | exact ih9 _ _ _
      | exact klaxonref08_Print.mono _ _ _
      | exact LeO.none _
      | refine LeO.ite ?_ ?_
      | refine LeO.bind ?_ (fun _ => ?_)
    · intro y0 y1 y2 y3 y4
      unfold klaxonref08_Parse.j2
      repeat' first
      | (with_reducible exact ih0 _ _ _)
      | (with_reducible exact ih1 _ _ _ _)
      | (with_reducible exact ih2 _ _ _ _ _)
      | (with_reducible exact ih3 _ _ _ _ _)
      | (with_reducible exact ih4 _ _ _ _ _)
      | (with_reducible exact ih5 _ _ _)
      | (with_reducible exact ih6 _ _ _)
      | (with_reducible exact ih7 _ _ _ _ _ _)
      | (with_reducible exact ih8 _ _ _ _)
      | (with_reducible exact ih9 _ _ _)
      | (with_reducible exact klaxonref08_Print.mono _ _ _)
      | (with_reducible exact LeO.refl _)
      | (with_reducible exact LeO.none _)
      | (with_reducible refine LeO.ite ?_ ?_)
      | (with_reducible refine LeO.bind ?_ (fun _ => ?_))
      | exact ih0 _ _ _
      | exact ih1 _ _ _ _
      | exact ih2 _ _ _ _ _
      | exact ih3 _ _ _ _ _
      | exact ih4 _ _ _ _ _
      | exact ih5 _ _ _
      | exact ih6 _ _ _
      | exact ih7 _ _ _ _ _ _
      | exact ih8 _ _ _ _
      | exact ih9 _ _ _
      | exact klaxonref08_Print.mono _ _ _
      | exact LeO.none _
      | refine LeO.ite ?_ ?_
      | refine LeO.bind ?_ (fun _ => ?_)
    · intro y0 y1 y2 y3 y4
      unfold klaxonref08_Parse.j3
      repeat' first
      | (with_reducible exact ih0 _ _ _)
      | (with_reducible exact ih1 _ _ _ _)
      | (with_reducible exact ih2 _ _ _ _ _)
      | (with_reducible exact ih3 _ _ _ _ _)
      | (with_reducible exact ih4 _ _ _ _ _)
      | (with_reducible exact ih5 _ _ _)
      | (with_reducible exact ih6 _ _ _)
      | (with_reducible exact ih7 _ _ _ _ _ _)
      | (with_reducible exact ih8 _ _ _ _)
      | (with_reducible exact ih9 _ _ _)
      | (with_reducible exact klaxonref08_Print.mono _ _ _)
      | (with_reducible exact LeO.refl _)
      | (with_reducible exact LeO.none _)
      | (with_reducible refine LeO.ite ?_ ?_)
      | (with_reducible refine LeO.bind ?_ (fun _ => ?_))
      | exact ih0 _ _ _
      | exact ih1 _ _ _ _
      | exact ih2 _ _ _ _ _
      | exact ih3 _ _ _ _ _
      | exact ih4 _ _ _ _ _
      | exact ih5 _ _ _
      | exact ih6 _ _ _
      | exact ih7 _ _ _ _ _ _
      | exact ih8 _ _ _ _
      | exact ih9 _ _ _
      | exact klaxonref08_Print.mono _ _ _
      | exact LeO.none _
      | refine LeO.ite ?_ ?_
      | refine LeO.bind ?_ (fun _ => ?_)
    · intro y0 y1 y2 y3 y4
      unfold klaxonref08_Parse.j4
      repeat' first
      | (with_reducible exact ih0 _ _ _)
      | (with_reducible exact ih1 _ _ _ _)
      | (with_reducible exact ih2 _ _ _ _ _)
      | (with_reducible exact ih3 _ _ _ _ _)
      | (with_reducible exact ih4 _ _ _ _ _)
      | (with_reducible exact ih5 _ _ _)
      | (with_reducible exact ih6 _ _ _)
      | (with_reducible exact ih7 _ _ _ _ _ _)
      | (with_reducible exact ih8 _ _ _ _)
      | (with_reducible exact ih9 _ _ _)
      | (with_reducible exact klaxonref08_Print.mono _ _ _)
      | (with_reducible exact LeO.refl _)
      | (with_reducible exact LeO.none _)
      | (with_reducible refine LeO.ite ?_ ?_)
      | (with_reducible refine LeO.bind ?_ (fun _ => ?_))
      | exact ih0 _ _ _
      | exact ih1 _ _ _ _
      | exact ih2 _ _ _ _ _
      | exact ih3 _ _ _ _ _
      | exact ih4 _ _ _ _ _
      | exact ih5 _ _ _
      | exact ih6 _ _ _
      | exact ih7 _ _ _ _ _ _
      | exact ih8 _ _ _ _
      | exact ih9 _ _ _
      | exact klaxonref08_Print.mono _ _ _
      | exact LeO.none _
      | refine LeO.ite ?_ ?_
      | refine LeO.bind ?_ (fun _ => ?_)
    · intro y0 y1 y2
      unfold klaxonref08_Parse.j5
      repeat' first
      | (with_reducible exact ih0 _ _ _)
      | (with_reducible exact ih1 _ _ _ _)
      | (with_reducible exact ih2 _ _ _ _ _)
      | (with_reducible exact ih3 _ _ _ _ _)
      | (with_reducible exact ih4 _ _ _ _ _)
      | (with_reducible exact ih5 _ _ _)
      | (with_reducible exact ih6 _ _ _)
      | (with_reducible exact ih7 _ _ _ _ _ _)
      | (with_reducible exact ih8 _ _ _ _)
      | (with_reducible exact ih9 _ _ _)
      | (with_reducible exact klaxonref08_Print.mono _ _ _)
      | (with_reducible exact LeO.refl _)
      | (with_reducible exact LeO.none _)
      | (with_reducible refine LeO.ite ?_ ?_)
      | (with_reducible refine LeO.bind ?_ (fun _ => ?_))
      | exact ih0 _ _ _
      | exact ih1 _ _ _ _
      | exact ih2 _ _ _ _ _
      | exact ih3 _ _ _ _ _
      | exact ih4 _ _ _ _ _
      | exact ih5 _ _ _
      | exact ih6 _ _ _
      | exact ih7 _ _ _ _ _ _
      | exact ih8 _ _ _ _
      | exact ih9 _ _ _
      | exact klaxonref08_Print.mono _ _ _
      | exact LeO.none _
      | refine LeO.ite ?_ ?_
      | refine LeO.bind ?_ (fun _ => ?_)
    · intro y0 y1 y2
      unfold klaxonref08_Parse.j7
      repeat' first
      | (with_reducible exact ih0 _ _ _)
      | (with_reducible exact ih1 _ _ _ _)
      | (with_reducible exact ih2 _ _ _ _ _)
      | (with_reducible exact ih3 _ _ _ _ _)
      | (with_reducible exact ih4 _ _ _ _ _)
      | (with_reducible exact ih5 _ _ _)
      | (with_reducible exact ih6 _ _ _)
      | (with_reducible exact ih7 _ _ _ _ _ _)
      | (with_reducible exact ih8 _ _ _ _)
      | (with_reducible exact ih9 _ _ _)
      | (with_reducible exact klaxonref08_Print.mono _ _ _)
      | (with_reducible exact LeO.refl _)
      | (with_reducible exact LeO.none _)
      | (with_reducible refine LeO.ite ?_ ?_)
      | (with_reducible refine LeO.bind ?_ (fun _ => ?_))
      | exact ih0 _ _ _
      | exact ih1 _ _ _ _
      | exact ih2 _ _ _ _ _
      | exact ih3 _ _ _ _ _
      | exact ih4 _ _ _ _ _
      | exact ih5 _ _ _
      | exact ih6 _ _ _
      | exact ih7 _ _ _ _ _ _
      | exact ih8 _ _ _ _
      | exact ih9 _ _ _
      | exact klaxonref08_Print.mono _ _ _
      | exact LeO.none _
      | refine LeO.ite ?_ ?_
      | refine LeO.bind ?_ (fun _ => ?_)
    · intro y0 y1 y2 y3 y4 y5
      unfold klaxonref08_Parse.j8
      repeat' first
      | (with_reducible exact ih0 _ _ _)
      | (with_reducible exact ih1 _ _ _ _)
      | (with_reducible exact ih2 _ _ _ _ _)
      | (with_reducible exact ih3 _ _ _ _ _)
      | (with_reducible exact ih4 _ _ _ _ _)
      | (with_reducible exact ih5 _ _ _)
      | (with_reducible exact ih6 _ _ _)
      | (with_reducible exact ih7 _ _ _ _ _ _)
      | (with_reducible exact ih8 _ _ _ _)
      | (with_reducible exact ih9 _ _ _)
      | (with_reducible exact klaxonref08_Print.mono _ _ _)
      | (with_reducible exact LeO.refl _)
      | (with_reducible exact LeO.none _)
      | (with_reducible refine LeO.ite ?_ ?_)
      | (with_reducible refine LeO.bind ?_ (fun _ => ?_))
      | exact ih0 _ _ _
      | exact ih1 _ _ _ _
      | exact ih2 _ _ _ _ _
      | exact ih3 _ _ _ _ _
      | exact ih4 _ _ _ _ _
      | exact ih5 _ _ _
      | exact ih6 _ _ _
      | exact ih7 _ _ _ _ _ _
      | exact ih8 _ _ _ _
      | exact ih9 _ _ _
      | exact klaxonref08_Print.mono _ _ _
      | exact LeO.none _
      | refine LeO.ite ?_ ?_
      | refine LeO.bind ?_ (fun _ => ?_)
    · intro y0 y1 y2 y3
      unfold klaxonref08_Parse.j9
      repeat' first
      | (with_reducible exact ih0 _ _ _)
      | (with_reducible exact ih1 _ _ _ _)
      | (with_reducible exact ih2 _ _ _ _ _)
      | (with_reducible exact ih3 _ _ _ _ _)
      | (with_reducible exact ih4 _ _ _ _ _)
      | (with_reducible exact ih5 _ _ _)
      | (with_reducible exact ih6 _ _ _)
      | (with_reducible exact ih7 _ _ _ _ _ _)
      | (with_reducible exact ih8 _ _ _ _)
      | (with_reducible exact ih9 _ _ _)
      | (with_reducible exact klaxonref08_Print.mono _ _ _)
      | (with_reducible exact LeO.refl _)
      | (with_reducible exact LeO.none _)
      | (with_reducible refine LeO.ite ?_ ?_)
      | (with_reducible refine LeO.bind ?_ (fun _ => ?_))
      | exact ih0 _ _ _
      | exact ih1 _ _ _ _
      | exact ih2 _ _ _ _ _
      | exact ih3 _ _ _ _ _
      | exact ih4 _ _ _ _ _
      | exact ih5 _ _ _
      | exact ih6 _ _ _
      | exact ih7 _ _ _ _ _ _
      | exact ih8 _ _ _ _
      | exact ih9 _ _ _
      | exact klaxonref08_Print.mono _ _ _
      | exact LeO.none _
      | refine LeO.ite ?_ ?_
      | refine LeO.bind ?_ (fun _ => ?_)
    · intro y0 y1 y2
      unfold klaxonref08_Parse.l2
      repeat' first
      | (with_reducible exact ih0 _ _ _)
      | (with_reducible exact ih1 _ _ _ _)
      | (with_reducible exact ih2 _ _ _ _ _)
      | (with_reducible exact ih3 _ _ _ _ _)
      | (with_reducible exact ih4 _ _ _ _ _)
      | (with_reducible exact ih5 _ _ _)
      | (with_reducible exact ih6 _ _ _)
      | (with_reducible exact ih7 _ _ _ _ _ _)
      | (with_reducible exact ih8 _ _ _ _)
      | (with_reducible exact ih9 _ _ _)
      | (with_reducible exact klaxonref08_Print.mono _ _ _)
      | (with_reducible exact LeO.refl _)
      | (with_reducible exact LeO.none _)
      | (with_reducible refine LeO.ite ?_ ?_)
      | (with_reducible refine LeO.bind ?_ (fun _ => ?_))
      | exact ih0 _ _ _
      | exact ih1 _ _ _ _
      | exact ih2 _ _ _ _ _
      | exact ih3 _ _ _ _ _
      | exact ih4 _ _ _ _ _
      | exact ih5 _ _ _
      | exact ih6 _ _ _
      | exact ih7 _ _ _ _ _ _
      | exact ih8 _ _ _ _
      | exact ih9 _ _ _
      | exact klaxonref08_Print.mono _ _ _
      | exact LeO.none _
      | refine LeO.ite ?_ ?_
      | refine LeO.bind ?_ (fun _ => ?_)
theorem klaxonref08_Parse.mono : ∀ a0 k, LeO (klaxonref08_Parse.f k a0) (klaxonref08_Parse.f (k + 1) a0) := by
  intro a0 k
  obtain ⟨ih0, ih1, ih2, ih3, ih4, ih5, ih6, ih7, ih8, ih9⟩ := klaxonref08_Parse.mono_l k
  unfold klaxonref08_Parse.f
  repeat' first
      | (with_reducible exact ih0 _ _ _)
      | (with_reducible exact ih1 _ _ _ _)
      | (with_reducible exact ih2 _ _ _ _ _)
      | (with_reducible exact ih3 _ _ _ _ _)
      | (with_reducible exact ih4 _ _ _ _ _)
      | (with_reducible exact ih5 _ _ _)
      | (with_reducible exact ih6 _ _ _)
      | (with_reducible exact ih7 _ _ _ _ _ _)
      | (with_reducible exact ih8 _ _ _ _)
      | (with_reducible exact ih9 _ _ _)
      | (with_reducible exact klaxonref08_Print.mono _ _ _)
      | (with_reducible exact LeO.refl _)
      | (with_reducible exact LeO.none _)
      | (with_reducible refine LeO.ite ?_ ?_)
      | (with_reducible refine LeO.bind ?_ (fun _ => ?_))
      | exact ih0 _ _ _
      | exact ih1 _ _ _ _
      | exact ih2 _ _ _ _ _
      | exact ih3 _ _ _ _ _
      | exact ih4 _ _ _ _ _
      | exact ih5 _ _ _
      | exact ih6 _ _ _
      | exact ih7 _ _ _ _ _ _
      | exact ih8 _ _ _ _
      | exact ih9 _ _ _
      | exact klaxonref08_Print.mono _ _ _
      | exact LeO.none _
      | refine LeO.ite ?_ ?_
      | refine LeO.bind ?_ (fun _ => ?_)
set_option maxHeartbeats 8000000 in
set_option maxRecDepth 100000 in
theorem klaxonref08_Parse.calls (k : Nat) (a0 : ByteArray) (r1 : Int) (r2 : Int) (r3 : Int) (w : World) (h : klaxonref08_Parse.f k a0 = some (r1, r2, r3)) :
    Calls Tryz.prog 32 #[.string a0] w fun e w' => e = .returned (.tuple #[.agg #[.int .i64 r1, .int .i64 r2], .int .i64 r3]) ∧ Below w.heap.size w w' := by
  have hu25 := Tryz.underlying25
  have HB := Aside0.mk (Below.refl w.heap.size w)
  have H : ((klaxonref08_Null.f).bind fun bt408 => ((klaxonref08_NaN.f).bind fun bt410 => ((klaxonref08_Plus.f).bind fun bt412 => ((klaxonref08_Minus.f).bind fun bt414 => (klaxonref08_Parse.l0 k a0 (([(⟨bt408.1, bt408.2⟩ : S25), (⟨bt410.1, bt410.2⟩ : S25), (⟨bt412.1, bt412.2⟩ : S25), (⟨bt414.1, bt414.2⟩ : S25)] : List (S25))) 0))))) = some (r1, r2, r3) := h
  clear h
  replace H := Option.bind_eq_some_iff.mp H
  obtain ⟨⟨t408, t409⟩, A20, H⟩ := H
  replace H : ((klaxonref08_NaN.f).bind fun bt410 => ((klaxonref08_Plus.f).bind fun bt412 => ((klaxonref08_Minus.f).bind fun bt414 => (klaxonref08_Parse.l0 k a0 (([(⟨t408, t409⟩ : S25), (⟨bt410.1, bt410.2⟩ : S25), (⟨bt412.1, bt412.2⟩ : S25), (⟨bt414.1, bt414.2⟩ : S25)] : List (S25))) 0)))) = some (r1, r2, r3) := H
  have A2 := Aside0.mk A20
  clear A20
  replace H := Option.bind_eq_some_iff.mp H
  obtain ⟨⟨t410, t411⟩, A30, H⟩ := H
  replace H : ((klaxonref08_Plus.f).bind fun bt412 => ((klaxonref08_Minus.f).bind fun bt414 => (klaxonref08_Parse.l0 k a0 (([(⟨t408, t409⟩ : S25), (⟨t410, t411⟩ : S25), (⟨bt412.1, bt412.2⟩ : S25), (⟨bt414.1, bt414.2⟩ : S25)] : List (S25))) 0))) = some (r1, r2, r3) := H
  have A3 := Aside0.mk A30
  clear A30
  replace H := Option.bind_eq_some_iff.mp H
  obtain ⟨⟨t412, t413⟩, A40, H⟩ := H
  replace H : ((klaxonref08_Minus.f).bind fun bt414 => (klaxonref08_Parse.l0 k a0 (([(⟨t408, t409⟩ : S25), (⟨t410, t411⟩ : S25), (⟨t412, t413⟩ : S25), (⟨bt414.1, bt414.2⟩ : S25)] : List (S25))) 0)) = some (r1, r2, r3) := H
  have A4 := Aside0.mk A40
  clear A40
  replace H := Option.bind_eq_some_iff.mp H
  obtain ⟨⟨t414, t415⟩, A50, H⟩ := H
  replace H : (klaxonref08_Parse.l0 k a0 (([(⟨t408, t409⟩ : S25), (⟨t410, t411⟩ : S25), (⟨t412, t413⟩ : S25), (⟨t414, t415⟩ : S25)] : List (S25))) 0) = some (r1, r2, r3) := H
  have A5 := Aside0.mk A50
  clear A50
  obtain ⟨y416, hy416⟩ : ∃ y_ : List (S25), y_ = (([(⟨t408, t409⟩ : S25), (⟨t410, t411⟩ : S25), (⟨t412, t413⟩ : S25), (⟨t414, t415⟩ : S25)] : List (S25))) := ⟨_, rfl⟩
  replace H : (klaxonref08_Parse.l0 k a0 y416 0) = some (r1, r2, r3) := by first | (rw [hy416]; with_reducible exact H) | (have H2_ := (Option.bind_some _ _).symm.trans H; rw [hy416]; with_reducible exact H2_) | (have H2_ := (Option.bind_some _ _).symm.trans H; with_reducible exact H2_) | with_reducible exact H | (rw [hy416]; exact H) | exact H
  have Ny416 := Aside0.mk hy416
  clear hy416
  have H' := Aside0.mk H
  clear H
  go_enter Tryz.func32, Tryz.ntmps32
  go_wp2_with (first | ((with_reducible refine gate_dst (N := 2) rfl ?_); refine box_event ?hg (N := 2) ?hd (cs := #[.int .i64 0, .int .i64 0]) (t := 25) ?hr ?_; (case hd => rfl); (case hg => rfl); (case hr => first | (go_simp; done) | (go_simp; rfl)); intro gb407 hg w6 hbox hb; have n0_ := Aside0.mk (below_step (by repeat (first | (with_reducible first | exact HB.out | apply below_alloc | apply pw_below_drewN | apply below_drew1) | exact HB.out)) hb); have n1_ := Aside0.mk (hbox); have n2_ := Aside0.mk ((by rw [hg]; exact (below_size (by repeat (first | (with_reducible first | exact HB.out | apply below_alloc | apply pw_below_drewN | apply below_drew1) | exact HB.out))) : w.heap.size ≤ gb407)); have n3_ := Aside0.mk ((by rw [hg]; exact (below_size (by repeat (first | (with_reducible first | exact HB.out | apply below_alloc | apply pw_below_drewN | apply below_drew1) | exact HB.out))) : w.heap.size ≤ gb407)); clear HB; have HB := n0_; have BK407 := n1_; have GW407 := n2_; have GE407 := n3_; clear n0_ n1_ n2_ n3_; clear hb hbox hg) | ((with_reducible refine gate_callee (f := 24) rfl ?_); refine goesL_ (some 10) rfl rfl Tryz.func24 (by kernel_rfl) rfl #[] rfl (by (try simp only [List.map_toArray, List.map_cons, List.map_nil]); first | done | rfl | (simp only [List.length_drop, List.length_take]; rfl)) ?_; (with_reducible refine (klaxonref08_Null.calls  t408 t409 _ A2.out).mono ?_); rintro e w7 ⟨rfl, hb⟩; refine ⟨_, rfl, ?_⟩; have n0_ := Aside0.mk (blk_below (g := gb407) (o := .cells #[.int .i64 0, .int .i64 0] 25 (0, 0)) (by (with_reducible repeat (first | refine blk_drewN ?_ _ | refine blk_drew ?_ | refine blk_alloc ?_ _)); exact BK407.out) hb); have n1_ := Aside0.mk (below_step (by repeat (first | (with_reducible first | exact HB.out | apply below_alloc | apply pw_below_drewN | apply below_drew1 | refine below_set ?_ GE407.out) | exact HB.out)) hb); clear BK407; clear HB; have BK407 := n0_; have HB := n1_; clear n0_ n1_; (try clear hb); (try clear hb2); (try clear hk); (try clear hi)) | ((with_reducible refine gate_callee (f := 26) rfl ?_); refine goesL_ (some 11) rfl rfl Tryz.func26 (by kernel_rfl) rfl #[] rfl (by (try simp only [List.map_toArray, List.map_cons, List.map_nil]); first | done | rfl | (simp only [List.length_drop, List.length_take]; rfl)) ?_; (with_reducible refine (klaxonref08_NaN.calls  t410 t411 _ A3.out).mono ?_); rintro e w8 ⟨rfl, hb⟩; refine ⟨_, rfl, ?_⟩; have n0_ := Aside0.mk (blk_below (g := gb407) (o := .cells #[.int .i64 0, .int .i64 0] 25 (0, 0)) (by (with_reducible repeat (first | refine blk_drewN ?_ _ | refine blk_drew ?_ | refine blk_alloc ?_ _)); exact BK407.out) hb); have n1_ := Aside0.mk (below_step (by repeat (first | (with_reducible first | exact HB.out | apply below_alloc | apply pw_below_drewN | apply below_drew1 | refine below_set ?_ GE407.out) | exact HB.out)) hb); clear BK407; clear HB; have BK407 := n0_; have HB := n1_; clear n0_ n1_; (try clear hb); (try clear hb2); (try clear hk); (try clear hi)) | ((with_reducible refine gate_callee (f := 28) rfl ?_); refine goesL_ (some 12) rfl rfl Tryz.func28 (by kernel_rfl) rfl #[] rfl (by (try simp only [List.map_toArray, List.map_cons, List.map_nil]); first | done | rfl | (simp only [List.length_drop, List.length_take]; rfl)) ?_; (with_reducible refine (klaxonref08_Plus.calls  t412 t413 _ A4.out).mono ?_); rintro e w9 ⟨rfl, hb⟩; refine ⟨_, rfl, ?_⟩; have n0_ := Aside0.mk (blk_below (g := gb407) (o := .cells #[.int .i64 0, .int .i64 0] 25 (0, 0)) (by (with_reducible repeat (first | refine blk_drewN ?_ _ | refine blk_drew ?_ | refine blk_alloc ?_ _)); exact BK407.out) hb); have n1_ := Aside0.mk (below_step (by repeat (first | (with_reducible first | exact HB.out | apply below_alloc | apply pw_below_drewN | apply below_drew1 | refine below_set ?_ GE407.out) | exact HB.out)) hb); clear BK407; clear HB; have BK407 := n0_; have HB := n1_; clear n0_ n1_; (try clear hb); (try clear hb2); (try clear hk); (try clear hi)) | ((with_reducible refine gate_callee (f := 30) rfl ?_); refine goesL_ (some 13) rfl rfl Tryz.func30 (by kernel_rfl) rfl #[] rfl (by (try simp only [List.map_toArray, List.map_cons, List.map_nil]); first | done | rfl | (simp only [List.length_drop, List.length_take]; rfl)) ?_; (with_reducible refine (klaxonref08_Minus.calls  t414 t415 _ A5.out).mono ?_); rintro e w10 ⟨rfl, hb⟩; refine ⟨_, rfl, ?_⟩; have n0_ := Aside0.mk (blk_below (g := gb407) (o := .cells #[.int .i64 0, .int .i64 0] 25 (0, 0)) (by (with_reducible repeat (first | refine blk_drewN ?_ _ | refine blk_drew ?_ | refine blk_alloc ?_ _)); exact BK407.out) hb); have n1_ := Aside0.mk (below_step (by repeat (first | (with_reducible first | exact HB.out | apply below_alloc | apply pw_below_drewN | apply below_drew1 | refine below_set ?_ GE407.out) | exact HB.out)) hb); clear BK407; clear HB; have BK407 := n0_; have HB := n1_; clear n0_ n1_; (try clear hb); (try clear hb2); (try clear hk); (try clear hi)) | ((with_reducible refine gate_dst (N := 14) rfl ?_); refine Kd.R_lit k25 _ 25 ?hg (N := 14) ?hd (xs := ([(⟨t408, t409⟩ : S25), (⟨t410, t411⟩ : S25), (⟨t412, t413⟩ : S25), (⟨t414, t415⟩ : S25)] : List (S25))) (inner := [.int .i64 t408, .int .i64 t409, .int .i64 t410, .int .i64 t411, .int .i64 t412, .int .i64 t413, .int .i64 t414, .int .i64 t415]) (ok := fun _ => True) (okp := fun _ => True) ?hr ?hp (fun _ hk => hk) trivial (Below.refl _ _) (Nat.le_refl _) (by simp) ?_; (case hd => rfl); (case hg => rfl); (case hr => first | (go_simp; done) | (go_simp; rfl)); (case hp => exact (Reps.c2 (show Kd.M k25 _ _ _ (⟨t408, t409⟩ : S25) [.int .i64 t408, .int .i64 t409] from (k25_mkM _ _ _ (⟨t408, t409⟩ : S25) )) (Reps.c2 (show Kd.M k25 _ _ _ (⟨t410, t411⟩ : S25) [.int .i64 t410, .int .i64 t411] from (k25_mkM _ _ _ (⟨t410, t411⟩ : S25) )) (Reps.c2 (show Kd.M k25 _ _ _ (⟨t412, t413⟩ : S25) [.int .i64 t412, .int .i64 t413] from (k25_mkM _ _ _ (⟨t412, t413⟩ : S25) )) (Reps.c2 (show Kd.M k25 _ _ _ (⟨t414, t415⟩ : S25) [.int .i64 t414, .int .i64 t415] from (k25_mkM _ _ _ (⟨t414, t415⟩ : S25) )) (Reps.none _ _)))))); intro v417 w11 ho12 hb hg_ hnew_; clear hg_ hnew_; (first | rw [← Ny416.out] at ho12 | (simp only [Int.reduceToNat] at ho12; rw [← Ny416.out] at ho12)); have n0_ := Aside0.mk (Kd.R_lower (Kd.R_newB ho12 (g := gb407) (o := .cells #[.int .i64 0, .int .i64 0] 25 (0, 0)) (by (with_reducible repeat (first | refine blk_drewN ?_ _ | refine blk_drew ?_ | refine blk_alloc ?_ _)); exact BK407.out)) (below_size (by repeat (first | (with_reducible first | exact HB.out | apply below_alloc | apply pw_below_drewN | apply below_drew1 | refine below_set ?_ GE407.out) | exact HB.out)))); have n1_ := Aside0.mk (blk_below (g := gb407) (o := .cells #[.int .i64 0, .int .i64 0] 25 (0, 0)) (by (with_reducible repeat (first | refine blk_drewN ?_ _ | refine blk_drew ?_ | refine blk_alloc ?_ _)); exact BK407.out) hb); have n2_ := Aside0.mk (below_step (by repeat (first | (with_reducible first | exact HB.out | apply below_alloc | apply pw_below_drewN | apply below_drew1 | refine below_set ?_ GE407.out) | exact HB.out)) hb); clear BK407; clear HB; have HO418 := n0_; have BK407 := n1_; have HB := n2_; clear n0_ n1_ n2_; clear hb ho12))
  go_loopg [5] k (fun kq v5 w' => ∃ (x5_1 : Int) (x408000_1 : Int) (x408001_1 : Int), v5 = .int .i64 x5_1 ∧ Aside0 (klaxonref08_Parse.l0 kq a0 y416 x5_1 = some (r1, r2, r3)) ∧ Aside0 (kq ≤ k) ∧ Aside0 (Kd.R k25 25 w' w.heap.size (fun k_ => k_ ≠ gb407) v417 y416) ∧ Aside0 (w'.heap[gb407]? = some (.cells #[.int .i64 x408000_1, .int .i64 x408001_1] 25 (0, 0))) ∧ Aside0 (Below w.heap.size w w'))
  case atStart => exact ⟨(0), (0), (0), (by first | rfl | (simp; done) | (simp [*]; done)), H', ⟨Nat.le_refl _⟩, ⟨by (with_reducible repeat (first | apply Kd.R_alloc | apply Kd.R_drewN | apply Kd.R_drew)); exact Kd.R_mono HO418.out (fun _ hk => hk.2)⟩, ⟨by (with_reducible repeat (first | refine blk_drewN ?_ _ | refine blk_drew ?_ | refine blk_alloc ?_ _)); exact BK407.out⟩, ⟨by repeat (first | (with_reducible first | exact HB.out | apply below_alloc | apply pw_below_drewN | apply below_drew1 | refine below_set ?_ GE407.out) | exact HB.out)⟩⟩
  case round =>
    clear H'
    try clear c2
    try clear p2
    try clear c3
    obtain ⟨x5_1, x408000_1, x408001_1, rfl, HA, HK1, HO_4, BK407, HB⟩ := hrel
    cases gk with
    | zero => exact absurd HA.out (by simp [klaxonref08_Parse.l0])
    | succ k1 =>
      have H := HA.out
      clear HA
      simp only [klaxonref08_Parse.l0] at H
      by_cases c13 : x5_1 < (y416.length : Int)
      · rw [if_pos c13] at H
        have c13b0 : decide (x5_1 < (y416.length : Int)) = true := decide_eq_true c13
        clear c13
        by_cases c14 : 0 ≤ x5_1
        · rw [if_pos c14] at H
          have c14b0 : decide (0 ≤ x5_1) = true := decide_eq_true c14
          clear c14
          replace H := Option.bind_eq_some_iff.mp H
          obtain ⟨t420, A150, H⟩ := H
          replace H : (if t420.toList = a0.toList then (some ((rd_T25 y416 x5_1).f0, (rd_T25 y416 x5_1).f1, 0)) else (klaxonref08_Parse.l0 k1 a0 y416 (wrap64 (x5_1 + 1)))) = some (r1, r2, r3) := H
          have A15 := Aside0.mk A150
          clear A150
          by_cases c16 : t420.toList = a0.toList
          · rw [if_pos c16] at H
            have c16b0 : (t420.toList == a0.toList) = true := beq_iff_eq.mpr c16
            have c16b1 : (t420.toList != a0.toList) = false := bne_eq_false_iff_eq.mpr c16
            clear c16
            simp only [Option.some.injEq, Prod.mk.injEq] at H
            obtain ⟨rfl, rfl, rfl⟩ := H
            obtain ⟨Ao17, co17, eo17⟩ := Kd.R_slice HO_4.out
            subst eo17
            have p419 : 0 ≤ (x5_1 : Int) := of_decide_eq_true (by first | (with_reducible assumption) | assumption)
            have q419 : x5_1 < (y416.length : Int) := of_decide_eq_true (by first | (with_reducible assumption) | assumption)
            obtain ⟨ad419, e419, hx419_0, hx419_1⟩ := at_T25 (Kd.R_reads' HO_4.out).2.2 x5_1 p419 q419
            cases e419
            replace p419 := eq_true p419
            replace q419 := eq_true q419
            go_wp2_with (first | ((with_reducible refine gate_callee (f := 34) rfl ?_); refine goesL_ (some 25) rfl rfl Tryz.func34 (by kernel_rfl) rfl #[.agg #[.int .i64 ((rd_T25 y416 x5_1).f0), .int .i64 ((rd_T25 y416 x5_1).f1)]] rfl (by (try simp only [List.map_toArray, List.map_cons, List.map_nil]); first | done | rfl | (simp only [List.length_drop, List.length_take]; rfl)) ?_; (with_reducible refine (klaxonref08_Print.calls k1 ((rd_T25 y416 x5_1).f0) ((rd_T25 y416 x5_1).f1) t420 _ A15.out).mono ?_); rintro e w18 ⟨rfl, hb⟩; refine ⟨_, rfl, ?_⟩; have n0_ := Aside0.mk (Kd.R_below (by (with_reducible repeat (first | apply Kd.R_alloc | apply Kd.R_drewN | apply Kd.R_drew)); exact HO_4.out) hb); have n1_ := Aside0.mk (blk_below (g := gb407) (o := .cells #[.int .i64 x408000_1, .int .i64 x408001_1] 25 (0, 0)) (by (with_reducible repeat (first | refine blk_drewN ?_ _ | refine blk_drew ?_ | refine blk_alloc ?_ _)); exact BK407.out) hb); have n2_ := Aside0.mk (below_step (by repeat (first | (with_reducible first | exact HB.out | apply below_alloc | apply pw_below_drewN | apply below_drew1 | refine below_set ?_ GE407.out) | exact HB.out)) hb); clear HO_4; clear BK407; clear HB; have HO_4 := n0_; have BK407 := n1_; have HB := n2_; clear n0_ n1_ n2_; (try clear hb); (try clear hb2); (try clear hk); (try clear hi); have p421 : 0 ≤ (x5_1 : Int) := of_decide_eq_true (by first | (with_reducible assumption) | assumption); have q421 : x5_1 < (y416.length : Int) := of_decide_eq_true (by first | (with_reducible assumption) | assumption); obtain ⟨ad421, e421, hx421_0, hx421_1⟩ := at_T25 (Kd.R_reads' HO_4.out).2.2 x5_1 p421 q421; obtain rfl : ad419 = ad421 := (by injection e421); replace p421 := eq_true p421; replace q421 := eq_true q421; have hcz19_0 : w18.cell? ⟨gb407, 0, none⟩ = some (.int .i64 x408000_1) := (blk_cell BK407.out 0).trans rfl; have hcz19_1 : w18.cell? ⟨gb407, 1, none⟩ = some (.int .i64 x408001_1) := (blk_cell BK407.out 1).trans rfl; have hfz19_0 := blk_frozen BK407.out 0; have hfz19_1 := blk_frozen BK407.out 1))
            refine bodyPost_ret (results_ct rfl _ _ gb407 25 #[.int .i64 ((rd_T25 y416 x5_1).f0), .int .i64 ((rd_T25 y416 x5_1).f1)] (0, 0) _ rfl (by (with_reducible repeat (first | refine blk_drewN ?_ _ | refine blk_drew ?_ | refine blk_alloc ?_ _)); refine blk_put (cs := #[.int .i64 ((rd_T25 y416 x5_1).f0), .int .i64 x408001_1]) ?_ 1 _ rfl; (with_reducible repeat (first | refine blk_drewN ?_ _ | refine blk_drew ?_ | refine blk_alloc ?_ _)); refine blk_put (cs := #[.int .i64 x408000_1, .int .i64 x408001_1]) ?_ 0 _ rfl; (with_reducible repeat (first | refine blk_drewN ?_ _ | refine blk_drew ?_ | refine blk_alloc ?_ _)); exact BK407.out) Tryz.underlying25 rfl (by kernel_rfl)) rfl ?_
            exact ⟨by first | rfl | (simp [errW_none, errW_some] <;> rfl) | (simp [*, errW_none, errW_some] <;> rfl), by repeat (first | (with_reducible first | exact HB.out | apply below_alloc | apply pw_below_drewN | apply below_drew1 | refine below_set ?_ GE407.out) | exact HB.out)⟩
          · rw [if_neg c16] at H
            have c16b0 : (t420.toList == a0.toList) = false := beq_eq_false_iff_ne.mpr c16
            have c16b1 : (t420.toList != a0.toList) = true := bne_iff_ne.mpr c16
            have H' := Aside0.mk H
            clear H
            obtain ⟨Ao20, co20, eo20⟩ := Kd.R_slice HO_4.out
            subst eo20
            have p419 : 0 ≤ (x5_1 : Int) := of_decide_eq_true (by first | (with_reducible assumption) | assumption)
            have q419 : x5_1 < (y416.length : Int) := of_decide_eq_true (by first | (with_reducible assumption) | assumption)
            obtain ⟨ad419, e419, hx419_0, hx419_1⟩ := at_T25 (Kd.R_reads' HO_4.out).2.2 x5_1 p419 q419
            cases e419
            replace p419 := eq_true p419
            replace q419 := eq_true q419
            go_wp2_with (first | ((with_reducible refine gate_callee (f := 34) rfl ?_); refine goesL_ (some 25) rfl rfl Tryz.func34 (by kernel_rfl) rfl #[.agg #[.int .i64 ((rd_T25 y416 x5_1).f0), .int .i64 ((rd_T25 y416 x5_1).f1)]] rfl (by (try simp only [List.map_toArray, List.map_cons, List.map_nil]); first | done | rfl | (simp only [List.length_drop, List.length_take]; rfl)) ?_; (with_reducible refine (klaxonref08_Print.calls k1 ((rd_T25 y416 x5_1).f0) ((rd_T25 y416 x5_1).f1) t420 _ A15.out).mono ?_); rintro e w21 ⟨rfl, hb⟩; refine ⟨_, rfl, ?_⟩; have n0_ := Aside0.mk (Kd.R_below (by (with_reducible repeat (first | apply Kd.R_alloc | apply Kd.R_drewN | apply Kd.R_drew)); exact HO_4.out) hb); have n1_ := Aside0.mk (blk_below (g := gb407) (o := .cells #[.int .i64 x408000_1, .int .i64 x408001_1] 25 (0, 0)) (by (with_reducible repeat (first | refine blk_drewN ?_ _ | refine blk_drew ?_ | refine blk_alloc ?_ _)); exact BK407.out) hb); have n2_ := Aside0.mk (below_step (by repeat (first | (with_reducible first | exact HB.out | apply below_alloc | apply pw_below_drewN | apply below_drew1 | refine below_set ?_ GE407.out) | exact HB.out)) hb); clear HO_4; clear BK407; clear HB; have HO_4 := n0_; have BK407 := n1_; have HB := n2_; clear n0_ n1_ n2_; (try clear hb); (try clear hb2); (try clear hk); (try clear hi)))
            go_roundg k1
            case measure => have := HK1.out; omega
            case rel => exact ⟨(wrap64 (x5_1 + 1)), (x408000_1), (x408001_1), (by first | rfl | (simp; done) | (simp [*]; done)), H', ⟨by have := HK1.out; omega⟩, ⟨by (with_reducible repeat (first | apply Kd.R_alloc | apply Kd.R_drewN | apply Kd.R_drew)); exact HO_4.out⟩, ⟨by (with_reducible repeat (first | refine blk_drewN ?_ _ | refine blk_drew ?_ | refine blk_alloc ?_ _)); exact BK407.out⟩, ⟨by repeat (first | (with_reducible first | exact HB.out | apply below_alloc | apply pw_below_drewN | apply below_drew1 | refine below_set ?_ GE407.out) | exact HB.out)⟩⟩
        · rw [if_neg c14] at H
          exact absurd H (by simp)
      · rw [if_neg c13] at H
        have c13b0 : decide (x5_1 < (y416.length : Int)) = false := decide_eq_false c13
        clear c13
        by_cases c22 : (a0.size : Int) > 20
        · rw [if_pos c22] at H
          have c22b0 : decide (20 < (a0.size : Int)) = true := decide_eq_true c22
          have c22b1 : decide (20 < a0.size) = true := decide_eq_true (by omega)
          clear c22
          simp only [Option.some.injEq, Prod.mk.injEq] at H
          obtain ⟨rfl, rfl, rfl⟩ := H
          obtain ⟨Ao23, co23, eo23⟩ := Kd.R_slice HO_4.out
          subst eo23
          have hcz24_0 : wr.cell? ⟨gb407, 0, none⟩ = some (.int .i64 x408000_1) := (blk_cell BK407.out 0).trans rfl
          have hcz24_1 : wr.cell? ⟨gb407, 1, none⟩ = some (.int .i64 x408001_1) := (blk_cell BK407.out 1).trans rfl
          have hfz24_0 := blk_frozen BK407.out 0
          have hfz24_1 := blk_frozen BK407.out 1
          go_wp2
          refine bodyPost_ret (results_ct rfl _ _ gb407 25 #[.int .i64 0, .int .i64 0] (0, 0) _ rfl (by (with_reducible repeat (first | refine blk_drewN ?_ _ | refine blk_drew ?_ | refine blk_alloc ?_ _)); refine blk_put (cs := #[.int .i64 0, .int .i64 x408001_1]) ?_ 1 _ rfl; (with_reducible repeat (first | refine blk_drewN ?_ _ | refine blk_drew ?_ | refine blk_alloc ?_ _)); refine blk_put (cs := #[.int .i64 x408000_1, .int .i64 x408001_1]) ?_ 0 _ rfl; (with_reducible repeat (first | refine blk_drewN ?_ _ | refine blk_drew ?_ | refine blk_alloc ?_ _)); exact BK407.out) Tryz.underlying25 rfl (by kernel_rfl)) rfl ?_
          exact ⟨by first | rfl | (simp [errW_none, errW_some] <;> rfl) | (simp [*, errW_none, errW_some] <;> rfl), by repeat (first | (with_reducible first | exact HB.out | apply below_alloc | apply pw_below_drewN | apply below_drew1 | refine below_set ?_ GE407.out) | exact HB.out)⟩
        · rw [if_neg c22] at H
          have c22b0 : decide (20 < (a0.size : Int)) = false := decide_eq_false c22
          have c22b1 : decide (20 < a0.size) = false := decide_eq_false (by omega)
          clear c22
          have H' := Aside0.mk H
          clear H
          obtain ⟨Ao25, co25, eo25⟩ := Kd.R_slice HO_4.out
          subst eo25
          go_wp2
          go_loopg [6, 7, 8] k1 (fun kq v6 v7 v8 w' => ∃ (x6_2 : Int) (x7_2 : Int) (x8_2 : Int) (x408000_2 : Int) (x408001_2 : Int), v6 = .int .i64 x6_2 ∧ v7 = .int .i64 x7_2 ∧ v8 = .int .i64 x8_2 ∧ Aside0 (klaxonref08_Parse.l1 kq a0 x6_2 x7_2 x8_2 = some (r1, r2, r3)) ∧ Aside0 (kq ≤ k1) ∧ Aside0 (w'.heap[gb407]? = some (.cells #[.int .i64 x408000_2, .int .i64 x408001_2] 25 (0, 0))) ∧ Aside0 (Below w.heap.size w w'))
          case atStart => exact ⟨(0), ((-1)), (0), (x408000_1), (x408001_1), (by first | rfl | (simp; done) | (simp [*]; done)), (by first | rfl | (simp; done) | (simp [*]; done)), (by first | rfl | (simp; done) | (simp [*]; done)), H', ⟨Nat.le_refl _⟩, ⟨by (with_reducible repeat (first | refine blk_drewN ?_ _ | refine blk_drew ?_ | refine blk_alloc ?_ _)); exact BK407.out⟩, ⟨by repeat (first | (with_reducible first | exact HB.out | apply below_alloc | apply pw_below_drewN | apply below_drew1 | refine below_set ?_ GE407.out) | exact HB.out)⟩⟩
          case round =>
            clear H'
            try clear c1
            try clear c2
            try clear p2
            try clear c3
            try clear p4
            try clear q4
            try clear hx4
            try clear p6
            try clear c13
            try clear c13b0
            try clear c14
            try clear c14b0
            try clear c16
            try clear c16b0
            try clear c16b1
            try clear c22
            try clear c22b0
            try clear c22b1
            try clear c24
            try clear hcz19_0
            try clear hcz19_1
            try clear hcz24_0
            try clear hcz24_1
            try clear hfz19_0
            try clear hfz19_1
            try clear hfz24_0
            try clear hfz24_1
            try clear hx419_0
            try clear hx419_1
            try clear hx421_0
            try clear hx421_1
            try clear p2
            try clear p419
            try clear p421
            try clear q419
            try clear q421
            obtain ⟨x6_2, x7_2, x8_2, x408000_2, x408001_2, rfl, rfl, rfl, HA, HK2, BK407, HB⟩ := hrel
            cases gk with
            | zero => exact absurd HA.out (by simp [klaxonref08_Parse.l1])
            | succ k2 =>
              have H := HA.out
              clear HA
              simp only [klaxonref08_Parse.l1] at H
              by_cases c26 : x8_2 < (a0.size : Int)
              · rw [if_pos c26] at H
                have c26b0 : decide (x8_2 < (a0.size : Int)) = true := decide_eq_true c26
                clear c26
                have HC27 := Aside0.mk H
                clear H
                go_upto_region 15 with (fail)
                go_cut [43] (fun v43 wc => ∃ (kq : Nat) (x43_26 : Bool), v43 = .bool x43_26 ∧ Aside0 (klaxonref08_Parse.j2 kq a0 x6_2 x7_2 x8_2 x43_26 = some (r1, r2, r3)) ∧ Aside0 (kq ≤ k2) ∧ Aside0 (wc.heap[gb407]? = some (.cells #[.int .i64 x408000_2, .int .i64 x408001_2] 25 (0, 0))) ∧ Aside0 (Below w.heap.size w wc))
                case first =>
                  have H := HC27.out
                  clear HC27
                  by_cases c28 : 0 ≤ x8_2
                  · rw [if_pos c28] at H
                    have c28b0 : decide (0 ≤ x8_2) = true := decide_eq_true c28
                    clear c28
                    (first | rw [c28b0] | (simp only [i64_w, i32_w]; rw [c28b0]) | skip)
                    by_cases c30 : (bt a0 x8_2) = 45
                    · rw [if_pos c30] at H
                      have c30b0 : ((bt a0 x8_2) == 45) = true := beq_iff_eq.mpr c30
                      have c30b1 : ((bt a0 x8_2) != 45) = false := bne_eq_false_iff_eq.mpr c30
                      clear c30
                      have H' := Aside0.mk H
                      clear H
                      have p29 : 0 ≤ (x8_2 : Int) := of_decide_eq_true (by first | (with_reducible assumption) | assumption)
                      have q29 : x8_2 < (a0.size : Int) := of_decide_eq_true (by first | (with_reducible assumption) | assumption)
                      have hx29 := bt_at a0 x8_2
                      replace p29 := eq_true p29
                      replace q29 := eq_true q29
                      go_wp2
                      go_meet
                      case rel => exact ⟨_, ((x8_2 == 0)), (by first | rfl | (simp; done) | (simp [*]; done)), H', ⟨by have := HK1.out; have := HK2.out; first | omega | exact Nat.le_refl _⟩, ⟨by (with_reducible repeat (first | refine blk_drewN ?_ _ | refine blk_drew ?_ | refine blk_alloc ?_ _)); exact BK407.out⟩, ⟨by repeat (first | (with_reducible first | exact HB.out | apply below_alloc | apply pw_below_drewN | apply below_drew1 | refine below_set ?_ GE407.out) | exact HB.out)⟩⟩
                    · rw [if_neg c30] at H
                      have c30b0 : ((bt a0 x8_2) == 45) = false := beq_eq_false_iff_ne.mpr c30
                      have c30b1 : ((bt a0 x8_2) != 45) = true := bne_iff_ne.mpr c30
                      have H' := Aside0.mk H
                      clear H
                      have p29 : 0 ≤ (x8_2 : Int) := of_decide_eq_true (by first | (with_reducible assumption) | assumption)
                      have q29 : x8_2 < (a0.size : Int) := of_decide_eq_true (by first | (with_reducible assumption) | assumption)
                      have hx29 := bt_at a0 x8_2
                      replace p29 := eq_true p29
                      replace q29 := eq_true q29
                      go_wp2
                      go_meet
                      case rel => exact ⟨_, (false), (by first | rfl | (simp; done) | (simp [*]; done)), H', ⟨by have := HK1.out; have := HK2.out; first | omega | exact Nat.le_refl _⟩, ⟨by (with_reducible repeat (first | refine blk_drewN ?_ _ | refine blk_drew ?_ | refine blk_alloc ?_ _)); exact BK407.out⟩, ⟨by repeat (first | (with_reducible first | exact HB.out | apply below_alloc | apply pw_below_drewN | apply below_drew1 | refine below_set ?_ GE407.out) | exact HB.out)⟩⟩
                  · rw [if_neg c28] at H
                    exact absurd H (by simp)
                case rest =>
                  clear HC27
                  try clear c1
                  try clear c2
                  try clear p2
                  try clear q2
                  try clear hx2
                  try clear c3
                  try clear p4
                  try clear q4
                  try clear hx4
                  try clear p6
                  try clear c13
                  try clear c13b0
                  try clear c14
                  try clear c14b0
                  try clear c16
                  try clear c16b0
                  try clear c16b1
                  try clear c22
                  try clear c22b0
                  try clear c22b1
                  try clear c24
                  try clear c26
                  try clear c26b0
                  try clear c28
                  try clear c28b0
                  try clear p29
                  try clear q29
                  try clear hx29
                  try clear c30
                  try clear c30b0
                  try clear c30b1
                  try clear hcz19_0
                  try clear hcz19_1
                  try clear hcz24_0
                  try clear hcz24_1
                  try clear hfz19_0
                  try clear hfz19_1
                  try clear hfz24_0
                  try clear hfz24_1
                  try clear hx419_0
                  try clear hx419_1
                  try clear hx421_0
                  try clear hx421_1
                  try clear p2
                  try clear p29
                  try clear p4
                  try clear p419
                  try clear p421
                  try clear p6
                  try clear q29
                  try clear q4
                  try clear q419
                  try clear q421
                  obtain ⟨kq, x43_26, rfl, HA, HJ26, BK407, HB⟩ := hcut
                  cases kq with
                  | zero => exact absurd HA.out (by simp [klaxonref08_Parse.j2])
                  | succ kj26 =>
                    have H := HA.out
                    clear HA
                    simp only [klaxonref08_Parse.j2] at H
                    by_cases c31 : x43_26 = true
                    · subst c31
                      have H1 : (klaxonref08_Parse.l1 kj26 a0 x6_2 x7_2 (wrap64 (x8_2 + 1))) = some (r1, r2, r3) := by rw [if_pos rfl] at H; exact H
                      clear H
                      have H := H1
                      clear H1
                      have H' := Aside0.mk H
                      clear H
                      go_wp2
                      go_roundg kj26
                      case measure => have := HK1.out; have := HK2.out; have := HJ26.out; omega
                      case rel => exact ⟨(x6_2), (x7_2), (wrap64 (x8_2 + 1)), (x408000_2), (x408001_2), (by first | rfl | (simp; done) | (simp [*]; done)), (by first | rfl | (simp; done) | (simp [*]; done)), (by first | rfl | (simp; done) | (simp [*]; done)), H', ⟨by have := HK1.out; have := HK2.out; have := HJ26.out; omega⟩, ⟨by (with_reducible repeat (first | refine blk_drewN ?_ _ | refine blk_drew ?_ | refine blk_alloc ?_ _)); exact BK407.out⟩, ⟨by repeat (first | (with_reducible first | exact HB.out | apply below_alloc | apply pw_below_drewN | apply below_drew1 | refine below_set ?_ GE407.out) | exact HB.out)⟩⟩
                    · replace c31 := Bool.eq_false_iff.mpr c31
                      subst c31
                      have H1 : (if 0 ≤ x8_2 then (if x8_2 < (a0.size : Int) then (if (bt a0 x8_2) = 46 then (klaxonref08_Parse.j3 kj26 a0 x6_2 x7_2 x8_2 (decide (x7_2 < 0))) else (klaxonref08_Parse.j3 kj26 a0 x6_2 x7_2 x8_2 false)) else (none)) else (none)) = some (r1, r2, r3) := by rw [if_neg (show ¬ (false = true) by decide)] at H; exact H
                      clear H
                      have H := H1
                      clear H1
                      have HC32 := Aside0.mk H
                      clear H
                      go_upto_region 16 with (fail)
                      go_cut [52] (fun v52 wc => ∃ (kq : Nat) (x52_31 : Bool), v52 = .bool x52_31 ∧ Aside0 (klaxonref08_Parse.j3 kq a0 x6_2 x7_2 x8_2 x52_31 = some (r1, r2, r3)) ∧ Aside0 (kq ≤ kj26) ∧ Aside0 (wc.heap[gb407]? = some (.cells #[.int .i64 x408000_2, .int .i64 x408001_2] 25 (0, 0))) ∧ Aside0 (Below w.heap.size w wc))
                      case first =>
                        have H := HC32.out
                        clear HC32
                        by_cases c33 : 0 ≤ x8_2
                        · rw [if_pos c33] at H
                          have c33b0 : decide (0 ≤ x8_2) = true := decide_eq_true c33
                          clear c33
                          (first | rw [c33b0] | (simp only [i64_w, i32_w]; rw [c33b0]) | skip)
                          by_cases c34 : x8_2 < (a0.size : Int)
                          · rw [if_pos c34] at H
                            have c34b0 : decide (x8_2 < (a0.size : Int)) = true := decide_eq_true c34
                            clear c34
                            by_cases c36 : (bt a0 x8_2) = 46
                            · rw [if_pos c36] at H
                              have c36b0 : ((bt a0 x8_2) == 46) = true := beq_iff_eq.mpr c36
                              have c36b1 : ((bt a0 x8_2) != 46) = false := bne_eq_false_iff_eq.mpr c36
                              clear c36
                              have H' := Aside0.mk H
                              clear H
                              have p35 : 0 ≤ (x8_2 : Int) := of_decide_eq_true (by first | (with_reducible assumption) | assumption)
                              have q35 : x8_2 < (a0.size : Int) := of_decide_eq_true (by first | (with_reducible assumption) | assumption)
                              have hx35 := bt_at a0 x8_2
                              replace p35 := eq_true p35
                              replace q35 := eq_true q35
                              go_wp2
                              go_meet
                              case rel => exact ⟨_, (decide (x7_2 < 0)), (by first | rfl | (simp; done) | (simp [*]; done)), H', ⟨by have := HK1.out; have := HK2.out; have := HJ26.out; first | omega | exact Nat.le_refl _⟩, ⟨by (with_reducible repeat (first | refine blk_drewN ?_ _ | refine blk_drew ?_ | refine blk_alloc ?_ _)); exact BK407.out⟩, ⟨by repeat (first | (with_reducible first | exact HB.out | apply below_alloc | apply pw_below_drewN | apply below_drew1 | refine below_set ?_ GE407.out) | exact HB.out)⟩⟩
                            · rw [if_neg c36] at H
                              have c36b0 : ((bt a0 x8_2) == 46) = false := beq_eq_false_iff_ne.mpr c36
                              have c36b1 : ((bt a0 x8_2) != 46) = true := bne_iff_ne.mpr c36
                              have H' := Aside0.mk H
                              clear H
                              have p35 : 0 ≤ (x8_2 : Int) := of_decide_eq_true (by first | (with_reducible assumption) | assumption)
                              have q35 : x8_2 < (a0.size : Int) := of_decide_eq_true (by first | (with_reducible assumption) | assumption)
                              have hx35 := bt_at a0 x8_2
                              replace p35 := eq_true p35
                              replace q35 := eq_true q35
                              go_wp2
                              go_meet
                              case rel => exact ⟨_, (false), (by first | rfl | (simp; done) | (simp [*]; done)), H', ⟨by have := HK1.out; have := HK2.out; have := HJ26.out; first | omega | exact Nat.le_refl _⟩, ⟨by (with_reducible repeat (first | refine blk_drewN ?_ _ | refine blk_drew ?_ | refine blk_alloc ?_ _)); exact BK407.out⟩, ⟨by repeat (first | (with_reducible first | exact HB.out | apply below_alloc | apply pw_below_drewN | apply below_drew1 | refine below_set ?_ GE407.out) | exact HB.out)⟩⟩
                          · rw [if_neg c34] at H
                            exact absurd H (by simp)
                        · rw [if_neg c33] at H
                          exact absurd H (by simp)
                      case rest =>
                        clear HC32
                        try clear c1
                        try clear c2
                        try clear p2
                        try clear q2
                        try clear hx2
                        try clear c3
                        try clear p3
                        try clear q3
                        try clear hx3
                        try clear p4
                        try clear q4
                        try clear hx4
                        try clear p6
                        try clear c13
                        try clear c13b0
                        try clear c14
                        try clear c14b0
                        try clear c16
                        try clear c16b0
                        try clear c16b1
                        try clear c22
                        try clear c22b0
                        try clear c22b1
                        try clear c24
                        try clear c26
                        try clear c26b0
                        try clear c28
                        try clear c28b0
                        try clear p29
                        try clear q29
                        try clear hx29
                        try clear c30
                        try clear c30b0
                        try clear c30b1
                        try clear c31
                        try clear c32
                        try clear c33
                        try clear c33b0
                        try clear c34
                        try clear c34b0
                        try clear p35
                        try clear q35
                        try clear hx35
                        try clear c36
                        try clear c36b0
                        try clear c36b1
                        try clear hcz19_0
                        try clear hcz19_1
                        try clear hcz24_0
                        try clear hcz24_1
                        try clear hfz19_0
                        try clear hfz19_1
                        try clear hfz24_0
                        try clear hfz24_1
                        try clear hx419_0
                        try clear hx419_1
                        try clear hx421_0
                        try clear hx421_1
                        try clear p2
                        try clear p29
                        try clear p35
                        try clear p4
                        try clear p419
                        try clear p421
                        try clear p6
                        try clear q2
                        try clear q29
                        try clear q35
                        try clear q4
                        try clear q419
                        try clear q421
                        obtain ⟨kq, x52_31, rfl, HA, HJ31, BK407, HB⟩ := hcut
                        cases kq with
                        | zero => exact absurd HA.out (by simp [klaxonref08_Parse.j3])
                        | succ kj31 =>
                          have H := HA.out
                          clear HA
                          simp only [klaxonref08_Parse.j3] at H
                          by_cases c37 : x52_31 = true
                          · subst c37
                            have H1 : (klaxonref08_Parse.l1 kj31 a0 x6_2 3 (wrap64 (x8_2 + 1))) = some (r1, r2, r3) := by rw [if_pos rfl] at H; exact H
                            clear H
                            have H := H1
                            clear H1
                            have H' := Aside0.mk H
                            clear H
                            go_wp2
                            go_roundg kj31
                            case measure => have := HK1.out; have := HK2.out; have := HJ26.out; have := HJ31.out; omega
                            case rel => exact ⟨(x6_2), (3), (wrap64 (x8_2 + 1)), (x408000_2), (x408001_2), (by first | rfl | (simp; done) | (simp [*]; done)), (by first | rfl | (simp; done) | (simp [*]; done)), (by first | rfl | (simp; done) | (simp [*]; done)), H', ⟨by have := HK1.out; have := HK2.out; have := HJ26.out; have := HJ31.out; omega⟩, ⟨by (with_reducible repeat (first | refine blk_drewN ?_ _ | refine blk_drew ?_ | refine blk_alloc ?_ _)); exact BK407.out⟩, ⟨by repeat (first | (with_reducible first | exact HB.out | apply below_alloc | apply pw_below_drewN | apply below_drew1 | refine below_set ?_ GE407.out) | exact HB.out)⟩⟩
                          · replace c37 := Bool.eq_false_iff.mpr c37
                            subst c37
                            have H1 : (if 0 ≤ x8_2 then (if x8_2 < (a0.size : Int) then (if (bt a0 x8_2) ≥ 48 then (if (bt a0 x8_2) ≤ 57 then (if x7_2 = 0 then (klaxonref08_Parse.j4 kj31 a0 x6_2 x7_2 x8_2 false) else (klaxonref08_Parse.j4 kj31 a0 x6_2 x7_2 x8_2 (decide (x6_2 ≤ 1000000000000000)))) else (klaxonref08_Parse.j4 kj31 a0 x6_2 x7_2 x8_2 false)) else (klaxonref08_Parse.j4 kj31 a0 x6_2 x7_2 x8_2 false)) else (none)) else (none)) = some (r1, r2, r3) := by rw [if_neg (show ¬ (false = true) by decide)] at H; exact H
                            clear H
                            have H := H1
                            clear H1
                            have HC38 := Aside0.mk H
                            clear H
                            go_upto_region 18 with (fail)
                            go_cut [61] (fun v61 wc => ∃ (kq : Nat) (x61_37 : Bool), v61 = .bool x61_37 ∧ Aside0 (klaxonref08_Parse.j4 kq a0 x6_2 x7_2 x8_2 x61_37 = some (r1, r2, r3)) ∧ Aside0 (kq ≤ kj31) ∧ Aside0 (wc.heap[gb407]? = some (.cells #[.int .i64 x408000_2, .int .i64 x408001_2] 25 (0, 0))) ∧ Aside0 (Below w.heap.size w wc))
                            case first =>
                              have H := HC38.out
                              clear HC38
                              by_cases c39 : 0 ≤ x8_2
                              · rw [if_pos c39] at H
                                have c39b0 : decide (0 ≤ x8_2) = true := decide_eq_true c39
                                clear c39
                                (first | rw [c39b0] | (simp only [i64_w, i32_w]; rw [c39b0]) | skip)
                                by_cases c40 : x8_2 < (a0.size : Int)
                                · rw [if_pos c40] at H
                                  have c40b0 : decide (x8_2 < (a0.size : Int)) = true := decide_eq_true c40
                                  clear c40
                                  by_cases c42 : (bt a0 x8_2) ≥ 48
                                  · rw [if_pos c42] at H
                                    have c42b0 : decide (48 ≤ (bt a0 x8_2)) = true := decide_eq_true c42
                                    clear c42
                                    by_cases c44 : (bt a0 x8_2) ≤ 57
                                    · rw [if_pos c44] at H
                                      have c44b0 : decide ((bt a0 x8_2) ≤ 57) = true := decide_eq_true c44
                                      clear c44
                                      by_cases c45 : x7_2 = 0
                                      · rw [if_pos c45] at H
                                        have c45b0 : (x7_2 == 0) = true := beq_iff_eq.mpr c45
                                        have c45b1 : (x7_2 != 0) = false := bne_eq_false_iff_eq.mpr c45
                                        clear c45
                                        have H' := Aside0.mk H
                                        clear H
                                        have p41 : 0 ≤ (x8_2 : Int) := of_decide_eq_true (by first | (with_reducible assumption) | assumption)
                                        have q41 : x8_2 < (a0.size : Int) := of_decide_eq_true (by first | (with_reducible assumption) | assumption)
                                        have hx41 := bt_at a0 x8_2
                                        replace p41 := eq_true p41
                                        replace q41 := eq_true q41
                                        have p43 : 0 ≤ (x8_2 : Int) := of_decide_eq_true (by first | (with_reducible assumption) | assumption)
                                        have q43 : x8_2 < (a0.size : Int) := of_decide_eq_true (by first | (with_reducible assumption) | assumption)
                                        have hx43 := bt_at a0 x8_2
                                        replace p43 := eq_true p43
                                        replace q43 := eq_true q43
                                        go_wp2
                                        go_meet
                                        case rel => exact ⟨_, (false), (by first | rfl | (simp; done) | (simp [*]; done)), H', ⟨by have := HK1.out; have := HK2.out; have := HJ26.out; have := HJ31.out; first | omega | exact Nat.le_refl _⟩, ⟨by (with_reducible repeat (first | refine blk_drewN ?_ _ | refine blk_drew ?_ | refine blk_alloc ?_ _)); exact BK407.out⟩, ⟨by repeat (first | (with_reducible first | exact HB.out | apply below_alloc | apply pw_below_drewN | apply below_drew1 | refine below_set ?_ GE407.out) | exact HB.out)⟩⟩
                                      · rw [if_neg c45] at H
                                        have c45b0 : (x7_2 == 0) = false := beq_eq_false_iff_ne.mpr c45
                                        have c45b1 : (x7_2 != 0) = true := bne_iff_ne.mpr c45
                                        have H' := Aside0.mk H
                                        clear H
                                        have p41 : 0 ≤ (x8_2 : Int) := of_decide_eq_true (by first | (with_reducible assumption) | assumption)
                                        have q41 : x8_2 < (a0.size : Int) := of_decide_eq_true (by first | (with_reducible assumption) | assumption)
                                        have hx41 := bt_at a0 x8_2
                                        replace p41 := eq_true p41
                                        replace q41 := eq_true q41
                                        have p43 : 0 ≤ (x8_2 : Int) := of_decide_eq_true (by first | (with_reducible assumption) | assumption)
                                        have q43 : x8_2 < (a0.size : Int) := of_decide_eq_true (by first | (with_reducible assumption) | assumption)
                                        have hx43 := bt_at a0 x8_2
                                        replace p43 := eq_true p43
                                        replace q43 := eq_true q43
                                        go_wp2
                                        go_meet
                                        case rel => exact ⟨_, (decide (x6_2 ≤ 1000000000000000)), (by first | rfl | (simp; done) | (simp [*]; done)), H', ⟨by have := HK1.out; have := HK2.out; have := HJ26.out; have := HJ31.out; first | omega | exact Nat.le_refl _⟩, ⟨by (with_reducible repeat (first | refine blk_drewN ?_ _ | refine blk_drew ?_ | refine blk_alloc ?_ _)); exact BK407.out⟩, ⟨by repeat (first | (with_reducible first | exact HB.out | apply below_alloc | apply pw_below_drewN | apply below_drew1 | refine below_set ?_ GE407.out) | exact HB.out)⟩⟩
                                    · rw [if_neg c44] at H
                                      have c44b0 : decide ((bt a0 x8_2) ≤ 57) = false := decide_eq_false c44
                                      clear c44
                                      have H' := Aside0.mk H
                                      clear H
                                      have p41 : 0 ≤ (x8_2 : Int) := of_decide_eq_true (by first | (with_reducible assumption) | assumption)
                                      have q41 : x8_2 < (a0.size : Int) := of_decide_eq_true (by first | (with_reducible assumption) | assumption)
                                      have hx41 := bt_at a0 x8_2
                                      replace p41 := eq_true p41
                                      replace q41 := eq_true q41
                                      have p43 : 0 ≤ (x8_2 : Int) := of_decide_eq_true (by first | (with_reducible assumption) | assumption)
                                      have q43 : x8_2 < (a0.size : Int) := of_decide_eq_true (by first | (with_reducible assumption) | assumption)
                                      have hx43 := bt_at a0 x8_2
                                      replace p43 := eq_true p43
                                      replace q43 := eq_true q43
                                      go_wp2
                                      go_meet
                                      case rel => exact ⟨_, (false), (by first | rfl | (simp; done) | (simp [*]; done)), H', ⟨by have := HK1.out; have := HK2.out; have := HJ26.out; have := HJ31.out; first | omega | exact Nat.le_refl _⟩, ⟨by (with_reducible repeat (first | refine blk_drewN ?_ _ | refine blk_drew ?_ | refine blk_alloc ?_ _)); exact BK407.out⟩, ⟨by repeat (first | (with_reducible first | exact HB.out | apply below_alloc | apply pw_below_drewN | apply below_drew1 | refine below_set ?_ GE407.out) | exact HB.out)⟩⟩
                                  · rw [if_neg c42] at H
                                    have c42b0 : decide (48 ≤ (bt a0 x8_2)) = false := decide_eq_false c42
                                    clear c42
                                    have H' := Aside0.mk H
                                    clear H
                                    have p41 : 0 ≤ (x8_2 : Int) := of_decide_eq_true (by first | (with_reducible assumption) | assumption)
                                    have q41 : x8_2 < (a0.size : Int) := of_decide_eq_true (by first | (with_reducible assumption) | assumption)
                                    have hx41 := bt_at a0 x8_2
                                    replace p41 := eq_true p41
                                    replace q41 := eq_true q41
                                    go_wp2
                                    go_meet
                                    case rel => exact ⟨_, (false), (by first | rfl | (simp; done) | (simp [*]; done)), H', ⟨by have := HK1.out; have := HK2.out; have := HJ26.out; have := HJ31.out; first | omega | exact Nat.le_refl _⟩, ⟨by (with_reducible repeat (first | refine blk_drewN ?_ _ | refine blk_drew ?_ | refine blk_alloc ?_ _)); exact BK407.out⟩, ⟨by repeat (first | (with_reducible first | exact HB.out | apply below_alloc | apply pw_below_drewN | apply below_drew1 | refine below_set ?_ GE407.out) | exact HB.out)⟩⟩
                                · rw [if_neg c40] at H
                                  exact absurd H (by simp)
                              · rw [if_neg c39] at H
                                exact absurd H (by simp)
                            case rest =>
                              clear HC38
                              try clear c1
                              try clear c2
                              try clear p2
                              try clear q2
                              try clear hx2
                              try clear c3
                              try clear p3
                              try clear q3
                              try clear hx3
                              try clear c4
                              try clear p4
                              try clear q4
                              try clear hx4
                              try clear p6
                              try clear c13
                              try clear c13b0
                              try clear c14
                              try clear c14b0
                              try clear c16
                              try clear c16b0
                              try clear c16b1
                              try clear c22
                              try clear c22b0
                              try clear c22b1
                              try clear c24
                              try clear c26
                              try clear c26b0
                              try clear c28
                              try clear c28b0
                              try clear p29
                              try clear q29
                              try clear hx29
                              try clear c30
                              try clear c30b0
                              try clear c30b1
                              try clear c31
                              try clear c32
                              try clear c33
                              try clear c33b0
                              try clear c34
                              try clear c34b0
                              try clear p35
                              try clear q35
                              try clear hx35
                              try clear c36
                              try clear c36b0
                              try clear c36b1
                              try clear c37
                              try clear c39
                              try clear c39b0
                              try clear c40
                              try clear c40b0
                              try clear p41
                              try clear q41
                              try clear hx41
                              try clear c42
                              try clear c42b0
                              try clear p42
                              try clear q42
                              try clear hx42
                              try clear p43
                              try clear q43
                              try clear hx43
                              try clear c44
                              try clear c44b0
                              try clear c45
                              try clear c45b0
                              try clear c45b1
                              try clear hcz19_0
                              try clear hcz19_1
                              try clear hcz24_0
                              try clear hcz24_1
                              try clear hfz19_0
                              try clear hfz19_1
                              try clear hfz24_0
                              try clear hfz24_1
                              try clear hx419_0
                              try clear hx419_1
                              try clear hx421_0
                              try clear hx421_1
                              try clear p2
                              try clear p29
                              try clear p3
                              try clear p35
                              try clear p4
                              try clear p41
                              try clear p419
                              try clear p421
                              try clear p43
                              try clear p6
                              try clear q2
                              try clear q29
                              try clear q3
                              try clear q35
                              try clear q4
                              try clear q41
                              try clear q419
                              try clear q421
                              try clear q43
                              obtain ⟨kq, x61_37, rfl, HA, HJ37, BK407, HB⟩ := hcut
                              cases kq with
                              | zero => exact absurd HA.out (by simp [klaxonref08_Parse.j4])
                              | succ kj37 =>
                                have H := HA.out
                                clear HA
                                simp only [klaxonref08_Parse.j4] at H
                                by_cases c46 : x61_37 = true
                                · subst c46
                                  have H1 : (if 0 ≤ x8_2 then (if x8_2 < (a0.size : Int) then (if x7_2 > 0 then (klaxonref08_Parse.l1 kj37 a0 (wrap64 ((wrap64 (10 * x6_2)) + (((bt a0 x8_2) - 48) % 256))) (wrap64 (x7_2 - 1)) (wrap64 (x8_2 + 1))) else (klaxonref08_Parse.l1 kj37 a0 (wrap64 ((wrap64 (10 * x6_2)) + (((bt a0 x8_2) - 48) % 256))) x7_2 (wrap64 (x8_2 + 1)))) else (none)) else (none)) = some (r1, r2, r3) := by rw [if_pos rfl] at H; exact H
                                  clear H
                                  have H := H1
                                  clear H1
                                  by_cases c47 : 0 ≤ x8_2
                                  · rw [if_pos c47] at H
                                    have c47b0 : decide (0 ≤ x8_2) = true := decide_eq_true c47
                                    clear c47
                                    by_cases c48 : x8_2 < (a0.size : Int)
                                    · rw [if_pos c48] at H
                                      have c48b0 : decide (x8_2 < (a0.size : Int)) = true := decide_eq_true c48
                                      clear c48
                                      by_cases c50 : x7_2 > 0
                                      · rw [if_pos c50] at H
                                        have c50b0 : decide (0 < x7_2) = true := decide_eq_true c50
                                        clear c50
                                        have H' := Aside0.mk H
                                        clear H
                                        have p49 : 0 ≤ (x8_2 : Int) := of_decide_eq_true (by first | (with_reducible assumption) | assumption)
                                        have q49 : x8_2 < (a0.size : Int) := of_decide_eq_true (by first | (with_reducible assumption) | assumption)
                                        have hx49 := bt_at a0 x8_2
                                        replace p49 := eq_true p49
                                        replace q49 := eq_true q49
                                        go_wp2
                                        go_roundg kj37
                                        case measure => have := HK1.out; have := HK2.out; have := HJ26.out; have := HJ31.out; have := HJ37.out; omega
                                        case rel => exact ⟨(wrap64 ((wrap64 (10 * x6_2)) + (((bt a0 x8_2) - 48) % 256))), (wrap64 (x7_2 - 1)), (wrap64 (x8_2 + 1)), (x408000_2), (x408001_2), (by first | rfl | (simp; done) | (simp [*]; done)), (by first | rfl | (simp; done) | (simp [*]; done)), (by first | rfl | (simp; done) | (simp [*]; done)), H', ⟨by have := HK1.out; have := HK2.out; have := HJ26.out; have := HJ31.out; have := HJ37.out; omega⟩, ⟨by (with_reducible repeat (first | refine blk_drewN ?_ _ | refine blk_drew ?_ | refine blk_alloc ?_ _)); exact BK407.out⟩, ⟨by repeat (first | (with_reducible first | exact HB.out | apply below_alloc | apply pw_below_drewN | apply below_drew1 | refine below_set ?_ GE407.out) | exact HB.out)⟩⟩
                                      · rw [if_neg c50] at H
                                        have c50b0 : decide (0 < x7_2) = false := decide_eq_false c50
                                        clear c50
                                        have H' := Aside0.mk H
                                        clear H
                                        have p49 : 0 ≤ (x8_2 : Int) := of_decide_eq_true (by first | (with_reducible assumption) | assumption)
                                        have q49 : x8_2 < (a0.size : Int) := of_decide_eq_true (by first | (with_reducible assumption) | assumption)
                                        have hx49 := bt_at a0 x8_2
                                        replace p49 := eq_true p49
                                        replace q49 := eq_true q49
                                        go_wp2
                                        go_roundg kj37
                                        case measure => have := HK1.out; have := HK2.out; have := HJ26.out; have := HJ31.out; have := HJ37.out; omega
                                        case rel => exact ⟨(wrap64 ((wrap64 (10 * x6_2)) + (((bt a0 x8_2) - 48) % 256))), (x7_2), (wrap64 (x8_2 + 1)), (x408000_2), (x408001_2), (by first | rfl | (simp; done) | (simp [*]; done)), (by first | rfl | (simp; done) | (simp [*]; done)), (by first | rfl | (simp; done) | (simp [*]; done)), H', ⟨by have := HK1.out; have := HK2.out; have := HJ26.out; have := HJ31.out; have := HJ37.out; omega⟩, ⟨by (with_reducible repeat (first | refine blk_drewN ?_ _ | refine blk_drew ?_ | refine blk_alloc ?_ _)); exact BK407.out⟩, ⟨by repeat (first | (with_reducible first | exact HB.out | apply below_alloc | apply pw_below_drewN | apply below_drew1 | refine below_set ?_ GE407.out) | exact HB.out)⟩⟩
                                    · rw [if_neg c48] at H
                                      exact absurd H (by simp)
                                  · rw [if_neg c47] at H
                                    exact absurd H (by simp)
                                · replace c46 := Bool.eq_false_iff.mpr c46
                                  subst c46
                                  have H1 : (some (0, 0, 80)) = some (r1, r2, r3) := by rw [if_neg (show ¬ (false = true) by decide)] at H; exact H
                                  clear H
                                  have H := H1
                                  clear H1
                                  simp only [Option.some.injEq, Prod.mk.injEq] at H
                                  obtain ⟨rfl, rfl, rfl⟩ := H
                                  have hcz51_0 : wc.cell? ⟨gb407, 0, none⟩ = some (.int .i64 x408000_2) := (blk_cell BK407.out 0).trans rfl
                                  have hcz51_1 : wc.cell? ⟨gb407, 1, none⟩ = some (.int .i64 x408001_2) := (blk_cell BK407.out 1).trans rfl
                                  have hfz51_0 := blk_frozen BK407.out 0
                                  have hfz51_1 := blk_frozen BK407.out 1
                                  go_wp2
                                  refine bodyPost_ret (results_ct rfl _ _ gb407 25 #[.int .i64 0, .int .i64 0] (0, 0) _ rfl (by (with_reducible repeat (first | refine blk_drewN ?_ _ | refine blk_drew ?_ | refine blk_alloc ?_ _)); refine blk_put (cs := #[.int .i64 0, .int .i64 x408001_2]) ?_ 1 _ rfl; (with_reducible repeat (first | refine blk_drewN ?_ _ | refine blk_drew ?_ | refine blk_alloc ?_ _)); refine blk_put (cs := #[.int .i64 x408000_2, .int .i64 x408001_2]) ?_ 0 _ rfl; (with_reducible repeat (first | refine blk_drewN ?_ _ | refine blk_drew ?_ | refine blk_alloc ?_ _)); exact BK407.out) Tryz.underlying25 rfl (by kernel_rfl)) rfl ?_
                                  exact ⟨by first | rfl | (simp [errW_none, errW_some] <;> rfl) | (simp [*, errW_none, errW_some] <;> rfl), by repeat (first | (with_reducible first | exact HB.out | apply below_alloc | apply pw_below_drewN | apply below_drew1 | refine below_set ?_ GE407.out) | exact HB.out)⟩
              · rw [if_neg c26] at H
                have c26b0 : decide (x8_2 < (a0.size : Int)) = false := decide_eq_false c26
                clear c26
                have HC52 := Aside0.mk H
                clear H
                go_upto_if 93 with (fail)
                go_cut [7] (fun v7 wc => ∃ (kq : Nat) (x7_51 : Int), v7 = .int .i64 x7_51 ∧ Aside0 (klaxonref08_Parse.j5 kq a0 x6_2 x7_51 = some (r1, r2, r3)) ∧ Aside0 (kq ≤ k2) ∧ Aside0 (wc.heap[gb407]? = some (.cells #[.int .i64 x408000_2, .int .i64 x408001_2] 25 (0, 0))) ∧ Aside0 (Below w.heap.size w wc))
                case first =>
                  have H := HC52.out
                  clear HC52
                  by_cases c53 : x7_2 < 0
                  · rw [if_pos c53] at H
                    have c53b0 : decide (x7_2 < 0) = true := decide_eq_true c53
                    clear c53
                    (first | rw [c53b0] | (simp only [i64_w, i32_w]; rw [c53b0]) | skip)
                    have H' := Aside0.mk H
                    clear H
                    go_wp2
                    go_meet
                    case rel => exact ⟨_, (3), (by first | rfl | (simp; done) | (simp [*]; done)), H', ⟨by have := HK1.out; have := HK2.out; first | omega | exact Nat.le_refl _⟩, ⟨by (with_reducible repeat (first | refine blk_drewN ?_ _ | refine blk_drew ?_ | refine blk_alloc ?_ _)); exact BK407.out⟩, ⟨by repeat (first | (with_reducible first | exact HB.out | apply below_alloc | apply pw_below_drewN | apply below_drew1 | refine below_set ?_ GE407.out) | exact HB.out)⟩⟩
                  · rw [if_neg c53] at H
                    have c53b0 : decide (x7_2 < 0) = false := decide_eq_false c53
                    clear c53
                    (first | rw [c53b0] | (simp only [i64_w, i32_w]; rw [c53b0]) | skip)
                    have H' := Aside0.mk H
                    clear H
                    go_wp2
                    go_meet
                    case rel => exact ⟨_, (x7_2), (by first | rfl | (simp; done) | (simp [*]; done)), H', ⟨by have := HK1.out; have := HK2.out; first | omega | exact Nat.le_refl _⟩, ⟨by (with_reducible repeat (first | refine blk_drewN ?_ _ | refine blk_drew ?_ | refine blk_alloc ?_ _)); exact BK407.out⟩, ⟨by repeat (first | (with_reducible first | exact HB.out | apply below_alloc | apply pw_below_drewN | apply below_drew1 | refine below_set ?_ GE407.out) | exact HB.out)⟩⟩
                case rest =>
                  clear HC52
                  try clear c1
                  try clear c2
                  try clear p2
                  try clear q2
                  try clear hx2
                  try clear c3
                  try clear p3
                  try clear q3
                  try clear hx3
                  try clear c4
                  try clear p4
                  try clear q4
                  try clear hx4
                  try clear c5
                  try clear p6
                  try clear c13
                  try clear c13b0
                  try clear c14
                  try clear c14b0
                  try clear c16
                  try clear c16b0
                  try clear c16b1
                  try clear c22
                  try clear c22b0
                  try clear c22b1
                  try clear c24
                  try clear c26
                  try clear c26b0
                  try clear c28
                  try clear c28b0
                  try clear p29
                  try clear q29
                  try clear hx29
                  try clear c30
                  try clear c30b0
                  try clear c30b1
                  try clear c31
                  try clear c32
                  try clear c33
                  try clear c33b0
                  try clear c34
                  try clear c34b0
                  try clear p35
                  try clear q35
                  try clear hx35
                  try clear c36
                  try clear c36b0
                  try clear c36b1
                  try clear c37
                  try clear c39
                  try clear c39b0
                  try clear c40
                  try clear c40b0
                  try clear p41
                  try clear q41
                  try clear hx41
                  try clear c42
                  try clear c42b0
                  try clear p42
                  try clear q42
                  try clear hx42
                  try clear p43
                  try clear q43
                  try clear hx43
                  try clear c44
                  try clear c44b0
                  try clear c45
                  try clear c45b0
                  try clear c45b1
                  try clear c46
                  try clear c47
                  try clear c47b0
                  try clear c48
                  try clear c48b0
                  try clear p49
                  try clear q49
                  try clear hx49
                  try clear c50
                  try clear c50b0
                  try clear c53
                  try clear c53b0
                  try clear hcz19_0
                  try clear hcz19_1
                  try clear hcz24_0
                  try clear hcz24_1
                  try clear hcz51_0
                  try clear hcz51_1
                  try clear hfz19_0
                  try clear hfz19_1
                  try clear hfz24_0
                  try clear hfz24_1
                  try clear hfz51_0
                  try clear hfz51_1
                  try clear hx419_0
                  try clear hx419_1
                  try clear hx421_0
                  try clear hx421_1
                  try clear p2
                  try clear p29
                  try clear p3
                  try clear p35
                  try clear p4
                  try clear p41
                  try clear p419
                  try clear p42
                  try clear p421
                  try clear p43
                  try clear p49
                  try clear p6
                  try clear q2
                  try clear q29
                  try clear q3
                  try clear q35
                  try clear q4
                  try clear q41
                  try clear q419
                  try clear q42
                  try clear q421
                  try clear q43
                  try clear q49
                  obtain ⟨kq, x7_51, rfl, HA, HJ51, BK407, HB⟩ := hcut
                  cases kq with
                  | zero => exact absurd HA.out (by simp [klaxonref08_Parse.j5])
                  | succ kj51 =>
                    have H := HA.out
                    clear HA
                    simp only [klaxonref08_Parse.j5] at H
                    have HC54 := Aside0.mk H
                    clear H
                    go_upto_block 5 with (fail)
                    go_cut [6, 7] (fun v6 v7 wc => ∃ (kq : Nat) (x6_53 : Int) (x7_53 : Int), v6 = .int .i64 x6_53 ∧ v7 = .int .i64 x7_53 ∧ Aside0 (klaxonref08_Parse.j7 kq a0 x6_53 x7_53 = some (r1, r2, r3)) ∧ Aside0 (kq ≤ kj51) ∧ Aside0 (wc.heap[gb407]? = some (.cells #[.int .i64 x408000_2, .int .i64 x408001_2] 25 (0, 0))) ∧ Aside0 (Below w.heap.size w wc))
                    case first =>
                      have H := HC54.out
                      clear HC54
                      have H' := Aside0.mk H
                      clear H
                      go_wp2
                      go_loopg [6, 7] kj51 (fun kq v6 v7 w' => ∃ (x6_4 : Int) (x7_4 : Int), v6 = .int .i64 x6_4 ∧ v7 = .int .i64 x7_4 ∧ Aside0 (klaxonref08_Parse.l2 kq a0 x6_4 x7_4 = some (r1, r2, r3)) ∧ Aside0 (kq ≤ kj51) ∧ Aside0 (w'.heap[gb407]? = some (.cells #[.int .i64 x408000_2, .int .i64 x408001_2] 25 (0, 0))) ∧ Aside0 (Below w.heap.size w w'))
                      case atStart => exact ⟨(x6_2), (x7_51), (by first | rfl | (simp; done) | (simp [*]; done)), (by first | rfl | (simp; done) | (simp [*]; done)), H', ⟨Nat.le_refl _⟩, ⟨by (with_reducible repeat (first | refine blk_drewN ?_ _ | refine blk_drew ?_ | refine blk_alloc ?_ _)); exact BK407.out⟩, ⟨by repeat (first | (with_reducible first | exact HB.out | apply below_alloc | apply pw_below_drewN | apply below_drew1 | refine below_set ?_ GE407.out) | exact HB.out)⟩⟩
                      case round =>
                        clear H'
                        try clear c1
                        try clear c2
                        try clear p2
                        try clear q2
                        try clear hx2
                        try clear c3
                        try clear p3
                        try clear q3
                        try clear hx3
                        try clear c4
                        try clear p4
                        try clear q4
                        try clear hx4
                        try clear c5
                        try clear p6
                        try clear c13
                        try clear c13b0
                        try clear c14
                        try clear c14b0
                        try clear c16
                        try clear c16b0
                        try clear c16b1
                        try clear c22
                        try clear c22b0
                        try clear c22b1
                        try clear c24
                        try clear c26
                        try clear c26b0
                        try clear c28
                        try clear c28b0
                        try clear p29
                        try clear q29
                        try clear hx29
                        try clear c30
                        try clear c30b0
                        try clear c30b1
                        try clear c31
                        try clear c32
                        try clear c33
                        try clear c33b0
                        try clear c34
                        try clear c34b0
                        try clear p35
                        try clear q35
                        try clear hx35
                        try clear c36
                        try clear c36b0
                        try clear c36b1
                        try clear c37
                        try clear c39
                        try clear c39b0
                        try clear c40
                        try clear c40b0
                        try clear p41
                        try clear q41
                        try clear hx41
                        try clear c42
                        try clear c42b0
                        try clear p42
                        try clear q42
                        try clear hx42
                        try clear p43
                        try clear q43
                        try clear hx43
                        try clear c44
                        try clear c44b0
                        try clear c45
                        try clear c45b0
                        try clear c45b1
                        try clear c46
                        try clear c47
                        try clear c47b0
                        try clear c48
                        try clear c48b0
                        try clear p49
                        try clear q49
                        try clear hx49
                        try clear c50
                        try clear c50b0
                        try clear c53
                        try clear c53b0
                        try clear hcz19_0
                        try clear hcz19_1
                        try clear hcz24_0
                        try clear hcz24_1
                        try clear hcz51_0
                        try clear hcz51_1
                        try clear hfz19_0
                        try clear hfz19_1
                        try clear hfz24_0
                        try clear hfz24_1
                        try clear hfz51_0
                        try clear hfz51_1
                        try clear hx419_0
                        try clear hx419_1
                        try clear hx421_0
                        try clear hx421_1
                        try clear p2
                        try clear p29
                        try clear p3
                        try clear p35
                        try clear p4
                        try clear p41
                        try clear p419
                        try clear p42
                        try clear p421
                        try clear p43
                        try clear p49
                        try clear p6
                        try clear q2
                        try clear q29
                        try clear q3
                        try clear q35
                        try clear q4
                        try clear q41
                        try clear q419
                        try clear q42
                        try clear q421
                        try clear q43
                        try clear q49
                        obtain ⟨x6_4, x7_4, rfl, rfl, HA, HK4, BK407, HB⟩ := hrel
                        cases gk with
                        | zero => exact absurd HA.out (by simp [klaxonref08_Parse.l2])
                        | succ k4 =>
                          have H := HA.out
                          clear HA
                          simp only [klaxonref08_Parse.l2] at H
                          by_cases c55 : x7_4 > 0
                          · rw [if_pos c55] at H
                            have c55b0 : decide (0 < x7_4) = true := decide_eq_true c55
                            clear c55
                            (first | rw [c55b0] | (simp only [i64_w, i32_w]; rw [c55b0]) | skip)
                            by_cases c56 : x6_4 ≤ 1000000000000000
                            · rw [if_pos c56] at H
                              have c56b0 : decide (x6_4 ≤ 1000000000000000) = true := decide_eq_true c56
                              clear c56
                              have H' := Aside0.mk H
                              clear H
                              go_wp2
                              go_roundg k4
                              case measure => have := HK1.out; have := HK2.out; have := HJ51.out; have := HK4.out; omega
                              case rel => exact ⟨(wrap64 (10 * x6_4)), (wrap64 (x7_4 - 1)), (by first | rfl | (simp; done) | (simp [*]; done)), (by first | rfl | (simp; done) | (simp [*]; done)), H', ⟨by have := HK1.out; have := HK2.out; have := HJ51.out; have := HK4.out; omega⟩, ⟨by (with_reducible repeat (first | refine blk_drewN ?_ _ | refine blk_drew ?_ | refine blk_alloc ?_ _)); exact BK407.out⟩, ⟨by repeat (first | (with_reducible first | exact HB.out | apply below_alloc | apply pw_below_drewN | apply below_drew1 | refine below_set ?_ GE407.out) | exact HB.out)⟩⟩
                            · rw [if_neg c56] at H
                              have c56b0 : decide (x6_4 ≤ 1000000000000000) = false := decide_eq_false c56
                              clear c56
                              have H' := Aside0.mk H
                              clear H
                              go_wp2
                              go_meet
                              case rel => exact ⟨_, (x6_4), (x7_4), (by first | rfl | (simp; done) | (simp [*]; done)), (by first | rfl | (simp; done) | (simp [*]; done)), H', ⟨by have := HK1.out; have := HK2.out; have := HJ51.out; have := HK4.out; first | omega | exact Nat.le_refl _⟩, ⟨by (with_reducible repeat (first | refine blk_drewN ?_ _ | refine blk_drew ?_ | refine blk_alloc ?_ _)); exact BK407.out⟩, ⟨by repeat (first | (with_reducible first | exact HB.out | apply below_alloc | apply pw_below_drewN | apply below_drew1 | refine below_set ?_ GE407.out) | exact HB.out)⟩⟩
                          · rw [if_neg c55] at H
                            have c55b0 : decide (0 < x7_4) = false := decide_eq_false c55
                            clear c55
                            (first | rw [c55b0] | (simp only [i64_w, i32_w]; rw [c55b0]) | skip)
                            have H' := Aside0.mk H
                            clear H
                            go_wp2
                            go_meet
                            case rel => exact ⟨_, (x6_4), (x7_4), (by first | rfl | (simp; done) | (simp [*]; done)), (by first | rfl | (simp; done) | (simp [*]; done)), H', ⟨by have := HK1.out; have := HK2.out; have := HJ51.out; have := HK4.out; first | omega | exact Nat.le_refl _⟩, ⟨by (with_reducible repeat (first | refine blk_drewN ?_ _ | refine blk_drew ?_ | refine blk_alloc ?_ _)); exact BK407.out⟩, ⟨by repeat (first | (with_reducible first | exact HB.out | apply below_alloc | apply pw_below_drewN | apply below_drew1 | refine below_set ?_ GE407.out) | exact HB.out)⟩⟩
                    case rest =>
                      clear HC54
                      try clear c1
                      try clear c2
                      try clear p2
                      try clear q2
                      try clear hx2
                      try clear c3
                      try clear p3
                      try clear q3
                      try clear hx3
                      try clear c4
                      try clear p4
                      try clear q4
                      try clear hx4
                      try clear c5
                      try clear p6
                      try clear c13
                      try clear c13b0
                      try clear c14
                      try clear c14b0
                      try clear c16
                      try clear c16b0
                      try clear c16b1
                      try clear c22
                      try clear c22b0
                      try clear c22b1
                      try clear c24
                      try clear c26
                      try clear c26b0
                      try clear c28
                      try clear c28b0
                      try clear p29
                      try clear q29
                      try clear hx29
                      try clear c30
                      try clear c30b0
                      try clear c30b1
                      try clear c31
                      try clear c32
                      try clear c33
                      try clear c33b0
                      try clear c34
                      try clear c34b0
                      try clear p35
                      try clear q35
                      try clear hx35
                      try clear c36
                      try clear c36b0
                      try clear c36b1
                      try clear c37
                      try clear c39
                      try clear c39b0
                      try clear c40
                      try clear c40b0
                      try clear p41
                      try clear q41
                      try clear hx41
                      try clear c42
                      try clear c42b0
                      try clear p42
                      try clear q42
                      try clear hx42
                      try clear p43
                      try clear q43
                      try clear hx43
                      try clear c44
                      try clear c44b0
                      try clear c45
                      try clear c45b0
                      try clear c45b1
                      try clear c46
                      try clear c47
                      try clear c47b0
                      try clear c48
                      try clear c48b0
                      try clear p49
                      try clear q49
                      try clear hx49
                      try clear c50
                      try clear c50b0
                      try clear c53
                      try clear c53b0
                      try clear c55
                      try clear c55b0
                      try clear c56
                      try clear c56b0
                      try clear hcz19_0
                      try clear hcz19_1
                      try clear hcz24_0
                      try clear hcz24_1
                      try clear hcz51_0
                      try clear hcz51_1
                      try clear hfz19_0
                      try clear hfz19_1
                      try clear hfz24_0
                      try clear hfz24_1
                      try clear hfz51_0
                      try clear hfz51_1
                      try clear hx419_0
                      try clear hx419_1
                      try clear hx421_0
                      try clear hx421_1
                      try clear p2
                      try clear p29
                      try clear p3
                      try clear p35
                      try clear p4
                      try clear p41
                      try clear p419
                      try clear p42
                      try clear p421
                      try clear p43
                      try clear p49
                      try clear p6
                      try clear q2
                      try clear q29
                      try clear q3
                      try clear q35
                      try clear q4
                      try clear q41
                      try clear q419
                      try clear q42
                      try clear q421
                      try clear q43
                      try clear q49
                      obtain ⟨kq, x6_53, x7_53, rfl, rfl, HA, HJ53, BK407, HB⟩ := hcut
                      cases kq with
                      | zero => exact absurd HA.out (by simp [klaxonref08_Parse.j7])
                      | succ kj53 =>
                        have H := HA.out
                        clear HA
                        simp only [klaxonref08_Parse.j7] at H
                        replace H := Option.bind_eq_some_iff.mp H
                        obtain ⟨⟨t422, t423⟩, A570, H⟩ := H
                        replace H : (if a0.toList = ([] : List UInt8) then (klaxonref08_Parse.j8 kj53 a0 x6_53 x7_53 false t422 t423) else (if 0 < (a0.size : Int) then (klaxonref08_Parse.j8 kj53 a0 x6_53 x7_53 ((bt a0 0) == 45) t422 t423) else (none))) = some (r1, r2, r3) := H
                        have A57 := Aside0.mk A570
                        clear A570
                        have HC58 := Aside0.mk H
                        clear H
                        go_upto_region 28 with (first | ((with_reducible refine gate_callee (f := 20) rfl ?_); refine goesL_ (some 105) rfl rfl Tryz.func20 (by kernel_rfl) rfl #[.int .i64 x6_53] rfl (by (try simp only [List.map_toArray, List.map_cons, List.map_nil]); first | done | rfl | (simp only [List.length_drop, List.length_take]; rfl)) ?_; (with_reducible refine (klaxonref08_Num.calls x6_53 t422 t423 _ A57.out).mono ?_); rintro e w59 ⟨rfl, hb⟩; refine ⟨_, rfl, ?_⟩; have n0_ := Aside0.mk (blk_below (g := gb407) (o := .cells #[.int .i64 x408000_2, .int .i64 x408001_2] 25 (0, 0)) (by (with_reducible repeat (first | refine blk_drewN ?_ _ | refine blk_drew ?_ | refine blk_alloc ?_ _)); exact BK407.out) hb); have n1_ := Aside0.mk (below_step (by repeat (first | (with_reducible first | exact HB.out | apply below_alloc | apply pw_below_drewN | apply below_drew1 | refine below_set ?_ GE407.out) | exact HB.out)) hb); clear BK407; clear HB; have BK407 := n0_; have HB := n1_; clear n0_ n1_; (try clear hb); (try clear hb2); (try clear hk); (try clear hi)) | ((with_reducible refine gate_dst (N := 9) rfl ?_); refine box_event ?hg (N := 9) ?hd (cs := #[.int .i64 0, .int .i64 0]) (t := 25) ?hr ?_; (case hd => rfl); (case hg => rfl); (case hr => first | (go_simp; done) | (go_simp; rfl)); intro gb424 hg w60 hbox hb; have n0_ := Aside0.mk (blk_below (g := gb407) (o := .cells #[.int .i64 x408000_2, .int .i64 x408001_2] 25 (0, 0)) (by (with_reducible repeat (first | refine blk_drewN ?_ _ | refine blk_drew ?_ | refine blk_alloc ?_ _)); exact BK407.out) hb); have n1_ := Aside0.mk (below_step (by repeat (first | (with_reducible first | exact HB.out | apply below_alloc | apply pw_below_drewN | apply below_drew1 | refine below_set ?_ GE407.out) | exact HB.out)) hb); have n2_ := Aside0.mk (hbox); have n3_ := Aside0.mk ((by rw [hg]; exact (below_size (by repeat (first | (with_reducible first | exact HB.out | apply below_alloc | apply pw_below_drewN | apply below_drew1 | refine below_set ?_ GE407.out) | exact HB.out))) : w.heap.size ≤ gb424)); have n4_ := Aside0.mk ((by rw [hg]; exact (below_size (by repeat (first | (with_reducible first | exact HB.out | apply below_alloc | apply pw_below_drewN | apply below_drew1 | refine below_set ?_ GE407.out) | exact HB.out))) : w.heap.size ≤ gb424)); have n5_ := Aside0.mk ((by rw [hg]; exact Nat.ne_of_lt (blk_lt (g := gb407) (o := .cells #[.int .i64 x408000_2, .int .i64 x408001_2] 25 (0, 0)) (by (with_reducible repeat (first | refine blk_drewN ?_ _ | refine blk_drew ?_ | refine blk_alloc ?_ _)); exact BK407.out)) : gb407 ≠ gb424)); have n6_ := Aside0.mk ((by rw [hg]; exact Nat.ne_of_gt (blk_lt (g := gb407) (o := .cells #[.int .i64 x408000_2, .int .i64 x408001_2] 25 (0, 0)) (by (with_reducible repeat (first | refine blk_drewN ?_ _ | refine blk_drew ?_ | refine blk_alloc ?_ _)); exact BK407.out)) : gb424 ≠ gb407)); clear BK407; clear HB; have BK407 := n0_; have HB := n1_; have BK424 := n2_; have GW424 := n3_; have GE424 := n4_; have NB407_424 := n5_; have NB424_407 := n6_; clear n0_ n1_ n2_ n3_ n4_ n5_ n6_; clear hb hbox hg; have hnb61 := NB424_407.out; have hnc61 := NB407_424.out; have hcz62_0 : w60.cell? ⟨gb424, 0, none⟩ = some (.int .i64 0) := (blk_cell BK424.out 0).trans rfl; have hcz62_1 : w60.cell? ⟨gb424, 1, none⟩ = some (.int .i64 0) := (blk_cell BK424.out 1).trans rfl; have hfz62_0 := blk_frozen BK424.out 0; have hfz62_1 := blk_frozen BK424.out 1))
                        (try simp only [Act.put, List.setIfInBounds_toArray, List.set_cons_zero, List.set_cons_succ])
                        go_cut [112] (fun v112 wc => ∃ (kq : Nat) (x112_57 : Bool), v112 = .bool x112_57 ∧ Aside0 (klaxonref08_Parse.j8 kq a0 x6_53 x7_53 x112_57 t422 t423 = some (r1, r2, r3)) ∧ Aside0 (kq ≤ kj53) ∧ Aside0 (wc.heap[gb407]? = some (.cells #[.int .i64 x408000_2, .int .i64 x408001_2] 25 (0, 0))) ∧ Aside0 (wc.heap[gb424]? = some (.cells #[.int .i64 t422, .int .i64 t423] 25 (0, 0))) ∧ Aside0 (Below w.heap.size w wc))
                        case first =>
                          have H := HC58.out
                          clear HC58
                          by_cases c63 : a0.toList = ([] : List UInt8)
                          · rw [if_pos c63] at H
                            have c63b0 : (a0.toList == ([] : List UInt8)) = true := beq_iff_eq.mpr c63
                            have c63b1 : (a0.toList != ([] : List UInt8)) = false := bne_eq_false_iff_eq.mpr c63
                            clear c63
                            (first | rw [c63b0] | (simp only [i64_w, i32_w]; rw [c63b0]) | skip)
                            have H' := Aside0.mk H
                            clear H
                            go_wp2
                            go_meet
                            case rel => exact ⟨_, (false), (by first | rfl | (simp; done) | (simp [*]; done)), H', ⟨by have := HK1.out; have := HK2.out; have := HJ51.out; have := HJ53.out; first | omega | exact Nat.le_refl _⟩, ⟨by (with_reducible repeat (first | refine blk_drewN ?_ _ | refine blk_drew ?_ | refine blk_alloc ?_ _)); refine blk_far ?_ NB407_424.out _; (with_reducible repeat (first | refine blk_drewN ?_ _ | refine blk_drew ?_ | refine blk_alloc ?_ _)); refine blk_far ?_ NB407_424.out _; (with_reducible repeat (first | refine blk_drewN ?_ _ | refine blk_drew ?_ | refine blk_alloc ?_ _)); exact BK407.out⟩, ⟨by (with_reducible repeat (first | refine blk_drewN ?_ _ | refine blk_drew ?_ | refine blk_alloc ?_ _)); refine blk_put (cs := #[.int .i64 t422, .int .i64 0]) ?_ 1 _ rfl; (with_reducible repeat (first | refine blk_drewN ?_ _ | refine blk_drew ?_ | refine blk_alloc ?_ _)); refine blk_put (cs := #[.int .i64 0, .int .i64 0]) ?_ 0 _ rfl; (with_reducible repeat (first | refine blk_drewN ?_ _ | refine blk_drew ?_ | refine blk_alloc ?_ _)); exact BK424.out⟩, ⟨by repeat (first | (with_reducible first | exact HB.out | apply below_alloc | apply pw_below_drewN | apply below_drew1 | refine below_set ?_ GE407.out | refine below_set ?_ GE424.out) | exact HB.out)⟩⟩
                          · rw [if_neg c63] at H
                            have c63b0 : (a0.toList == ([] : List UInt8)) = false := beq_eq_false_iff_ne.mpr c63
                            have c63b1 : (a0.toList != ([] : List UInt8)) = true := bne_iff_ne.mpr c63
                            (first | rw [c63b0] | (simp only [i64_w, i32_w]; rw [c63b0]) | skip)
                            by_cases c64 : 0 < (a0.size : Int)
                            · rw [if_pos c64] at H
                              have c64b0 : decide (0 < (a0.size : Int)) = true := decide_eq_true c64
                              have c64b1 : decide (0 < a0.size) = true := decide_eq_true (by omega)
                              clear c64
                              have H' := Aside0.mk H
                              clear H
                              have p65 : 0 ≤ (0 : Int) := (by omega)
                              have q65 : 0 < a0.size := (by have : (0 : Int) < (a0.size : Int) := of_decide_eq_true (by first | (with_reducible assumption) | assumption); omega)
                              have hx65 : ∀ h : 0 < a0.size, ((a0[0]'h).toNat : Int) = bt a0 0 := bt_at a0 0
                              clear p65
                              have qi65 : (0 < (a0.size : Int)) = True := eq_true (of_decide_eq_true (by first | (with_reducible assumption) | assumption))
                              replace q65 := eq_true q65
                              go_wp2
                              go_meet
                              case rel => exact ⟨_, (((bt a0 0) == 45)), (by first | rfl | (simp; done) | (simp [*]; done)), H', ⟨by have := HK1.out; have := HK2.out; have := HJ51.out; have := HJ53.out; first | omega | exact Nat.le_refl _⟩, ⟨by (with_reducible repeat (first | refine blk_drewN ?_ _ | refine blk_drew ?_ | refine blk_alloc ?_ _)); refine blk_far ?_ NB407_424.out _; (with_reducible repeat (first | refine blk_drewN ?_ _ | refine blk_drew ?_ | refine blk_alloc ?_ _)); refine blk_far ?_ NB407_424.out _; (with_reducible repeat (first | refine blk_drewN ?_ _ | refine blk_drew ?_ | refine blk_alloc ?_ _)); exact BK407.out⟩, ⟨by (with_reducible repeat (first | refine blk_drewN ?_ _ | refine blk_drew ?_ | refine blk_alloc ?_ _)); refine blk_put (cs := #[.int .i64 t422, .int .i64 0]) ?_ 1 _ rfl; (with_reducible repeat (first | refine blk_drewN ?_ _ | refine blk_drew ?_ | refine blk_alloc ?_ _)); refine blk_put (cs := #[.int .i64 0, .int .i64 0]) ?_ 0 _ rfl; (with_reducible repeat (first | refine blk_drewN ?_ _ | refine blk_drew ?_ | refine blk_alloc ?_ _)); exact BK424.out⟩, ⟨by repeat (first | (with_reducible first | exact HB.out | apply below_alloc | apply pw_below_drewN | apply below_drew1 | refine below_set ?_ GE407.out | refine below_set ?_ GE424.out) | exact HB.out)⟩⟩
                            · rw [if_neg c64] at H
                              exact absurd H (by simp)
                        case rest =>
                          clear HC58
                          try clear c1
                          try clear c2
                          try clear p2
                          try clear q2
                          try clear hx2
                          try clear c3
                          try clear p3
                          try clear q3
                          try clear hx3
                          try clear c4
                          try clear p4
                          try clear q4
                          try clear hx4
                          try clear c5
                          try clear c6
                          try clear p6
                          try clear q6
                          try clear hx6
                          try clear qi6
                          try clear c13
                          try clear c13b0
                          try clear c14
                          try clear c14b0
                          try clear c16
                          try clear c16b0
                          try clear c16b1
                          try clear c20
                          try clear c22
                          try clear c22b0
                          try clear c22b1
                          try clear c24
                          try clear c26
                          try clear c26b0
                          try clear c28
                          try clear c28b0
                          try clear p29
                          try clear q29
                          try clear hx29
                          try clear c30
                          try clear c30b0
                          try clear c30b1
                          try clear c31
                          try clear c32
                          try clear c33
                          try clear c33b0
                          try clear c34
                          try clear c34b0
                          try clear p35
                          try clear q35
                          try clear hx35
                          try clear c36
                          try clear c36b0
                          try clear c36b1
                          try clear c37
                          try clear c39
                          try clear c39b0
                          try clear c40
                          try clear c40b0
                          try clear p41
                          try clear q41
                          try clear hx41
                          try clear c42
                          try clear c42b0
                          try clear p42
                          try clear q42
                          try clear hx42
                          try clear p43
                          try clear q43
                          try clear hx43
                          try clear c44
                          try clear c44b0
                          try clear c45
                          try clear c45b0
                          try clear c45b1
                          try clear c46
                          try clear c47
                          try clear c47b0
                          try clear c48
                          try clear c48b0
                          try clear p49
                          try clear q49
                          try clear hx49
                          try clear c50
                          try clear c50b0
                          try clear c53
                          try clear c53b0
                          try clear c55
                          try clear c55b0
                          try clear c56
                          try clear c56b0
                          try clear c61
                          try clear c63
                          try clear c63b0
                          try clear c63b1
                          try clear c64
                          try clear c64b0
                          try clear c64b1
                          try clear p64
                          try clear p65
                          try clear q65
                          try clear hx65
                          try clear qi65
                          try clear hcz19_0
                          try clear hcz19_1
                          try clear hcz24_0
                          try clear hcz24_1
                          try clear hcz51_0
                          try clear hcz51_1
                          try clear hcz62_0
                          try clear hcz62_1
                          try clear hfz19_0
                          try clear hfz19_1
                          try clear hfz24_0
                          try clear hfz24_1
                          try clear hfz51_0
                          try clear hfz51_1
                          try clear hfz62_0
                          try clear hfz62_1
                          try clear hx419_0
                          try clear hx419_1
                          try clear hx421_0
                          try clear hx421_1
                          try clear p2
                          try clear p29
                          try clear p3
                          try clear p35
                          try clear p4
                          try clear p41
                          try clear p419
                          try clear p42
                          try clear p421
                          try clear p43
                          try clear p49
                          try clear p6
                          try clear p65
                          try clear q2
                          try clear q29
                          try clear q3
                          try clear q35
                          try clear q4
                          try clear q41
                          try clear q419
                          try clear q42
                          try clear q421
                          try clear q43
                          try clear q49
                          try clear q65
                          obtain ⟨kq, x112_57, rfl, HA, HJ57, BK407, BK424, HB⟩ := hcut
                          cases kq with
                          | zero => exact absurd HA.out (by simp [klaxonref08_Parse.j8])
                          | succ kj57 =>
                            have H := HA.out
                            clear HA
                            simp only [klaxonref08_Parse.j8] at H
                            have HC66 := Aside0.mk H
                            clear H
                            go_upto_if 112 with (fail)
                            go_cut [] (fun wc => ∃ (kq : Nat) (x425000_65 : Int) (x425001_65 : Int), Aside0 (klaxonref08_Parse.j9 kq a0 x7_53 x425000_65 x425001_65 = some (r1, r2, r3)) ∧ Aside0 (kq ≤ kj57) ∧ Aside0 (wc.heap[gb407]? = some (.cells #[.int .i64 x408000_2, .int .i64 x408001_2] 25 (0, 0))) ∧ Aside0 (wc.heap[gb424]? = some (.cells #[.int .i64 x425000_65, .int .i64 x425001_65] 25 (0, 0))) ∧ Aside0 (Below w.heap.size w wc))
                            case first =>
                              have H := HC66.out
                              clear HC66
                              by_cases c67 : x112_57 = true
                              · subst c67
                                have H1 : ((klaxonref08_Num.f (wrap64 (-x6_53))).bind fun bt425 => (klaxonref08_Parse.j9 kj57 a0 x7_53 bt425.1 bt425.2)) = some (r1, r2, r3) := by rw [if_pos rfl] at H; exact H
                                clear H
                                have H := H1
                                clear H1
                                replace H := Option.bind_eq_some_iff.mp H
                                obtain ⟨⟨t425, t426⟩, A680, H⟩ := H
                                replace H : (klaxonref08_Parse.j9 kj57 a0 x7_53 t425 t426) = some (r1, r2, r3) := H
                                have A68 := Aside0.mk A680
                                clear A680
                                have H' := Aside0.mk H
                                clear H
                                go_wp2_with (first | ((with_reducible refine gate_callee (f := 20) rfl ?_); refine goesL_ (some 115) rfl rfl Tryz.func20 (by kernel_rfl) rfl #[.int .i64 (wrap64 (-x6_53))] rfl (by (try simp only [List.map_toArray, List.map_cons, List.map_nil]); first | done | rfl | (simp only [List.length_drop, List.length_take]; rfl)) ?_; (with_reducible refine (klaxonref08_Num.calls (wrap64 (-x6_53)) t425 t426 _ A68.out).mono ?_); rintro e w69 ⟨rfl, hb⟩; refine ⟨_, rfl, ?_⟩; have n0_ := Aside0.mk (blk_below (g := gb407) (o := .cells #[.int .i64 x408000_2, .int .i64 x408001_2] 25 (0, 0)) (by (with_reducible repeat (first | refine blk_drewN ?_ _ | refine blk_drew ?_ | refine blk_alloc ?_ _)); exact BK407.out) hb); have n1_ := Aside0.mk (blk_below (g := gb424) (o := .cells #[.int .i64 t422, .int .i64 t423] 25 (0, 0)) (by (with_reducible repeat (first | refine blk_drewN ?_ _ | refine blk_drew ?_ | refine blk_alloc ?_ _)); exact BK424.out) hb); have n2_ := Aside0.mk (below_step (by repeat (first | (with_reducible first | exact HB.out | apply below_alloc | apply pw_below_drewN | apply below_drew1 | refine below_set ?_ GE407.out | refine below_set ?_ GE424.out) | exact HB.out)) hb); clear BK407; clear BK424; clear HB; have BK407 := n0_; have BK424 := n1_; have HB := n2_; clear n0_ n1_ n2_; (try clear hb); (try clear hb2); (try clear hk); (try clear hi); have hnb70 := NB424_407.out; have hnc70 := NB407_424.out; have hcz71_0 : w69.cell? ⟨gb424, 0, none⟩ = some (.int .i64 t422) := (blk_cell BK424.out 0).trans rfl; have hcz71_1 : w69.cell? ⟨gb424, 1, none⟩ = some (.int .i64 t423) := (blk_cell BK424.out 1).trans rfl; have hfz71_0 := blk_frozen BK424.out 0; have hfz71_1 := blk_frozen BK424.out 1))
                                go_meet
                                case rel => exact ⟨_, (t425), (t426), H', ⟨by have := HK1.out; have := HK2.out; have := HJ51.out; have := HJ53.out; have := HJ57.out; first | omega | exact Nat.le_refl _⟩, ⟨by (with_reducible repeat (first | refine blk_drewN ?_ _ | refine blk_drew ?_ | refine blk_alloc ?_ _)); refine blk_far ?_ NB407_424.out _; (with_reducible repeat (first | refine blk_drewN ?_ _ | refine blk_drew ?_ | refine blk_alloc ?_ _)); refine blk_far ?_ NB407_424.out _; (with_reducible repeat (first | refine blk_drewN ?_ _ | refine blk_drew ?_ | refine blk_alloc ?_ _)); exact BK407.out⟩, ⟨by (with_reducible repeat (first | refine blk_drewN ?_ _ | refine blk_drew ?_ | refine blk_alloc ?_ _)); refine blk_put (cs := #[.int .i64 t425, .int .i64 t423]) ?_ 1 _ rfl; (with_reducible repeat (first | refine blk_drewN ?_ _ | refine blk_drew ?_ | refine blk_alloc ?_ _)); refine blk_put (cs := #[.int .i64 t422, .int .i64 t423]) ?_ 0 _ rfl; (with_reducible repeat (first | refine blk_drewN ?_ _ | refine blk_drew ?_ | refine blk_alloc ?_ _)); exact BK424.out⟩, ⟨by repeat (first | (with_reducible first | exact HB.out | apply below_alloc | apply pw_below_drewN | apply below_drew1 | refine below_set ?_ GE407.out | refine below_set ?_ GE424.out) | exact HB.out)⟩⟩
                              · replace c67 := Bool.eq_false_iff.mpr c67
                                subst c67
                                have H1 : (klaxonref08_Parse.j9 kj57 a0 x7_53 t422 t423) = some (r1, r2, r3) := by rw [if_neg (show ¬ (false = true) by decide)] at H; exact H
                                clear H
                                have H := H1
                                clear H1
                                have H' := Aside0.mk H
                                clear H
                                go_wp2
                                go_meet
                                case rel => exact ⟨_, (t422), (t423), H', ⟨by have := HK1.out; have := HK2.out; have := HJ51.out; have := HJ53.out; have := HJ57.out; first | omega | exact Nat.le_refl _⟩, ⟨by (with_reducible repeat (first | refine blk_drewN ?_ _ | refine blk_drew ?_ | refine blk_alloc ?_ _)); exact BK407.out⟩, ⟨by (with_reducible repeat (first | refine blk_drewN ?_ _ | refine blk_drew ?_ | refine blk_alloc ?_ _)); exact BK424.out⟩, ⟨by repeat (first | (with_reducible first | exact HB.out | apply below_alloc | apply pw_below_drewN | apply below_drew1 | refine below_set ?_ GE407.out | refine below_set ?_ GE424.out) | exact HB.out)⟩⟩
                            case rest =>
                              clear HC66
                              try clear c1
                              try clear c2
                              try clear p2
                              try clear q2
                              try clear hx2
                              try clear c3
                              try clear p3
                              try clear q3
                              try clear hx3
                              try clear c4
                              try clear p4
                              try clear q4
                              try clear hx4
                              try clear c5
                              try clear c6
                              try clear p6
                              try clear q6
                              try clear hx6
                              try clear qi6
                              try clear c7
                              try clear c13
                              try clear c13b0
                              try clear c14
                              try clear c14b0
                              try clear c16
                              try clear c16b0
                              try clear c16b1
                              try clear c20
                              try clear c22
                              try clear c22b0
                              try clear c22b1
                              try clear c24
                              try clear c26
                              try clear c26b0
                              try clear c28
                              try clear c28b0
                              try clear p29
                              try clear q29
                              try clear hx29
                              try clear c30
                              try clear c30b0
                              try clear c30b1
                              try clear c31
                              try clear c32
                              try clear c33
                              try clear c33b0
                              try clear c34
                              try clear c34b0
                              try clear p35
                              try clear q35
                              try clear hx35
                              try clear c36
                              try clear c36b0
                              try clear c36b1
                              try clear c37
                              try clear c39
                              try clear c39b0
                              try clear c40
                              try clear c40b0
                              try clear p41
                              try clear q41
                              try clear hx41
                              try clear c42
                              try clear c42b0
                              try clear p42
                              try clear q42
                              try clear hx42
                              try clear p43
                              try clear q43
                              try clear hx43
                              try clear c44
                              try clear c44b0
                              try clear c45
                              try clear c45b0
                              try clear c45b1
                              try clear c46
                              try clear c47
                              try clear c47b0
                              try clear c48
                              try clear c48b0
                              try clear p49
                              try clear q49
                              try clear hx49
                              try clear c50
                              try clear c50b0
                              try clear c53
                              try clear c53b0
                              try clear c55
                              try clear c55b0
                              try clear c56
                              try clear c56b0
                              try clear c61
                              try clear c63
                              try clear c63b0
                              try clear c63b1
                              try clear c64
                              try clear c64b0
                              try clear c64b1
                              try clear p64
                              try clear p65
                              try clear q65
                              try clear hx65
                              try clear qi65
                              try clear c67
                              try clear c70
                              try clear hcz19_0
                              try clear hcz19_1
                              try clear hcz24_0
                              try clear hcz24_1
                              try clear hcz51_0
                              try clear hcz51_1
                              try clear hcz62_0
                              try clear hcz62_1
                              try clear hcz71_0
                              try clear hcz71_1
                              try clear hfz19_0
                              try clear hfz19_1
                              try clear hfz24_0
                              try clear hfz24_1
                              try clear hfz51_0
                              try clear hfz51_1
                              try clear hfz62_0
                              try clear hfz62_1
                              try clear hfz71_0
                              try clear hfz71_1
                              try clear hx419_0
                              try clear hx419_1
                              try clear hx421_0
                              try clear hx421_1
                              try clear p2
                              try clear p29
                              try clear p3
                              try clear p35
                              try clear p4
                              try clear p41
                              try clear p419
                              try clear p42
                              try clear p421
                              try clear p43
                              try clear p49
                              try clear p6
                              try clear p64
                              try clear p65
                              try clear q2
                              try clear q29
                              try clear q3
                              try clear q35
                              try clear q4
                              try clear q41
                              try clear q419
                              try clear q42
                              try clear q421
                              try clear q43
                              try clear q49
                              try clear q6
                              try clear q65
                              obtain ⟨kq, x425000_65, x425001_65, HA, HJ65, BK407, BK424, HB⟩ := hcut
                              cases kq with
                              | zero => exact absurd HA.out (by simp [klaxonref08_Parse.j9])
                              | succ kj65 =>
                                have H := HA.out
                                clear HA
                                simp only [klaxonref08_Parse.j9] at H
                                by_cases c72 : x7_53 > 0
                                · rw [if_pos c72] at H
                                  have c72b0 : decide (0 < x7_53) = true := decide_eq_true c72
                                  clear c72
                                  simp only [Option.some.injEq, Prod.mk.injEq] at H
                                  obtain ⟨rfl, rfl, rfl⟩ := H
                                  have hnb73 := NB407_424.out
                                  have hnc73 := NB424_407.out
                                  have hcz74_0 : wc.cell? ⟨gb407, 0, none⟩ = some (.int .i64 x408000_2) := (blk_cell BK407.out 0).trans rfl
                                  have hcz74_1 : wc.cell? ⟨gb407, 1, none⟩ = some (.int .i64 x408001_2) := (blk_cell BK407.out 1).trans rfl
                                  have hfz74_0 := blk_frozen BK407.out 0
                                  have hfz74_1 := blk_frozen BK407.out 1
                                  go_wp2
                                  refine bodyPost_ret (results_ct rfl _ _ gb407 25 #[.int .i64 0, .int .i64 0] (0, 0) _ rfl (by (with_reducible repeat (first | refine blk_drewN ?_ _ | refine blk_drew ?_ | refine blk_alloc ?_ _)); refine blk_put (cs := #[.int .i64 0, .int .i64 x408001_2]) ?_ 1 _ rfl; (with_reducible repeat (first | refine blk_drewN ?_ _ | refine blk_drew ?_ | refine blk_alloc ?_ _)); refine blk_put (cs := #[.int .i64 x408000_2, .int .i64 x408001_2]) ?_ 0 _ rfl; (with_reducible repeat (first | refine blk_drewN ?_ _ | refine blk_drew ?_ | refine blk_alloc ?_ _)); exact BK407.out) Tryz.underlying25 rfl (by kernel_rfl)) rfl ?_
                                  exact ⟨by first | rfl | (simp [errW_none, errW_some] <;> rfl) | (simp [*, errW_none, errW_some] <;> rfl), by repeat (first | (with_reducible first | exact HB.out | apply below_alloc | apply pw_below_drewN | apply below_drew1 | refine below_set ?_ GE407.out | refine below_set ?_ GE424.out) | exact HB.out)⟩
                                · rw [if_neg c72] at H
                                  have c72b0 : decide (0 < x7_53) = false := decide_eq_false c72
                                  clear c72
                                  replace H := Option.bind_eq_some_iff.mp H
                                  obtain ⟨t427, A750, H⟩ := H
                                  replace H : (if t427 = true then ((klaxonref08_Print.f kj65 x425000_65 x425001_65).bind fun t428 => (if t428.toList = a0.toList then (some (x425000_65, x425001_65, 0)) else (some (0, 0, 80)))) else (some (0, 0, 80))) = some (r1, r2, r3) := H
                                  have A75 := Aside0.mk A750
                                  clear A750
                                  by_cases c76 : t427 = true
                                  · subst c76
                                    have H1 : ((klaxonref08_Print.f kj65 x425000_65 x425001_65).bind fun t428 => (if t428.toList = a0.toList then (some (x425000_65, x425001_65, 0)) else (some (0, 0, 80)))) = some (r1, r2, r3) := by rw [if_pos rfl] at H; exact H
                                    clear H
                                    have H := H1
                                    clear H1
                                    replace H := Option.bind_eq_some_iff.mp H
                                    obtain ⟨t428, A770, H⟩ := H
                                    replace H : (if t428.toList = a0.toList then (some (x425000_65, x425001_65, 0)) else (some (0, 0, 80))) = some (r1, r2, r3) := H
                                    have A77 := Aside0.mk A770
                                    clear A770
                                    by_cases c78 : t428.toList = a0.toList
                                    · rw [if_pos c78] at H
                                      have c78b0 : (t428.toList == a0.toList) = true := beq_iff_eq.mpr c78
                                      have c78b1 : (t428.toList != a0.toList) = false := bne_eq_false_iff_eq.mpr c78
                                      clear c78
                                      simp only [Option.some.injEq, Prod.mk.injEq] at H
                                      obtain ⟨rfl, rfl, rfl⟩ := H
                                      have hnb79 := NB424_407.out
                                      have hnc79 := NB407_424.out
                                      have hcz80_0 : wc.cell? ⟨gb424, 0, none⟩ = some (.int .i64 x425000_65) := (blk_cell BK424.out 0).trans rfl
                                      have hcz80_1 : wc.cell? ⟨gb424, 1, none⟩ = some (.int .i64 x425001_65) := (blk_cell BK424.out 1).trans rfl
                                      have hfz80_0 := blk_frozen BK424.out 0
                                      have hfz80_1 := blk_frozen BK424.out 1
                                      go_wp2_with (first | (go_at_call 48; (with_reducible refine (klaxonref08_num.calls x425000_65 x425001_65 true _ A75.out).mono ?_); rintro e w81 ⟨rfl, hb⟩; have n0_ := Aside0.mk (blk_below (g := gb407) (o := .cells #[.int .i64 x408000_2, .int .i64 x408001_2] 25 (0, 0)) (by (with_reducible repeat (first | refine blk_drewN ?_ _ | refine blk_drew ?_ | refine blk_alloc ?_ _)); exact BK407.out) hb); have n1_ := Aside0.mk (blk_below (g := gb424) (o := .cells #[.int .i64 x425000_65, .int .i64 x425001_65] 25 (0, 0)) (by (with_reducible repeat (first | refine blk_drewN ?_ _ | refine blk_drew ?_ | refine blk_alloc ?_ _)); exact BK424.out) hb); have n2_ := Aside0.mk (below_step (by repeat (first | (with_reducible first | exact HB.out | apply below_alloc | apply pw_below_drewN | apply below_drew1 | refine below_set ?_ GE407.out | refine below_set ?_ GE424.out) | exact HB.out)) hb); clear BK407; clear BK424; clear HB; have BK407 := n0_; have BK424 := n1_; have HB := n2_; clear n0_ n1_ n2_; (try clear hb); (try clear hb2); (try clear hk); (try clear hi); have hcz82_0 : w81.cell? ⟨gb424, 0, none⟩ = some (.int .i64 x425000_65) := (blk_cell BK424.out 0).trans rfl; have hcz82_1 : w81.cell? ⟨gb424, 1, none⟩ = some (.int .i64 x425001_65) := (blk_cell BK424.out 1).trans rfl; have hfz82_0 := blk_frozen BK424.out 0; have hfz82_1 := blk_frozen BK424.out 1) | (go_at_call 34; (with_reducible refine (klaxonref08_Print.calls kj65 x425000_65 x425001_65 t428 _ A77.out).mono ?_); rintro e w83 ⟨rfl, hb⟩; have n0_ := Aside0.mk (blk_below (g := gb407) (o := .cells #[.int .i64 x408000_2, .int .i64 x408001_2] 25 (0, 0)) (by (with_reducible repeat (first | refine blk_drewN ?_ _ | refine blk_drew ?_ | refine blk_alloc ?_ _)); exact BK407.out) hb); have n1_ := Aside0.mk (blk_below (g := gb424) (o := .cells #[.int .i64 x425000_65, .int .i64 x425001_65] 25 (0, 0)) (by (with_reducible repeat (first | refine blk_drewN ?_ _ | refine blk_drew ?_ | refine blk_alloc ?_ _)); exact BK424.out) hb); have n2_ := Aside0.mk (below_step (by repeat (first | (with_reducible first | exact HB.out | apply below_alloc | apply pw_below_drewN | apply below_drew1 | refine below_set ?_ GE407.out | refine below_set ?_ GE424.out) | exact HB.out)) hb); clear BK407; clear BK424; clear HB; have BK407 := n0_; have BK424 := n1_; have HB := n2_; clear n0_ n1_ n2_; (try clear hb); (try clear hb2); (try clear hk); (try clear hi); have hcz84_0 : w83.cell? ⟨gb424, 0, none⟩ = some (.int .i64 x425000_65) := (blk_cell BK424.out 0).trans rfl; have hcz84_1 : w83.cell? ⟨gb424, 1, none⟩ = some (.int .i64 x425001_65) := (blk_cell BK424.out 1).trans rfl; have hfz84_0 := blk_frozen BK424.out 0; have hfz84_1 := blk_frozen BK424.out 1; have hcz85_0 : w83.cell? ⟨gb407, 0, none⟩ = some (.int .i64 x408000_2) := (blk_cell BK407.out 0).trans rfl; have hcz85_1 : w83.cell? ⟨gb407, 1, none⟩ = some (.int .i64 x408001_2) := (blk_cell BK407.out 1).trans rfl; have hfz85_0 := blk_frozen BK407.out 0; have hfz85_1 := blk_frozen BK407.out 1))
                                      refine bodyPost_ret (results_ct rfl _ _ gb407 25 #[.int .i64 x425000_65, .int .i64 x425001_65] (0, 0) _ rfl (by (with_reducible repeat (first | refine blk_drewN ?_ _ | refine blk_drew ?_ | refine blk_alloc ?_ _)); refine blk_put (cs := #[.int .i64 x425000_65, .int .i64 x408001_2]) ?_ 1 _ rfl; (with_reducible repeat (first | refine blk_drewN ?_ _ | refine blk_drew ?_ | refine blk_alloc ?_ _)); refine blk_put (cs := #[.int .i64 x408000_2, .int .i64 x408001_2]) ?_ 0 _ rfl; (with_reducible repeat (first | refine blk_drewN ?_ _ | refine blk_drew ?_ | refine blk_alloc ?_ _)); exact BK407.out) Tryz.underlying25 rfl (by kernel_rfl)) rfl ?_
                                      exact ⟨by first | rfl | (simp [errW_none, errW_some] <;> rfl) | (simp [*, errW_none, errW_some] <;> rfl), by repeat (first | (with_reducible first | exact HB.out | apply below_alloc | apply pw_below_drewN | apply below_drew1 | refine below_set ?_ GE407.out | refine below_set ?_ GE424.out) | exact HB.out)⟩
                                    · rw [if_neg c78] at H
                                      have c78b0 : (t428.toList == a0.toList) = false := beq_eq_false_iff_ne.mpr c78
                                      have c78b1 : (t428.toList != a0.toList) = true := bne_iff_ne.mpr c78
                                      simp only [Option.some.injEq, Prod.mk.injEq] at H
                                      obtain ⟨rfl, rfl, rfl⟩ := H
                                      have hnb86 := NB424_407.out
                                      have hnc86 := NB407_424.out
                                      have hcz87_0 : wc.cell? ⟨gb424, 0, none⟩ = some (.int .i64 x425000_65) := (blk_cell BK424.out 0).trans rfl
                                      have hcz87_1 : wc.cell? ⟨gb424, 1, none⟩ = some (.int .i64 x425001_65) := (blk_cell BK424.out 1).trans rfl
                                      have hfz87_0 := blk_frozen BK424.out 0
                                      have hfz87_1 := blk_frozen BK424.out 1
                                      go_wp2_with (first | (go_at_call 48; (with_reducible refine (klaxonref08_num.calls x425000_65 x425001_65 true _ A75.out).mono ?_); rintro e w88 ⟨rfl, hb⟩; have n0_ := Aside0.mk (blk_below (g := gb407) (o := .cells #[.int .i64 x408000_2, .int .i64 x408001_2] 25 (0, 0)) (by (with_reducible repeat (first | refine blk_drewN ?_ _ | refine blk_drew ?_ | refine blk_alloc ?_ _)); exact BK407.out) hb); have n1_ := Aside0.mk (blk_below (g := gb424) (o := .cells #[.int .i64 x425000_65, .int .i64 x425001_65] 25 (0, 0)) (by (with_reducible repeat (first | refine blk_drewN ?_ _ | refine blk_drew ?_ | refine blk_alloc ?_ _)); exact BK424.out) hb); have n2_ := Aside0.mk (below_step (by repeat (first | (with_reducible first | exact HB.out | apply below_alloc | apply pw_below_drewN | apply below_drew1 | refine below_set ?_ GE407.out | refine below_set ?_ GE424.out) | exact HB.out)) hb); clear BK407; clear BK424; clear HB; have BK407 := n0_; have BK424 := n1_; have HB := n2_; clear n0_ n1_ n2_; (try clear hb); (try clear hb2); (try clear hk); (try clear hi); have hcz89_0 : w88.cell? ⟨gb424, 0, none⟩ = some (.int .i64 x425000_65) := (blk_cell BK424.out 0).trans rfl; have hcz89_1 : w88.cell? ⟨gb424, 1, none⟩ = some (.int .i64 x425001_65) := (blk_cell BK424.out 1).trans rfl; have hfz89_0 := blk_frozen BK424.out 0; have hfz89_1 := blk_frozen BK424.out 1) | (go_at_call 34; (with_reducible refine (klaxonref08_Print.calls kj65 x425000_65 x425001_65 t428 _ A77.out).mono ?_); rintro e w90 ⟨rfl, hb⟩; have n0_ := Aside0.mk (blk_below (g := gb407) (o := .cells #[.int .i64 x408000_2, .int .i64 x408001_2] 25 (0, 0)) (by (with_reducible repeat (first | refine blk_drewN ?_ _ | refine blk_drew ?_ | refine blk_alloc ?_ _)); exact BK407.out) hb); have n1_ := Aside0.mk (blk_below (g := gb424) (o := .cells #[.int .i64 x425000_65, .int .i64 x425001_65] 25 (0, 0)) (by (with_reducible repeat (first | refine blk_drewN ?_ _ | refine blk_drew ?_ | refine blk_alloc ?_ _)); exact BK424.out) hb); have n2_ := Aside0.mk (below_step (by repeat (first | (with_reducible first | exact HB.out | apply below_alloc | apply pw_below_drewN | apply below_drew1 | refine below_set ?_ GE407.out | refine below_set ?_ GE424.out) | exact HB.out)) hb); clear BK407; clear BK424; clear HB; have BK407 := n0_; have BK424 := n1_; have HB := n2_; clear n0_ n1_ n2_; (try clear hb); (try clear hb2); (try clear hk); (try clear hi); have hcz91_0 : w90.cell? ⟨gb407, 0, none⟩ = some (.int .i64 x408000_2) := (blk_cell BK407.out 0).trans rfl; have hcz91_1 : w90.cell? ⟨gb407, 1, none⟩ = some (.int .i64 x408001_2) := (blk_cell BK407.out 1).trans rfl; have hfz91_0 := blk_frozen BK407.out 0; have hfz91_1 := blk_frozen BK407.out 1))
                                      refine bodyPost_ret (results_ct rfl _ _ gb407 25 #[.int .i64 0, .int .i64 0] (0, 0) _ rfl (by (with_reducible repeat (first | refine blk_drewN ?_ _ | refine blk_drew ?_ | refine blk_alloc ?_ _)); refine blk_put (cs := #[.int .i64 0, .int .i64 x408001_2]) ?_ 1 _ rfl; (with_reducible repeat (first | refine blk_drewN ?_ _ | refine blk_drew ?_ | refine blk_alloc ?_ _)); refine blk_put (cs := #[.int .i64 x408000_2, .int .i64 x408001_2]) ?_ 0 _ rfl; (with_reducible repeat (first | refine blk_drewN ?_ _ | refine blk_drew ?_ | refine blk_alloc ?_ _)); exact BK407.out) Tryz.underlying25 rfl (by kernel_rfl)) rfl ?_
                                      exact ⟨by first | rfl | (simp [errW_none, errW_some] <;> rfl) | (simp [*, errW_none, errW_some] <;> rfl), by repeat (first | (with_reducible first | exact HB.out | apply below_alloc | apply pw_below_drewN | apply below_drew1 | refine below_set ?_ GE407.out | refine below_set ?_ GE424.out) | exact HB.out)⟩
                                  · replace c76 := Bool.eq_false_iff.mpr c76
                                    subst c76
                                    have H1 : (some (0, 0, 80)) = some (r1, r2, r3) := by rw [if_neg (show ¬ (false = true) by decide)] at H; exact H
                                    clear H
                                    have H := H1
                                    clear H1
                                    simp only [Option.some.injEq, Prod.mk.injEq] at H
                                    obtain ⟨rfl, rfl, rfl⟩ := H
                                    have hnb92 := NB424_407.out
                                    have hnc92 := NB407_424.out
                                    have hcz93_0 : wc.cell? ⟨gb424, 0, none⟩ = some (.int .i64 x425000_65) := (blk_cell BK424.out 0).trans rfl
                                    have hcz93_1 : wc.cell? ⟨gb424, 1, none⟩ = some (.int .i64 x425001_65) := (blk_cell BK424.out 1).trans rfl
                                    have hfz93_0 := blk_frozen BK424.out 0
                                    have hfz93_1 := blk_frozen BK424.out 1
                                    go_wp2_with (first | (go_at_call 48; (with_reducible refine (klaxonref08_num.calls x425000_65 x425001_65 false _ A75.out).mono ?_); rintro e w94 ⟨rfl, hb⟩; have n0_ := Aside0.mk (blk_below (g := gb407) (o := .cells #[.int .i64 x408000_2, .int .i64 x408001_2] 25 (0, 0)) (by (with_reducible repeat (first | refine blk_drewN ?_ _ | refine blk_drew ?_ | refine blk_alloc ?_ _)); exact BK407.out) hb); have n1_ := Aside0.mk (blk_below (g := gb424) (o := .cells #[.int .i64 x425000_65, .int .i64 x425001_65] 25 (0, 0)) (by (with_reducible repeat (first | refine blk_drewN ?_ _ | refine blk_drew ?_ | refine blk_alloc ?_ _)); exact BK424.out) hb); have n2_ := Aside0.mk (below_step (by repeat (first | (with_reducible first | exact HB.out | apply below_alloc | apply pw_below_drewN | apply below_drew1 | refine below_set ?_ GE407.out | refine below_set ?_ GE424.out) | exact HB.out)) hb); clear BK407; clear BK424; clear HB; have BK407 := n0_; have BK424 := n1_; have HB := n2_; clear n0_ n1_ n2_; (try clear hb); (try clear hb2); (try clear hk); (try clear hi); have hcz95_0 : w94.cell? ⟨gb407, 0, none⟩ = some (.int .i64 x408000_2) := (blk_cell BK407.out 0).trans rfl; have hcz95_1 : w94.cell? ⟨gb407, 1, none⟩ = some (.int .i64 x408001_2) := (blk_cell BK407.out 1).trans rfl; have hfz95_0 := blk_frozen BK407.out 0; have hfz95_1 := blk_frozen BK407.out 1))
                                    refine bodyPost_ret (results_ct rfl _ _ gb407 25 #[.int .i64 0, .int .i64 0] (0, 0) _ rfl (by (with_reducible repeat (first | refine blk_drewN ?_ _ | refine blk_drew ?_ | refine blk_alloc ?_ _)); refine blk_put (cs := #[.int .i64 0, .int .i64 x408001_2]) ?_ 1 _ rfl; (with_reducible repeat (first | refine blk_drewN ?_ _ | refine blk_drew ?_ | refine blk_alloc ?_ _)); refine blk_put (cs := #[.int .i64 x408000_2, .int .i64 x408001_2]) ?_ 0 _ rfl; (with_reducible repeat (first | refine blk_drewN ?_ _ | refine blk_drew ?_ | refine blk_alloc ?_ _)); exact BK407.out) Tryz.underlying25 rfl (by kernel_rfl)) rfl ?_
                                    exact ⟨by first | rfl | (simp [errW_none, errW_some] <;> rfl) | (simp [*, errW_none, errW_some] <;> rfl), by repeat (first | (with_reducible first | exact HB.out | apply below_alloc | apply pw_below_drewN | apply below_drew1 | refine below_set ?_ GE407.out | refine below_set ?_ GE424.out) | exact HB.out)⟩

end Go.Proofs.YtcmiehddjgfjaaaGreatDoor.A
/- The document's reading of texts is the program's. Plain. -/
namespace Go.Proofs.YtcmiehddjgfjaaaGreatDoor.A
open Go.RowKit Go.Proofs.YtcmiehddjgfjaaaGreatDoorW.PrintWords Go.Proofs.YtcmiehddjgfjaaaGreatDoorW.PrintLast Go.Proofs.YtcmiehddjgfjaaaGreatDoorW.PrintMore
set_option linter.unusedVariables false
set_option linter.unusedSimpArgs false
/-- An answer: the value whose text it is; or the error. -/
def PAns (s : ByteArray) (r : Int × Int × Int) : Prop := (r.2.2 = 0 → isV (r.1, r.2.1) ∧ vPrint (r.1, r.2.1) = s.toList) ∧ (r.2.2 ≠ 0 → r = (0, 0, 80))
theorem pans_err (s : ByteArray) : PAns s (0, 0, 80) := ⟨fun h => absurd h (by decide), fun _ => rfl⟩
theorem one_step {α : Type} {g : Nat → Option α} {r : α} (h : ∀ k, g (k + 1) = some r) : Ev g r := ⟨1, fun k hk => by
  obtain ⟨k, rfl⟩ : ∃ m, k = m + 1 := ⟨k - 1, by omega⟩
  exact h k⟩
theorem j9_cases (s : ByteArray) (x7 n : Int) : ∃ r, Ev (fun k => klaxonref08_Parse.j9 k s x7 (vNum n).1 (vNum n).2) r ∧ PAns s r ∧ (x7 ≤ 0 → (vNum n).1 = 1 → vPrint (vNum n) = s.toList → r = ((vNum n).1, (vNum n).2, 0)) := by
  by_cases h7 : x7 > 0
  · exact ⟨(0, 0, 80), one_step (fun k => by simp only [klaxonref08_Parse.j9]; rw [if_pos h7]), pans_err s, fun h => by omega⟩
  · by_cases h1 : (vNum n).1 = 1
    · have hnum : klaxonref08_num.f (vNum n).1 (vNum n).2 = some true := by unfold klaxonref08_num.f; rw [h1]; rfl
      have hp := rprint_ev (vNum n).1 (vNum n).2
      by_cases he : vPrint (vNum n) = s.toList
      · refine ⟨((vNum n).1, (vNum n).2, 0), Ev.step (f := fun k => (klaxonref08_Print.f k (vNum n).1 (vNum n).2).bind fun t428 => (if t428.toList = s.toList then (some ((vNum n).1, (vNum n).2, 0)) else (some (0, 0, 80)))) (fun k => ?_) (Ev.bind (f := fun k t428 => (if t428.toList = s.toList then (some ((vNum n).1, (vNum n).2, 0)) else (some (0, 0, 80)))) hp ⟨0, fun k _ => ?_⟩), ⟨fun _ => ⟨isV_num, he⟩, fun h => absurd rfl h⟩, fun _ _ _ => rfl⟩
        · simp only [klaxonref08_Parse.j9]
          rw [if_neg h7, hnum]
          simp only [Option.bind_some, if_true]
        · show (if (sb (vPrint (vNum n))).toList = s.toList then _ else _) = _
          rw [sb_toList, if_pos he]
      · refine ⟨(0, 0, 80), Ev.step (f := fun k => (klaxonref08_Print.f k (vNum n).1 (vNum n).2).bind fun t428 => (if t428.toList = s.toList then (some ((vNum n).1, (vNum n).2, 0)) else (some (0, 0, 80)))) (fun k => ?_) (Ev.bind (f := fun k t428 => (if t428.toList = s.toList then (some ((vNum n).1, (vNum n).2, 0)) else (some (0, 0, 80)))) hp ⟨0, fun k _ => ?_⟩), pans_err s, fun _ _ h => absurd h he⟩
        · simp only [klaxonref08_Parse.j9]
          rw [if_neg h7, hnum]
          simp only [Option.bind_some, if_true]
        · show (if (sb (vPrint (vNum n))).toList = s.toList then _ else _) = _
          rw [sb_toList, if_neg he]
    · have hnum : klaxonref08_num.f (vNum n).1 (vNum n).2 = some false := by unfold klaxonref08_num.f; rw [beq_false_of_ne h1]
      refine ⟨(0, 0, 80), one_step (fun k => ?_), pans_err s, fun _ h => absurd h h1⟩
      simp only [klaxonref08_Parse.j9]
      rw [if_neg h7, hnum]
      simp
/-- Does a text begin with the sign? -/
def neg1 (s : ByteArray) : Bool := if s.toList = [] then false else bt s 0 == 45
theorem j7_cases (s : ByteArray) (n x7 : Int) (h0 : 0 ≤ n) (h1 : n ≤ 100000000000000000) : ∃ r, Ev (fun k => klaxonref08_Parse.j7 k s n x7) r ∧ PAns s r ∧ (x7 ≤ 0 → (vNum (if neg1 s = true then -n else n)).1 = 1 → vPrint (vNum (if neg1 s = true then -n else n)) = s.toList → r = ((vNum (if neg1 s = true then -n else n)).1, (vNum (if neg1 s = true then -n else n)).2, 0)) := by
  obtain ⟨r, hr, hp, ho⟩ := j9_cases s x7 (if neg1 s = true then -n else n)
  refine ⟨r, ?_, hp, ho⟩
  have e1 : wrap64 (-n) = -n := wrap_id (by omega) (by omega)
  have h8 : Ev (fun k => klaxonref08_Parse.j8 k s n x7 (neg1 s) (vNum n).1 (vNum n).2) r := by
    refine Ev.step (fun k => ?_) hr
    simp only [klaxonref08_Parse.j8]
    cases hn : neg1 s with
    | true => simp only [if_true, e1, rnum_is, Option.bind_some]
    | false => simp
  refine Ev.step (fun k => ?_) h8
  simp only [klaxonref08_Parse.j7, rnum_is, Option.bind_some]
  unfold neg1
  by_cases hs : s.toList = []
  · rw [if_pos hs, if_pos hs]
  · rw [if_neg hs, if_neg hs]
    have : 0 < (s.size : Int) := by
      rw [Lib.size_eq, ← Lib.toList_data]
      have := List.length_pos_iff.2 hs
      omega
    rw [if_pos this]
theorem l2_go (s : ByteArray) (n x7 : Int) (h0 : 0 ≤ n) (h1 : n ≤ 1000000000000000) (h7 : 0 < x7) (h3 : x7 ≤ 3) {r : Int × Int × Int} (h : Ev (fun k => klaxonref08_Parse.l2 k s (10 * n) (x7 - 1)) r) : Ev (fun k => klaxonref08_Parse.l2 k s n x7) r := by
  refine Ev.step (fun k => ?_) h
  simp only [klaxonref08_Parse.l2]
  rw [if_pos h7, if_pos h1, wrap_id (by omega) (by omega), wrap_id (by omega) (by omega)]
theorem l2_end (s : ByteArray) (n x7 : Int) (h : ¬ (0 < x7 ∧ n ≤ 1000000000000000)) {r : Int × Int × Int} (hr : Ev (fun k => klaxonref08_Parse.j7 k s n x7) r) : Ev (fun k => klaxonref08_Parse.l2 k s n x7) r := by
  refine Ev.step (fun k => ?_) hr
  simp only [klaxonref08_Parse.l2]
  by_cases h7 : x7 > 0
  · rw [if_pos h7, if_neg (fun h' => h ⟨h7, h'⟩)]
  · rw [if_neg h7]
theorem l2_any (s : ByteArray) : ∀ (d : Nat) (n x7 : Int), x7.toNat = d → x7 ≤ 3 → 0 ≤ n → n ≤ 100000000000000000 → ∃ r, Ev (fun k => klaxonref08_Parse.l2 k s n x7) r ∧ PAns s r
  | 0, n, x7, hd, h3, h0, h1 => by
    obtain ⟨r, hr, hp, _⟩ := j7_cases s n x7 h0 h1
    exact ⟨r, l2_end s n x7 (by omega) hr, hp⟩
  | d + 1, n, x7, hd, h3, h0, h1 => by
    by_cases hn : n ≤ 1000000000000000
    · obtain ⟨r, hr, hp⟩ := l2_any s d (10 * n) (x7 - 1) (by omega) (by omega) (by omega) (by omega)
      exact ⟨r, l2_go s n x7 h0 hn (by omega) h3 hr, hp⟩
    · obtain ⟨r, hr, hp, _⟩ := j7_cases s n x7 h0 h1
      exact ⟨r, l2_end s n x7 (fun h => hn h.2) hr, hp⟩
/-- What a byte makes of the number and of the places that are left. -/
def stepF (c : Int) (first : Bool) (n left : Int) : Option (Int × Int) :=
  if c = 45 ∧ first = true then some (n, left)
  else if c = 46 ∧ left < 0 then some (n, 3)
  else if c ≥ 48 ∧ c ≤ 57 ∧ left ≠ 0 ∧ n ≤ 1000000000000000 then some (10 * n + (c - 48), if left > 0 then left - 1 else left)
  else none
section
variable (s : ByteArray) (n left : Int) (i : Nat) {r : Int × Int × Int}
theorem l1_j2 (hi : i < s.size) (h : Ev (fun k => klaxonref08_Parse.j2 k s n left (i : Int) (decide (bt s (i : Int) = 45) && ((i : Int) == 0))) r) : Ev (fun k => klaxonref08_Parse.l1 k s n left (i : Int)) r := by
  refine Ev.step (fun k => ?_) h
  simp only [klaxonref08_Parse.l1]
  rw [if_pos (by omega), if_pos (by omega)]
  by_cases hb : bt s (i : Int) = 45
  · rw [if_pos hb, decide_eq_true hb, Bool.true_and]
  · rw [if_neg hb, decide_eq_false hb, Bool.false_and]
theorem j2_j3 (hi : i < s.size) (h : Ev (fun k => klaxonref08_Parse.j3 k s n left (i : Int) (decide (bt s (i : Int) = 46) && decide (left < 0))) r) : Ev (fun k => klaxonref08_Parse.j2 k s n left (i : Int) false) r := by
  refine Ev.step (fun k => ?_) h
  simp only [klaxonref08_Parse.j2]
  rw [if_neg (by decide), if_pos (by omega), if_pos (by omega)]
  by_cases hb : bt s (i : Int) = 46
  · rw [if_pos hb, decide_eq_true hb, Bool.true_and]
  · rw [if_neg hb, decide_eq_false hb, Bool.false_and]
theorem j3_j4 (hi : i < s.size) (h : Ev (fun k => klaxonref08_Parse.j4 k s n left (i : Int) (decide (bt s (i : Int) ≥ 48 ∧ bt s (i : Int) ≤ 57 ∧ left ≠ 0 ∧ n ≤ 1000000000000000))) r) : Ev (fun k => klaxonref08_Parse.j3 k s n left (i : Int) false) r := by
  refine Ev.step (fun k => ?_) h
  simp only [klaxonref08_Parse.j3]
  rw [if_neg (by decide), if_pos (by omega), if_pos (by omega)]
  by_cases h1 : bt s (i : Int) ≥ 48
  · by_cases h2 : bt s (i : Int) ≤ 57
    · by_cases h3 : left = 0
      · rw [if_pos h1, if_pos h2, if_pos h3, decide_eq_false (by simp [h3])]
      · rw [if_pos h1, if_pos h2, if_neg h3]
        by_cases h4 : n ≤ 1000000000000000
        · rw [decide_eq_true h4, decide_eq_true ⟨h1, h2, h3, h4⟩]
        · rw [decide_eq_false h4, decide_eq_false (fun h => h4 h.2.2.2)]
    · rw [if_pos h1, if_neg h2, decide_eq_false (fun h => h2 h.2.1)]
  · rw [if_neg h1, decide_eq_false (fun h => h1 h.1)]
theorem wi (hi : i < s.size) (hs : s.size ≤ 1000) : wrap64 ((i : Int) + 1) = ((i + 1 : Nat) : Int) := by rw [wrap_id (by omega) (by omega)]; omega
theorem l1_step (hi : i < s.size) (hs : s.size ≤ 1000) (h0 : 0 ≤ n) (hl : -1 ≤ left ∧ left ≤ 3) {n' l' : Int} (hf : stepF (bt s (i : Int)) ((i : Int) == 0) n left = some (n', l')) (h : Ev (fun k => klaxonref08_Parse.l1 k s n' l' ((i + 1 : Nat) : Int)) r) : Ev (fun k => klaxonref08_Parse.l1 k s n left (i : Int)) r := by
  have e1 := wi s i hi hs
  have hb := bt_range s (i : Int)
  refine l1_j2 s n left i hi ?_
  unfold stepF at hf
  by_cases c1 : bt s (i : Int) = 45 ∧ ((i : Int) == 0) = true
  · rw [if_pos c1] at hf
    injection hf with hf
    injection hf with a b
    subst a b
    rw [decide_eq_true c1.1, c1.2]
    refine Ev.step (fun k => ?_) h
    simp only [klaxonref08_Parse.j2, Bool.and_self, if_true, e1]
  · rw [if_neg c1] at hf
    have e2 : (decide (bt s (i : Int) = 45) && ((i : Int) == 0)) = false := by
      rw [Bool.eq_false_iff]
      intro h
      rw [Bool.and_eq_true, decide_eq_true_iff] at h
      exact c1 h
    rw [e2]
    refine j2_j3 s n left i hi ?_
    by_cases c2 : bt s (i : Int) = 46 ∧ left < 0
    · rw [if_pos c2] at hf
      injection hf with hf
      injection hf with a b
      subst a b
      rw [decide_eq_true c2.1, decide_eq_true c2.2]
      refine Ev.step (fun k => ?_) h
      simp only [klaxonref08_Parse.j3, Bool.and_self, if_true, e1]
    · rw [if_neg c2] at hf
      have e3 : (decide (bt s (i : Int) = 46) && decide (left < 0)) = false := by
        rw [Bool.eq_false_iff]
        intro h
        rw [Bool.and_eq_true, decide_eq_true_iff, decide_eq_true_iff] at h
        exact c2 h
      rw [e3]
      refine j3_j4 s n left i hi ?_
      by_cases c3 : bt s (i : Int) ≥ 48 ∧ bt s (i : Int) ≤ 57 ∧ left ≠ 0 ∧ n ≤ 1000000000000000
      · rw [if_pos c3] at hf
        injection hf with hf
        injection hf with a b
        subst a b
        rw [decide_eq_true c3]
        refine Ev.step (fun k => ?_) h
        simp only [klaxonref08_Parse.j4, if_true]
        have w1 : wrap64 (10 * n) = 10 * n := wrap_id (by omega) (by omega)
        have w2 : (bt s (i : Int) - 48) % 256 = bt s (i : Int) - 48 := by omega
        have w3 : wrap64 (10 * n + (bt s (i : Int) - 48)) = 10 * n + (bt s (i : Int) - 48) := wrap_id (by omega) (by omega)
        have w4 : wrap64 (left - 1) = left - 1 := wrap_id (by omega) (by omega)
        rw [if_pos (by omega), if_pos (by omega), w1, w2, w3, w4, e1]
        by_cases c4 : left > 0
        · rw [if_pos c4, if_pos c4]
        · rw [if_neg c4, if_neg c4]
      · rw [if_neg c3] at hf; cases hf
theorem l1_bad (hi : i < s.size) (hf : stepF (bt s (i : Int)) ((i : Int) == 0) n left = none) : Ev (fun k => klaxonref08_Parse.l1 k s n left (i : Int)) (0, 0, 80) := by
  refine l1_j2 s n left i hi ?_
  unfold stepF at hf
  by_cases c1 : bt s (i : Int) = 45 ∧ ((i : Int) == 0) = true
  · rw [if_pos c1] at hf; cases hf
  · rw [if_neg c1] at hf
    have e2 : (decide (bt s (i : Int) = 45) && ((i : Int) == 0)) = false := by
      rw [Bool.eq_false_iff]
      intro h
      rw [Bool.and_eq_true, decide_eq_true_iff] at h
      exact c1 h
    rw [e2]
    refine j2_j3 s n left i hi ?_
    by_cases c2 : bt s (i : Int) = 46 ∧ left < 0
    · rw [if_pos c2] at hf; cases hf
    · rw [if_neg c2] at hf
      have e3 : (decide (bt s (i : Int) = 46) && decide (left < 0)) = false := by
        rw [Bool.eq_false_iff]
        intro h
        rw [Bool.and_eq_true, decide_eq_true_iff, decide_eq_true_iff] at h
        exact c2 h
      rw [e3]
      refine j3_j4 s n left i hi ?_
      by_cases c3 : bt s (i : Int) ≥ 48 ∧ bt s (i : Int) ≤ 57 ∧ left ≠ 0 ∧ n ≤ 1000000000000000
      · rw [if_pos c3] at hf; cases hf
      · rw [decide_eq_false c3]
        exact one_step fun k => by simp [klaxonref08_Parse.j4]
theorem l1_end (hi : i = s.size) (h : Ev (fun k => klaxonref08_Parse.l2 k s n (if left < 0 then 3 else left)) r) : Ev (fun k => klaxonref08_Parse.l1 k s n left (i : Int)) r := by
  have h5 : Ev (fun k => klaxonref08_Parse.j5 k s n (if left < 0 then 3 else left)) r := Ev.step (fun k => rfl) h
  refine Ev.step (fun k => ?_) h5
  simp only [klaxonref08_Parse.l1]
  rw [if_neg (by omega)]
  by_cases hl : left < 0
  · rw [if_pos hl, if_pos hl]
  · rw [if_neg hl, if_neg hl]
end
theorem stepF_range {c n left n' l' : Int} {f : Bool} (hc : 0 ≤ c ∧ c ≤ 255) (h0 : 0 ≤ n) (h1 : n ≤ 100000000000000000) (hl : -1 ≤ left ∧ left ≤ 3) (h : stepF c f n left = some (n', l')) : 0 ≤ n' ∧ n' ≤ 100000000000000000 ∧ -1 ≤ l' ∧ l' ≤ 3 := by
  unfold stepF at h
  split at h
  · injection h with h; injection h with a b; subst a b; exact ⟨h0, h1, hl⟩
  · split at h
    · injection h with h; injection h with a b; subst a b; exact ⟨h0, h1, by decide, by decide⟩
    · split at h
      · rename_i hh
        injection h with h; injection h with a b; subst a b
        refine ⟨by omega, by omega, ?_, ?_⟩ <;> split <;> omega
      · cases h
theorem l1_any (s : ByteArray) (hs : s.size ≤ 1000) : ∀ (d i : Nat) (n left : Int), i + d = s.size → 0 ≤ n → n ≤ 100000000000000000 → -1 ≤ left ∧ left ≤ 3 → ∃ r, Ev (fun k => klaxonref08_Parse.l1 k s n left (i : Int)) r ∧ PAns s r
  | 0, i, n, left, hd, h0, h1, hl => by
    obtain ⟨r, hr, hp⟩ := l2_any s _ n (if left < 0 then 3 else left) rfl (by split <;> omega) h0 h1
    exact ⟨r, l1_end s n left i (by omega) hr, hp⟩
  | d + 1, i, n, left, hd, h0, h1, hl => by
    cases hf : stepF (bt s (i : Int)) ((i : Int) == 0) n left with
    | none => exact ⟨_, l1_bad s n left i (by omega) hf, pans_err s⟩
    | some p =>
      obtain ⟨n', l'⟩ := p
      obtain ⟨g0, g1, g2, g3⟩ := stepF_range (bt_range s _) h0 h1 hl hf
      obtain ⟨r, hr, hp⟩ := l1_any s hs d (i + 1) n' l' (by omega) g0 g1 ⟨g2, g3⟩
      exact ⟨r, l1_step s n left i (by omega) hs h0 hl hf hr, hp⟩
end Go.Proofs.YtcmiehddjgfjaaaGreatDoor.A
/- The document's reading of texts is the program's: the texts that are printed. Plain. -/
namespace Go.Proofs.YtcmiehddjgfjaaaGreatDoor.A
open Go.RowKit Go.Proofs.YtcmiehddjgfjaaaGreatDoorW.PrintWords Go.Proofs.YtcmiehddjgfjaaaGreatDoorW.PrintLast Go.Proofs.YtcmiehddjgfjaaaGreatDoorW.PrintMore
set_option linter.unusedVariables false
set_option linter.unusedSimpArgs false
theorem drop_bt {s : ByteArray} {i : Nat} {c : UInt8} {r : List UInt8} (h : s.toList.drop i = c :: r) : i < s.size ∧ bt s (i : Int) = (c.toNat : Int) ∧ s.toList.drop (i + 1) = r := by
  have hl : i < s.toList.length := by
    rcases Nat.lt_or_ge i s.toList.length with h' | h'
    · exact h'
    · rw [List.drop_of_length_le h'] at h; cases h
  have hd := List.drop_eq_getElem_cons hl
  rw [h] at hd
  injection hd with h1 h2
  have hs : s.size = s.toList.length := by rw [Lib.toList_data, ← Lib.size_eq]
  refine ⟨by omega, ?_, h2.symm⟩
  have e := eq_sb s
  have hb := bt_sb s.toList i hl
  rw [← e] at hb
  rw [hb, h1]
theorem stepF_dg {d : Nat} (hd : d < 10) (f : Bool) {n left : Int} (hn : n ≤ 1000000000000000) (hl : left ≠ 0) : stepF (((dg8 d).toNat : Nat) : Int) f n left = some (10 * n + d, if left > 0 then left - 1 else left) := by
  have e := dg8_toNat hd
  unfold stepF
  rw [if_neg (by omega), if_neg (by omega), if_pos ⟨by omega, by omega, hl, hn⟩]
  congr 2
  omega
theorem l1_dg (s : ByteArray) (hs : s.size ≤ 1000) {i d : Nat} (hd : d < 10) {rest : List UInt8} (h : s.toList.drop i = dg8 d :: rest) {n left : Int} (h0 : 0 ≤ n) (hn : n ≤ 1000000000000000) (hl : left ≠ 0) (hl2 : -1 ≤ left ∧ left ≤ 3) {r : Int × Int × Int}
    (hr : Ev (fun k => klaxonref08_Parse.l1 k s (10 * n + d) (if left > 0 then left - 1 else left) ((i + 1 : Nat) : Int)) r) : Ev (fun k => klaxonref08_Parse.l1 k s n left (i : Int)) r := by
  obtain ⟨hi, hb, _⟩ := drop_bt h
  exact l1_step s n left i hi hs h0 hl2 (by rw [hb]; exact stepF_dg hd _ hn hl) hr
theorem l1_dec (s : ByteArray) (hs : s.size ≤ 1000) {r : Int × Int × Int} (u : Nat) : ∀ (rest : List UInt8) (i : Nat), u ≤ 1000000000000000 → s.toList.drop i = Lib.decDigits u ++ rest → Ev (fun k => klaxonref08_Parse.l1 k s (u : Int) (-1) ((i + (Lib.decDigits u).length : Nat) : Int)) r → Ev (fun k => klaxonref08_Parse.l1 k s 0 (-1) (i : Int)) r := by
  induction u using Nat.strongRecOn with
  | _ u ih =>
    intro rest i hu hd hr
    by_cases h : u < 10
    · rw [dec_small h] at hd hr
      refine l1_dg s hs h hd (by omega) (by omega) (by omega) ⟨by omega, by omega⟩ ?_
      rw [if_neg (by decide), show (10 : Int) * 0 + (u : Int) = (u : Int) by omega]
      exact hr
    · rw [dec_big h, List.append_assoc] at hd
      rw [dec_big h, List.length_append, List.length_singleton] at hr
      refine ih (u / 10) (by omega) (dg8 (u % 10) :: rest) i (by omega) hd ?_
      have hd2 : s.toList.drop (i + (Lib.decDigits (u / 10)).length) = dg8 (u % 10) :: rest := by
        rw [← List.drop_drop, hd, List.drop_left]
        rfl
      refine l1_dg s hs (show u % 10 < 10 by omega) hd2 (by omega) (by omega) (by omega) ⟨by omega, by omega⟩ ?_
      rw [if_neg (by decide), show (10 : Int) * ((u / 10 : Nat) : Int) + ((u % 10 : Nat) : Int) = (u : Int) by omega]
      exact hr
/-- From the first digit on, the number is read. -/
theorem l1_body (s : ByteArray) (hs : s.size ≤ 1000) {r : Int × Int × Int} (m i : Nat) (hm : m ≤ 1000000000000000) (hd : s.toList.drop i = nBody m) (hr : ∀ x7 : Int, x7 ≤ 0 → Ev (fun k => klaxonref08_Parse.j7 k s (m : Int) x7) r) : Ev (fun k => klaxonref08_Parse.l1 k s 0 (-1) (i : Int)) r := by
  have hsz : s.size = s.toList.length := by rw [Lib.toList_data, ← Lib.size_eq]
  have hlen : s.toList.length = i + (nBody m).length := by
    have h := congrArg List.length hd
    rw [List.length_drop] at h
    obtain ⟨c, t, e, _⟩ := nBody_head m
    have : 0 < (nBody m).length := by rw [e]; simp
    omega
  have l0 : Ev (fun k => klaxonref08_Parse.l2 k s (m : Int) 0) r := l2_end s _ 0 (by omega) (hr 0 (by omega))
  unfold nBody at hd hlen
  by_cases h : m % 1000 > 0
  · rw [if_pos h] at hd hlen
    refine l1_dec s hs (m / 1000) _ i (by omega) hd ?_
    have hd2 : s.toList.drop (i + (Lib.decDigits (m / 1000)).length) = 46 :: frac (m % 1000) := by
      rw [← List.drop_drop, hd, List.drop_left]
    rw [List.length_append, List.length_cons] at hlen
    obtain ⟨q, hq⟩ : ∃ q, q = i + (Lib.decDigits (m / 1000)).length := ⟨_, rfl⟩
    rw [← hq] at hd2 ⊢
    obtain ⟨hi, hb, hd3⟩ := drop_bt hd2
    refine l1_step s _ (-1) q hi hs (by omega) ⟨by omega, by omega⟩ (n' := ((m / 1000 : Nat) : Int)) (l' := 3) ?_ ?_
    · rw [hb]
      unfold stepF
      have e46 : ((46 : UInt8).toNat : Int) = 46 := rfl
      rw [e46, if_neg (by omega), if_pos (by decide)]
    · rcases frac_cases (m % 1000) h (by omega) with ⟨c0, e⟩ | ⟨c0, c1, e⟩ | ⟨c0, c1, e⟩ <;> rw [e] at hd3 hlen
      · obtain ⟨_, _, hd4⟩ := drop_bt hd3
        obtain ⟨_, _, hd5⟩ := drop_bt hd4
        refine l1_dg s hs (by omega) hd3 (by omega) (by omega) (by omega) ⟨by omega, by omega⟩ ?_
        refine l1_dg s hs (by omega) hd4 (by omega) (by omega) (by decide) ⟨by decide, by decide⟩ ?_
        refine l1_dg s hs (by omega) hd5 (by omega) (by omega) (by decide) ⟨by decide, by decide⟩ ?_
        refine l1_end s _ _ _ (by simp at hlen; omega) ?_
        rw [show (10 * (10 * (10 * ((m / 1000 : Nat) : Int) + ((m % 1000 / 100 : Nat) : Int)) + ((m % 1000 / 10 % 10 : Nat) : Int)) + ((m % 1000 % 10 : Nat) : Int)) = (m : Int) by omega]
        exact l0
      · obtain ⟨_, _, hd4⟩ := drop_bt hd3
        refine l1_dg s hs (by omega) hd3 (by omega) (by omega) (by omega) ⟨by omega, by omega⟩ ?_
        refine l1_dg s hs (by omega) hd4 (by omega) (by omega) (by decide) ⟨by decide, by decide⟩ ?_
        refine l1_end s _ _ _ (by simp at hlen; omega) ?_
        refine l2_go s _ _ (by omega) (by omega) (by decide) (by decide) ?_
        rw [show (10 * (10 * (10 * ((m / 1000 : Nat) : Int) + ((m % 1000 / 100 : Nat) : Int)) + ((m % 1000 / 10 % 10 : Nat) : Int))) = (m : Int) by omega]
        exact l0
      · refine l1_dg s hs (by omega) hd3 (by omega) (by omega) (by omega) ⟨by omega, by omega⟩ ?_
        refine l1_end s _ _ _ (by simp at hlen; omega) ?_
        refine l2_go s _ _ (by omega) (by omega) (by decide) (by decide) ?_
        refine l2_go s _ _ (by omega) (by omega) (by decide) (by decide) ?_
        rw [show (10 * (10 * (10 * ((m / 1000 : Nat) : Int) + ((m % 1000 / 100 : Nat) : Int)))) = (m : Int) by omega]
        exact l0
  · rw [if_neg h, List.append_nil] at hlen
    rw [if_neg h] at hd
    refine l1_dec s hs (m / 1000) _ i (by omega) hd ?_
    refine l1_end s _ _ _ (by omega) ?_
    rw [if_pos (by decide)]
    refine l2_go s _ _ (by omega) (by omega) (by decide) (by decide) ?_
    refine l2_go s _ _ (by omega) (by omega) (by decide) (by decide) ?_
    refine l2_go s _ _ (by omega) (by omega) (by decide) (by decide) ?_
    rw [show (10 * (10 * (10 * ((m / 1000 : Nat) : Int)))) = (m : Int) by omega]
    exact l0
theorem nBody_len20 (m : Nat) (hm : m ≤ 1000000000000000) : (nBody m).length ≤ 17 := by
  unfold nBody
  have h1 := dec_len 12 (m / 1000) (by omega)
  rw [List.length_append]
  by_cases h : m % 1000 > 0
  · rw [if_pos h, List.length_cons]
    have := (frac_len (m % 1000) h (by omega)).2
    omega
  · rw [if_neg h]; simp; omega
/-- A number's text is read. -/
theorem l1_print (s : ByteArray) (n : Int) (hv : isV (1, n)) (hp : vPrint (1, n) = s.toList) : s.size ≤ 20 ∧ Ev (fun k => klaxonref08_Parse.l1 k s 0 (-1) 0) (1, n, 0) := by
  have hsz : s.size = s.toList.length := by rw [Lib.toList_data, ← Lib.size_eq]
  obtain ⟨m, hm, he, hn⟩ := print_head n hv
  have hl := nBody_len20 m hm
  obtain ⟨c, t, ec, hc1, hc2⟩ := nBody_head m
  have hvn : vNum n = (1, n) := by
    have := isV_n hv
    have h1 : -1000000000000000 ≤ n := this.1
    have h2 : n ≤ 1000000000000000 := this.2
    unfold vNum; rw [if_neg (by omega), if_neg (by omega)]
  by_cases h : n < 0
  · rw [if_pos h] at he hn
    rw [he] at hp
    have hs20 : s.size ≤ 20 := by rw [hsz, ← hp, List.length_cons]; omega
    have hd0 : s.toList.drop 0 = 45 :: nBody m := by rw [← hp]; rfl
    obtain ⟨hi, hb, hd1⟩ := drop_bt hd0
    have hneg : neg1 s = true := by
      unfold neg1
      rw [if_neg (by rw [← hp]; simp)]
      rw [show (0 : Int) = ((0 : Nat) : Int) from rfl, hb]; rfl
    refine ⟨hs20, ?_⟩
    refine l1_step s 0 (-1) 0 hi (by omega) (by omega) ⟨by omega, by omega⟩ (n' := 0) (l' := -1) (by rw [hb]; rfl) ?_
    refine l1_body s (by omega) m 1 hm hd1 (fun x7 h7 => ?_)
    obtain ⟨r, hr, _, ho⟩ := j7_cases s (m : Int) x7 (by omega) (by omega)
    rw [hneg, if_pos rfl, ← hn, hvn] at ho
    rw [← ho h7 rfl (by rw [he, hp])]
    exact hr
  · rw [if_neg h] at he hn
    rw [he] at hp
    have hs20 : s.size ≤ 20 := by rw [hsz, ← hp]; omega
    have hd0 : s.toList.drop 0 = nBody m := by rw [← hp]; rfl
    have hd0' := hd0
    rw [ec] at hd0'
    obtain ⟨hi, hb, _⟩ := drop_bt hd0'
    have hneg : neg1 s = false := by
      unfold neg1
      rw [if_neg (by rw [← hp, ec]; simp)]
      rw [show (0 : Int) = ((0 : Nat) : Int) from rfl, hb]
      exact beq_false_of_ne (by omega)
    refine ⟨hs20, ?_⟩
    refine l1_body s (by omega) m 0 hm hd0 (fun x7 h7 => ?_)
    obtain ⟨r, hr, _, ho⟩ := j7_cases s (m : Int) x7 (by omega) (by omega)
    rw [hneg, if_neg (by decide), ← hn, hvn] at ho
    rw [← ho h7 rfl (by rw [he, hp])]
    exact hr
abbrev four : List S25 := [⟨2, 0⟩, ⟨3, 0⟩, ⟨4, 0⟩, ⟨5, 0⟩]
theorem l0_hit (s : ByteArray) (i : Nat) (hi : i < 4) (a : Int) (ha : rd_T25 four (i : Int) = ⟨a, 0⟩) (he : vPrint (a, 0) = s.toList) : Ev (fun k => klaxonref08_Parse.l0 k s four (i : Int)) (a, 0, 0) := by
  refine Ev.step (f := fun k => (klaxonref08_Print.f k a 0).bind fun t420 => (if t420.toList = s.toList then (some (a, 0, 0)) else (klaxonref08_Parse.l0 k s four (wrap64 ((i : Int) + 1))))) (fun k => ?_) (Ev.bind (f := fun k t420 => (if t420.toList = s.toList then (some (a, 0, 0)) else (klaxonref08_Parse.l0 k s four (wrap64 ((i : Int) + 1))))) (rprint_ev a 0) ⟨0, fun k _ => ?_⟩)
  · simp only [klaxonref08_Parse.l0]
    rw [if_pos (by show (i : Int) < 4; omega), if_pos (by omega), ha]
  · show (if (sb (vPrint (a, 0))).toList = s.toList then _ else _) = _
    rw [sb_toList, if_pos he]
theorem l0_miss (s : ByteArray) (i : Nat) (hi : i < 4) (a : Int) (ha : rd_T25 four (i : Int) = ⟨a, 0⟩) (he : ¬ vPrint (a, 0) = s.toList) {r : Int × Int × Int} (h : Ev (fun k => klaxonref08_Parse.l0 k s four ((i + 1 : Nat) : Int)) r) : Ev (fun k => klaxonref08_Parse.l0 k s four (i : Int)) r := by
  have e1 : wrap64 ((i : Int) + 1) = ((i + 1 : Nat) : Int) := by rw [wrap_id (by omega) (by omega)]; omega
  refine Ev.step (f := fun k => (klaxonref08_Print.f k a 0).bind fun t420 => (if t420.toList = s.toList then (some (a, 0, 0)) else (klaxonref08_Parse.l0 k s four ((i + 1 : Nat) : Int)))) (fun k => ?_) (Ev.bind (f := fun k t420 => (if t420.toList = s.toList then (some (a, 0, 0)) else (klaxonref08_Parse.l0 k s four ((i + 1 : Nat) : Int)))) (rprint_ev a 0) (Ev.congr (fun k => ?_) h))
  · simp only [klaxonref08_Parse.l0]
    rw [if_pos (by show (i : Int) < 4; omega), if_pos (by omega), ha, e1]
  · show (if (sb (vPrint (a, 0))).toList = s.toList then _ else _) = _
    rw [sb_toList, if_neg he]
theorem l0_end (s : ByteArray) {r : Int × Int × Int} (h : s.size ≤ 20 → Ev (fun k => klaxonref08_Parse.l1 k s 0 (-1) 0) r) (h2 : ¬ s.size ≤ 20 → r = (0, 0, 80)) : Ev (fun k => klaxonref08_Parse.l0 k s four 4) r := by
  by_cases hs : s.size ≤ 20
  · refine Ev.step (fun k => ?_) (h hs)
    simp only [klaxonref08_Parse.l0]
    rw [if_neg (by show ¬ (4 : Int) < 4; omega), if_neg (by omega)]
  · rw [h2 hs]
    refine one_step fun k => ?_
    simp only [klaxonref08_Parse.l0]
    rw [if_neg (by show ¬ (4 : Int) < 4; omega), if_pos (by omega)]
/-- The document's answer is the program's. -/
theorem rparse_ev (s : ByteArray) : Ev (fun k => klaxonref08_Parse.f k s) ((vParse s.toList).1.1, (vParse s.toList).1.2, (vParse s.toList).2) := by
  have odd : ∀ k : Int, k = 2 ∨ k = 3 ∨ k = 4 ∨ k = 5 → isV (k, 0) := fun k hk => .inr ⟨hk, rfl⟩
  have key : ∃ r : Int × Int × Int, Ev (fun k => klaxonref08_Parse.l0 k s four ((0 : Nat) : Int)) r ∧ PAns s r ∧ (∀ v, isV v → vPrint v = s.toList → r.2.2 = 0) := by
    by_cases h2 : vPrint (2, 0) = s.toList
    · exact ⟨(2, 0, 0), l0_hit s 0 (by omega) 2 rfl h2, ⟨fun _ => ⟨odd 2 (by simp), h2⟩, fun h => absurd rfl h⟩, fun _ _ _ => rfl⟩
    by_cases h3 : vPrint (3, 0) = s.toList
    · exact ⟨(3, 0, 0), l0_miss s 0 (by omega) 2 rfl h2 (l0_hit s 1 (by omega) 3 rfl h3), ⟨fun _ => ⟨odd 3 (by simp), h3⟩, fun h => absurd rfl h⟩, fun _ _ _ => rfl⟩
    by_cases h4 : vPrint (4, 0) = s.toList
    · exact ⟨(4, 0, 0), l0_miss s 0 (by omega) 2 rfl h2 (l0_miss s 1 (by omega) 3 rfl h3 (l0_hit s 2 (by omega) 4 rfl h4)), ⟨fun _ => ⟨odd 4 (by simp), h4⟩, fun h => absurd rfl h⟩, fun _ _ _ => rfl⟩
    by_cases h5 : vPrint (5, 0) = s.toList
    · exact ⟨(5, 0, 0), l0_miss s 0 (by omega) 2 rfl h2 (l0_miss s 1 (by omega) 3 rfl h3 (l0_miss s 2 (by omega) 4 rfl h4 (l0_hit s 3 (by omega) 5 rfl h5))), ⟨fun _ => ⟨odd 5 (by simp), h5⟩, fun h => absurd rfl h⟩, fun _ _ _ => rfl⟩
    have lift : ∀ {r : Int × Int × Int}, Ev (fun k => klaxonref08_Parse.l0 k s four 4) r → Ev (fun k => klaxonref08_Parse.l0 k s four ((0 : Nat) : Int)) r := fun h => l0_miss s 0 (by omega) 2 rfl h2 (l0_miss s 1 (by omega) 3 rfl h3 (l0_miss s 2 (by omega) 4 rfl h4 (l0_miss s 3 (by omega) 5 rfl h5 h)))
    by_cases hex : ∃ v, isV v ∧ vPrint v = s.toList
    · obtain ⟨⟨a, n⟩, hv, hp⟩ := hex
      have ha : a = 1 := by
        rcases hv with ⟨h, _⟩ | ⟨h, h0⟩
        · exact h
        · have e0 : n = 0 := h0
          subst e0
          have h' : a = 2 ∨ a = 3 ∨ a = 4 ∨ a = 5 := h
          rcases h' with rfl | rfl | rfl | rfl
          · exact absurd hp h2
          · exact absurd hp h3
          · exact absurd hp h4
          · exact absurd hp h5
      subst ha
      obtain ⟨h20, hr⟩ := l1_print s n hv hp
      exact ⟨(1, n, 0), lift (l0_end s (fun _ => hr) (fun h => absurd h20 h)), ⟨fun _ => ⟨hv, hp⟩, fun h => absurd rfl h⟩, fun _ _ _ => rfl⟩
    · by_cases h20 : s.size ≤ 20
      · obtain ⟨r, hr, hp⟩ := l1_any s (by omega) s.size 0 0 (-1) (by omega) (by omega) (by omega) ⟨by omega, by omega⟩
        exact ⟨r, lift (l0_end s (fun _ => hr) (fun h => absurd h20 h)), hp, fun v hv hp => absurd ⟨v, hv, hp⟩ hex⟩
      · exact ⟨(0, 0, 80), lift (l0_end s (fun h => absurd h h20) (fun _ => rfl)), pans_err s, fun v hv hp => absurd ⟨v, hv, hp⟩ hex⟩
  obtain ⟨⟨r1, r2, r3⟩, hr, ⟨hp1, hp2⟩, hc⟩ := key
  have hu := parse_unique (l := s.toList) (v := (r1, r2)) (e := r3) hp1 (fun h => by have := hp2 h; injection this with a b; injection b with b c; rw [a, b, c]) hc
  rw [hu]
  exact hr
end Go.Proofs.YtcmiehddjgfjaaaGreatDoor.A
