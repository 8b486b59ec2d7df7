/- Laid by a program of this place, a turned copy of the printer: functions, their contracts, and proofs that Lean checks. -/
import Derived.Test.YtephhhflifjcmaaKx0
import Derived.Test.YtephhhflifjcmaaKx1
import Derived.Test.YtephhhflifjcmaaKx2
import Derived.Test.YtephhhflifjcmaaKx3
import Derived.Test.YtephhhflifjcmaaKx5
import Derived.Test.YtephhhflifjcmaaKx6
import Derived.Test.YtephhhflifjcmaaKx7
import Derived.Test.YtephhhflifjcmaaKx8
import Derived.Test.YtephhhflifjcmaaKx11
import Derived.Test.YtephhhflifjcmaaGGet
namespace Go.Proofs.Ytephhhflifjcmaa.K
open Go.RowKit Go.Proofs.YtephhhflifjcmaaW.PrintWords Go.Proofs.YtephhhflifjcmaaW.PrintLast Go.Proofs.YtephhhflifjcmaaW.PrintMore
attribute [local go_sem] max2_int min2_int max_two min_two max_three min_three max_four min_four   -- for this text's walks alone
attribute [local go_sem] H.str_gtr H.str_leq H.str_geq
set_option linter.unusedVariables false
set_option linter.unusedSimpArgs false

attribute [local go_sem high] eqA34
/-! ### klaxonlaw07_KeysPuts: function 5 -/
mutual
def klaxonlaw07_KeysPuts.j0 : Nat → List (S34) → ByteArray → Int → Bool → Option (Bool)
  | 0, _, _, _, _ => none
  | k + 1, x0, x1, x2, x26 => if x26 = true then ((klaxonlaw07_live.f k).bind fun t288 => (some t288)) else ((some (([] : List (S34)) : List (S34))).bind fun y289 => (if y289.length + x0.length < 4398046511104 then ((keys_Put.f k (y289 ++ x0)).bind fun bt295 => ((klaxonref07_Put.f k x0).bind fun bt297 => ((keys_Get.f k x1).bind fun bt299 => ((klaxonref07_Get.f k x1).bind fun bt303 => ((some (([] : List (S34)) : List (S34))).bind fun y307 => (if y307.length + x0.length < 4398046511104 then ((keys_Range.f k (y307 ++ x0)).bind fun bt313 => (if bt297.2 = 0 then (if bt297.1.size + 1 ≤ 9223372036854775807 then (klaxonlaw07_KeysPuts.j1 k x1 x2 bt295.1 bt295.2 bt297.1 bt297.2 bt299.1 bt299.2 bt303.1 bt303.2 bt313.1 bt313.2.1 bt313.2.2 (bt297.1 ++ (⟨#[255]⟩ : ByteArray))) else (none)) else (klaxonlaw07_KeysPuts.j1 k x1 x2 bt295.1 bt295.2 bt297.1 bt297.2 bt299.1 bt299.2 bt303.1 bt303.2 bt313.1 bt313.2.1 bt313.2.2 bt297.1))) else (none))))))) else (none)))
def klaxonlaw07_KeysPuts.j1 : Nat → ByteArray → Int → ByteArray → Int → ByteArray → Int → List (S34) → Int → List (S34) → Int → ByteArray → ByteArray → Int → ByteArray → Option (Bool)
  | 0, _, _, _, _, _, _, _, _, _, _, _, _, _, _ => none
  | k + 1, x1, x2, x7, x8, x9, x10, x11, x12, x13, x14, x15, x16, x17, x18 => if x7.toList = x9.toList then ((klaxonlaw07_num.f x8).bind fun t316 => (if t316 = x10 then ((klaxonref07_Same.f k x11 x13).bind fun t317 => (if t317 = true then ((klaxonlaw07_num.f x12).bind fun t318 => (if t318 = x14 then (if x15.toList = x9.toList then (if x16.toList = x18.toList then ((klaxonlaw07_num.f x17).bind fun t319 => (if t319 = x10 then ((keys_Int.f x2).bind fun bt320 => (if (bt320.1 == 1 && (bt320.2.1 == x2 && (bt320.2.2.toList == ([] : List UInt8)))) = true then ((keys_Text.f x1).bind fun bt323 => (if (bt323.1 == 2 && (bt323.2.1 == 0 && (bt323.2.2.toList == x1.toList))) = true then ((klaxonlaw07_live.f k).bind fun t326 => (some t326)) else (some false))) else (some false))) else (some false))) else (some false)) else (some false)) else (some false))) else (some false))) else (some false))) else (some false)
end
def klaxonlaw07_KeysPuts.f (k : Nat) (l0 : List (S34)) (a1 : ByteArray) (a2 : Int) : Option (Bool) := (klaxonlaw07_small.f k l0).bind fun t287 => (if t287 = true then (klaxonlaw07_KeysPuts.j0 k l0 a1 a2 (decide ((a1.size : Int) > 8000))) else (klaxonlaw07_KeysPuts.j0 k l0 a1 a2 true))
theorem klaxonlaw07_KeysPuts.mono_l : ∀ k, (∀ y0 y1 y2 y3, LeO (klaxonlaw07_KeysPuts.j0 k y0 y1 y2 y3) (klaxonlaw07_KeysPuts.j0 (k + 1) y0 y1 y2 y3)) ∧ (∀ y0 y1 y2 y3 y4 y5 y6 y7 y8 y9 y10 y11 y12 y13, LeO (klaxonlaw07_KeysPuts.j1 k y0 y1 y2 y3 y4 y5 y6 y7 y8 y9 y10 y11 y12 y13) (klaxonlaw07_KeysPuts.j1 (k + 1) y0 y1 y2 y3 y4 y5 y6 y7 y8 y9 y10 y11 y12 y13))
  | 0 => ⟨fun _ _ _ _ r h => by simp [klaxonlaw07_KeysPuts.j0] at h, fun _ _ _ _ _ _ _ _ _ _ _ _ _ _ r h => by simp [klaxonlaw07_KeysPuts.j1] at h⟩
  | k + 1 => by
    obtain ⟨ih0, ih1⟩ := klaxonlaw07_KeysPuts.mono_l k
    refine ⟨?_, ?_⟩
    · intro y0 y1 y2 y3
      unfold klaxonlaw07_KeysPuts.j0
      repeat' first
      | (with_reducible exact ih0 _ _ _ _)
      | (with_reducible exact ih1 _ _ _ _ _ _ _ _ _ _ _ _ _ _)
      | (with_reducible exact keys_Get.mono _ _)
      | (with_reducible exact keys_Put.mono _ _)
      | (with_reducible exact keys_Range.mono _ _)
      | (with_reducible exact klaxonlaw07_live.mono _)
      | (with_reducible exact klaxonlaw07_small.mono _ _)
      | (with_reducible exact klaxonref07_Get.mono _ _)
      | (with_reducible exact klaxonref07_Put.mono _ _)
      | (with_reducible exact klaxonref07_Same.mono _ _ _)
      | (with_reducible exact LeO.refl _)
      | (with_reducible exact LeO.none _)
      | (with_reducible refine LeO.ite ?_ ?_)
      | (with_reducible refine LeO.bind ?_ (fun _ => ?_))
      | exact ih0 _ _ _ _
      | exact ih1 _ _ _ _ _ _ _ _ _ _ _ _ _ _
      | exact keys_Get.mono _ _
      | exact keys_Put.mono _ _
      | exact keys_Range.mono _ _
      | exact klaxonlaw07_live.mono _
      | exact klaxonlaw07_small.mono _ _
      | exact klaxonref07_Get.mono _ _
      | exact klaxonref07_Put.mono _ _
      | exact klaxonref07_Same.mono _ _ _
      | exact LeO.none _
      | refine LeO.ite ?_ ?_
      | refine LeO.bind ?_ (fun _ => ?_)
    · intro y0 y1 y2 y3 y4 y5 y6 y7 y8 y9 y10 y11 y12 y13
      unfold klaxonlaw07_KeysPuts.j1
      repeat' first
      | (with_reducible exact ih0 _ _ _ _)
      | (with_reducible exact ih1 _ _ _ _ _ _ _ _ _ _ _ _ _ _)
      | (with_reducible exact keys_Get.mono _ _)
      | (with_reducible exact keys_Put.mono _ _)
      | (with_reducible exact keys_Range.mono _ _)
      | (with_reducible exact klaxonlaw07_live.mono _)
      | (with_reducible exact klaxonlaw07_small.mono _ _)
      | (with_reducible exact klaxonref07_Get.mono _ _)
      | (with_reducible exact klaxonref07_Put.mono _ _)
      | (with_reducible exact klaxonref07_Same.mono _ _ _)
      | (with_reducible exact LeO.refl _)
      | (with_reducible exact LeO.none _)
      | (with_reducible refine LeO.ite ?_ ?_)
      | (with_reducible refine LeO.bind ?_ (fun _ => ?_))
      | exact ih0 _ _ _ _
      | exact ih1 _ _ _ _ _ _ _ _ _ _ _ _ _ _
      | exact keys_Get.mono _ _
      | exact keys_Put.mono _ _
      | exact keys_Range.mono _ _
      | exact klaxonlaw07_live.mono _
      | exact klaxonlaw07_small.mono _ _
      | exact klaxonref07_Get.mono _ _
      | exact klaxonref07_Put.mono _ _
      | exact klaxonref07_Same.mono _ _ _
      | exact LeO.none _
      | refine LeO.ite ?_ ?_
      | refine LeO.bind ?_ (fun _ => ?_)
theorem klaxonlaw07_KeysPuts.mono : ∀ a0 a1 a2 k, LeO (klaxonlaw07_KeysPuts.f k a0 a1 a2) (klaxonlaw07_KeysPuts.f (k + 1) a0 a1 a2) := by
  intro a0 a1 a2 k
  obtain ⟨ih0, ih1⟩ := klaxonlaw07_KeysPuts.mono_l k
  unfold klaxonlaw07_KeysPuts.f
  repeat' first
      | (with_reducible exact ih0 _ _ _ _)
      | (with_reducible exact ih1 _ _ _ _ _ _ _ _ _ _ _ _ _ _)
      | (with_reducible exact keys_Get.mono _ _)
      | (with_reducible exact keys_Put.mono _ _)
      | (with_reducible exact keys_Range.mono _ _)
      | (with_reducible exact klaxonlaw07_live.mono _)
      | (with_reducible exact klaxonlaw07_small.mono _ _)
      | (with_reducible exact klaxonref07_Get.mono _ _)
      | (with_reducible exact klaxonref07_Put.mono _ _)
      | (with_reducible exact klaxonref07_Same.mono _ _ _)
      | (with_reducible exact LeO.refl _)
      | (with_reducible exact LeO.none _)
      | (with_reducible refine LeO.ite ?_ ?_)
      | (with_reducible refine LeO.bind ?_ (fun _ => ?_))
      | exact ih0 _ _ _ _
      | exact ih1 _ _ _ _ _ _ _ _ _ _ _ _ _ _
      | exact keys_Get.mono _ _
      | exact keys_Put.mono _ _
      | exact keys_Range.mono _ _
      | exact klaxonlaw07_live.mono _
      | exact klaxonlaw07_small.mono _ _
      | exact klaxonref07_Get.mono _ _
      | exact klaxonref07_Put.mono _ _
      | exact klaxonref07_Same.mono _ _ _
      | exact LeO.none _
      | refine LeO.ite ?_ ?_
      | refine LeO.bind ?_ (fun _ => ?_)
set_option maxHeartbeats 8000000 in
set_option maxRecDepth 100000 in
theorem klaxonlaw07_KeysPuts.calls (k : Nat) (A0 : Option Addr) (c0 : Nat) (l0 : List (S34)) (a1 : ByteArray) (a2 : Int) (r : Bool) (w : World) (hr0 : Kd.C k34 w A0 l0.length l0) (hc0 : l0.length ≤ c0) (h : klaxonlaw07_KeysPuts.f k l0 a1 a2 = some r) :
    Calls Try.prog 5 #[.slice A0 l0.length c0, .string a1, .int .i64 a2] w fun e w' => e = .returned (.bool r) ∧ Below w.heap.size w w' := by
  have hu34 := Try.underlying34
  have HR0 := Aside0.mk hr0
  have HC0 := Aside0.mk hc0
  clear hr0 hc0
  have HB := Aside0.mk (Below.refl w.heap.size w)
  have H : ((klaxonlaw07_small.f k l0).bind fun t287 => (if t287 = true then (klaxonlaw07_KeysPuts.j0 k l0 a1 a2 (decide ((a1.size : Int) > 8000))) else (klaxonlaw07_KeysPuts.j0 k l0 a1 a2 true))) = some r := h
  clear h
  have HC4 := Aside0.mk H
  clear H
  go_enter Try.func5, Try.ntmps5
  go_upto_region 1 with (fail)
  go_cut [26] (fun v26 wc => ∃ (kq : Nat) (x26_3 : Bool), v26 = .bool x26_3 ∧ Aside0 (klaxonlaw07_KeysPuts.j0 kq l0 a1 a2 x26_3 = some r) ∧ Aside0 (kq ≤ k) ∧ Aside0 (Below w.heap.size w wc))
  case first =>
    have H := HC4.out
    clear HC4
    replace H := Option.bind_eq_some_iff.mp H
    obtain ⟨t287, A50, H⟩ := H
    replace H : (if t287 = true then (klaxonlaw07_KeysPuts.j0 k l0 a1 a2 (decide ((a1.size : Int) > 8000))) else (klaxonlaw07_KeysPuts.j0 k l0 a1 a2 true)) = some r := H
    have A5 := Aside0.mk A50
    clear A50
    by_cases c6 : t287 = true
    · subst c6
      have H1 : (klaxonlaw07_KeysPuts.j0 k l0 a1 a2 (decide ((a1.size : Int) > 8000))) = some r := by rw [if_pos rfl] at H; exact H
      clear H
      have H := H1
      clear H1
      have H' := Aside0.mk H
      clear H
      go_wp2_with (first | ((with_reducible refine gate_callee (f := 13) rfl ?_); refine goesL_ (some 20) rfl rfl Try.func13 (by kernel_rfl) rfl #[.slice A0 l0.length c0] rfl (by (try simp only [List.map_toArray, List.map_cons, List.map_nil]); first | done | rfl | (simp only [List.length_drop, List.length_take]; rfl)) ?_; (with_reducible refine (klaxonlaw07_small.calls k _ _ l0 true _ ?side1 ?side2 A5.out).mono ?_); (case side1 => repeat (first | exact (Kd.C_below HR0.out HB.out) | (with_reducible refine Kd.C_alloc ?_ _) | (with_reducible refine Kd.C_drewN ?_ _) | (with_reducible refine Kd.C_drew ?_))); (case side2 => exact HC0.out); rintro e w' ⟨rfl, ⟨nd, rfl⟩⟩; refine ⟨_, rfl, ?_⟩))
      go_meet
      case rel => exact ⟨_, (decide ((a1.size : Int) > 8000)), (by first | rfl | (simp; done) | (simp [*]; done)), H', ⟨by first | omega | exact Nat.le_refl _⟩, ⟨by repeat (first | (with_reducible first | exact HB.out | apply below_alloc | apply pw_below_drewN | apply below_drew1) | exact HB.out)⟩⟩
    · replace c6 := Bool.eq_false_iff.mpr c6
      subst c6
      have H1 : (klaxonlaw07_KeysPuts.j0 k l0 a1 a2 true) = some r := by rw [if_neg (show ¬ (false = true) by decide)] at H; exact H
      clear H
      have H := H1
      clear H1
      have H' := Aside0.mk H
      clear H
      go_wp2_with (first | ((with_reducible refine gate_callee (f := 13) rfl ?_); refine goesL_ (some 20) rfl rfl Try.func13 (by kernel_rfl) rfl #[.slice A0 l0.length c0] rfl (by (try simp only [List.map_toArray, List.map_cons, List.map_nil]); first | done | rfl | (simp only [List.length_drop, List.length_take]; rfl)) ?_; (with_reducible refine (klaxonlaw07_small.calls k _ _ l0 false _ ?side1 ?side2 A5.out).mono ?_); (case side1 => repeat (first | exact (Kd.C_below HR0.out HB.out) | (with_reducible refine Kd.C_alloc ?_ _) | (with_reducible refine Kd.C_drewN ?_ _) | (with_reducible refine Kd.C_drew ?_))); (case side2 => exact HC0.out); rintro e w' ⟨rfl, ⟨nd, rfl⟩⟩; refine ⟨_, rfl, ?_⟩))
      go_meet
      case rel => exact ⟨_, (true), (by first | rfl | (simp; done) | (simp [*]; done)), H', ⟨by first | omega | exact Nat.le_refl _⟩, ⟨by repeat (first | (with_reducible first | exact HB.out | apply below_alloc | apply pw_below_drewN | apply below_drew1) | exact HB.out)⟩⟩
  case rest =>
    clear HC4
    try clear c1
    try clear p2
    try clear c5
    try clear c6
    obtain ⟨kq, x26_3, rfl, HA, HJ3, HB⟩ := hcut
    cases kq with
    | zero => exact absurd HA.out (by simp [klaxonlaw07_KeysPuts.j0])
    | succ kj3 =>
      have H := HA.out
      clear HA
      simp only [klaxonlaw07_KeysPuts.j0] at H
      by_cases c7 : x26_3 = true
      · subst c7
        have H1 : ((klaxonlaw07_live.f kj3).bind fun t288 => (some t288)) = some r := by rw [if_pos rfl] at H; exact H
        clear H
        have H := H1
        clear H1
        replace H := Option.bind_eq_some_iff.mp H
        obtain ⟨t288, A80, H⟩ := H
        replace H : (some t288) = some r := H
        have A8 := Aside0.mk A80
        clear A80
        obtain rfl := Option.some.inj H
        go_wp2_with (first | ((with_reducible refine gate_callee (f := 8) rfl ?_); refine goesL_ (some 27) rfl rfl Try.func8 (by kernel_rfl) rfl #[] rfl (by (try simp only [List.map_toArray, List.map_cons, List.map_nil]); first | done | rfl | (simp only [List.length_drop, List.length_take]; rfl)) ?_; (with_reducible refine (klaxonlaw07_live.calls kj3  t288 _ A8.out).mono ?_); rintro e w9 ⟨rfl, hb⟩; refine ⟨_, rfl, ?_⟩; have n0_ := Aside0.mk (below_step (by repeat (first | (with_reducible first | exact HB.out | apply below_alloc | apply pw_below_drewN | apply below_drew1) | exact HB.out)) hb); clear HB; have HB := n0_; clear n0_; (try clear hb); (try clear hb2); (try clear hk); (try clear hi)))
        go_ret
        exact ⟨by first | rfl | (simp [errW_none, errW_some] <;> rfl) | (simp [*, errW_none, errW_some] <;> rfl), by repeat (first | (with_reducible first | exact HB.out | apply below_alloc | apply pw_below_drewN | apply below_drew1) | exact HB.out)⟩
      · replace c7 := Bool.eq_false_iff.mpr c7
        subst c7
        have H1 : ((some (([] : List (S34)) : List (S34))).bind fun y289 => (if y289.length + l0.length < 4398046511104 then ((keys_Put.f kj3 (y289 ++ l0)).bind fun bt295 => ((klaxonref07_Put.f kj3 l0).bind fun bt297 => ((keys_Get.f kj3 a1).bind fun bt299 => ((klaxonref07_Get.f kj3 a1).bind fun bt303 => ((some (([] : List (S34)) : List (S34))).bind fun y307 => (if y307.length + l0.length < 4398046511104 then ((keys_Range.f kj3 (y307 ++ l0)).bind fun bt313 => (if bt297.2 = 0 then (if bt297.1.size + 1 ≤ 9223372036854775807 then (klaxonlaw07_KeysPuts.j1 kj3 a1 a2 bt295.1 bt295.2 bt297.1 bt297.2 bt299.1 bt299.2 bt303.1 bt303.2 bt313.1 bt313.2.1 bt313.2.2 (bt297.1 ++ (⟨#[255]⟩ : ByteArray))) else (none)) else (klaxonlaw07_KeysPuts.j1 kj3 a1 a2 bt295.1 bt295.2 bt297.1 bt297.2 bt299.1 bt299.2 bt303.1 bt303.2 bt313.1 bt313.2.1 bt313.2.2 bt297.1))) else (none))))))) else (none))) = some r := by rw [if_neg (show ¬ (false = true) by decide)] at H; exact H
        clear H
        have H := H1
        clear H1
        obtain ⟨y289, hy289⟩ : ∃ y_ : List (S34), y_ = (([] : List (S34))) := ⟨_, rfl⟩
        replace H : (if y289.length + l0.length < 4398046511104 then ((keys_Put.f kj3 (y289 ++ l0)).bind fun bt295 => ((klaxonref07_Put.f kj3 l0).bind fun bt297 => ((keys_Get.f kj3 a1).bind fun bt299 => ((klaxonref07_Get.f kj3 a1).bind fun bt303 => ((some (([] : List (S34)) : List (S34))).bind fun y307 => (if y307.length + l0.length < 4398046511104 then ((keys_Range.f kj3 (y307 ++ l0)).bind fun bt313 => (if bt297.2 = 0 then (if bt297.1.size + 1 ≤ 9223372036854775807 then (klaxonlaw07_KeysPuts.j1 kj3 a1 a2 bt295.1 bt295.2 bt297.1 bt297.2 bt299.1 bt299.2 bt303.1 bt303.2 bt313.1 bt313.2.1 bt313.2.2 (bt297.1 ++ (⟨#[255]⟩ : ByteArray))) else (none)) else (klaxonlaw07_KeysPuts.j1 kj3 a1 a2 bt295.1 bt295.2 bt297.1 bt297.2 bt299.1 bt299.2 bt303.1 bt303.2 bt313.1 bt313.2.1 bt313.2.2 bt297.1))) else (none))))))) else (none)) = some r := by first | (rw [hy289]; with_reducible exact H) | (have H2_ := (Option.bind_some _ _).symm.trans H; rw [hy289]; with_reducible exact H2_) | (have H2_ := (Option.bind_some _ _).symm.trans H; with_reducible exact H2_) | with_reducible exact H | (rw [hy289]; exact H) | exact H
        have Ny289 := Aside0.mk hy289
        clear hy289
        by_cases c10 : y289.length + l0.length < 4398046511104
        · rw [if_pos c10] at H
          have LMc10 := Aside0.mk c10
          clear c10
          obtain ⟨y292, hy292⟩ : ∃ y_ : List (S34), y_ = (y289 ++ l0) := ⟨_, rfl⟩
          replace H : ((keys_Put.f kj3 y292).bind fun bt295 => ((klaxonref07_Put.f kj3 l0).bind fun bt297 => ((keys_Get.f kj3 a1).bind fun bt299 => ((klaxonref07_Get.f kj3 a1).bind fun bt303 => ((some (([] : List (S34)) : List (S34))).bind fun y307 => (if y307.length + l0.length < 4398046511104 then ((keys_Range.f kj3 (y307 ++ l0)).bind fun bt313 => (if bt297.2 = 0 then (if bt297.1.size + 1 ≤ 9223372036854775807 then (klaxonlaw07_KeysPuts.j1 kj3 a1 a2 bt295.1 bt295.2 bt297.1 bt297.2 bt299.1 bt299.2 bt303.1 bt303.2 bt313.1 bt313.2.1 bt313.2.2 (bt297.1 ++ (⟨#[255]⟩ : ByteArray))) else (none)) else (klaxonlaw07_KeysPuts.j1 kj3 a1 a2 bt295.1 bt295.2 bt297.1 bt297.2 bt299.1 bt299.2 bt303.1 bt303.2 bt313.1 bt313.2.1 bt313.2.2 bt297.1))) else (none))))))) = some r := by first | (rw [hy292]; with_reducible exact H) | (have H2_ := (Option.bind_some _ _).symm.trans H; rw [hy292]; with_reducible exact H2_) | (have H2_ := (Option.bind_some _ _).symm.trans H; with_reducible exact H2_) | with_reducible exact H | (rw [hy292]; exact H) | exact H
          have Ny292 := Aside0.mk hy292
          clear hy292
          replace H := Option.bind_eq_some_iff.mp H
          obtain ⟨⟨t295, t296⟩, A110, H⟩ := H
          replace H : ((klaxonref07_Put.f kj3 l0).bind fun bt297 => ((keys_Get.f kj3 a1).bind fun bt299 => ((klaxonref07_Get.f kj3 a1).bind fun bt303 => ((some (([] : List (S34)) : List (S34))).bind fun y307 => (if y307.length + l0.length < 4398046511104 then ((keys_Range.f kj3 (y307 ++ l0)).bind fun bt313 => (if bt297.2 = 0 then (if bt297.1.size + 1 ≤ 9223372036854775807 then (klaxonlaw07_KeysPuts.j1 kj3 a1 a2 t295 t296 bt297.1 bt297.2 bt299.1 bt299.2 bt303.1 bt303.2 bt313.1 bt313.2.1 bt313.2.2 (bt297.1 ++ (⟨#[255]⟩ : ByteArray))) else (none)) else (klaxonlaw07_KeysPuts.j1 kj3 a1 a2 t295 t296 bt297.1 bt297.2 bt299.1 bt299.2 bt303.1 bt303.2 bt313.1 bt313.2.1 bt313.2.2 bt297.1))) else (none)))))) = some r := H
          have A11 := Aside0.mk A110
          clear A110
          replace H := Option.bind_eq_some_iff.mp H
          obtain ⟨⟨t297, t298⟩, A120, H⟩ := H
          replace H : ((keys_Get.f kj3 a1).bind fun bt299 => ((klaxonref07_Get.f kj3 a1).bind fun bt303 => ((some (([] : List (S34)) : List (S34))).bind fun y307 => (if y307.length + l0.length < 4398046511104 then ((keys_Range.f kj3 (y307 ++ l0)).bind fun bt313 => (if t298 = 0 then (if t297.size + 1 ≤ 9223372036854775807 then (klaxonlaw07_KeysPuts.j1 kj3 a1 a2 t295 t296 t297 t298 bt299.1 bt299.2 bt303.1 bt303.2 bt313.1 bt313.2.1 bt313.2.2 (t297 ++ (⟨#[255]⟩ : ByteArray))) else (none)) else (klaxonlaw07_KeysPuts.j1 kj3 a1 a2 t295 t296 t297 t298 bt299.1 bt299.2 bt303.1 bt303.2 bt313.1 bt313.2.1 bt313.2.2 t297))) else (none))))) = some r := H
          have A12 := Aside0.mk A120
          clear A120
          replace H := Option.bind_eq_some_iff.mp H
          obtain ⟨⟨t299, t300⟩, A130, H⟩ := H
          replace H : ((klaxonref07_Get.f kj3 a1).bind fun bt303 => ((some (([] : List (S34)) : List (S34))).bind fun y307 => (if y307.length + l0.length < 4398046511104 then ((keys_Range.f kj3 (y307 ++ l0)).bind fun bt313 => (if t298 = 0 then (if t297.size + 1 ≤ 9223372036854775807 then (klaxonlaw07_KeysPuts.j1 kj3 a1 a2 t295 t296 t297 t298 t299 t300 bt303.1 bt303.2 bt313.1 bt313.2.1 bt313.2.2 (t297 ++ (⟨#[255]⟩ : ByteArray))) else (none)) else (klaxonlaw07_KeysPuts.j1 kj3 a1 a2 t295 t296 t297 t298 t299 t300 bt303.1 bt303.2 bt313.1 bt313.2.1 bt313.2.2 t297))) else (none)))) = some r := H
          have A13 := Aside0.mk A130
          clear A130
          replace H := Option.bind_eq_some_iff.mp H
          obtain ⟨⟨t303, t304⟩, A140, H⟩ := H
          replace H : ((some (([] : List (S34)) : List (S34))).bind fun y307 => (if y307.length + l0.length < 4398046511104 then ((keys_Range.f kj3 (y307 ++ l0)).bind fun bt313 => (if t298 = 0 then (if t297.size + 1 ≤ 9223372036854775807 then (klaxonlaw07_KeysPuts.j1 kj3 a1 a2 t295 t296 t297 t298 t299 t300 t303 t304 bt313.1 bt313.2.1 bt313.2.2 (t297 ++ (⟨#[255]⟩ : ByteArray))) else (none)) else (klaxonlaw07_KeysPuts.j1 kj3 a1 a2 t295 t296 t297 t298 t299 t300 t303 t304 bt313.1 bt313.2.1 bt313.2.2 t297))) else (none))) = some r := H
          have A14 := Aside0.mk A140
          clear A140
          obtain ⟨y307, hy307⟩ : ∃ y_ : List (S34), y_ = (([] : List (S34))) := ⟨_, rfl⟩
          replace H : (if y307.length + l0.length < 4398046511104 then ((keys_Range.f kj3 (y307 ++ l0)).bind fun bt313 => (if t298 = 0 then (if t297.size + 1 ≤ 9223372036854775807 then (klaxonlaw07_KeysPuts.j1 kj3 a1 a2 t295 t296 t297 t298 t299 t300 t303 t304 bt313.1 bt313.2.1 bt313.2.2 (t297 ++ (⟨#[255]⟩ : ByteArray))) else (none)) else (klaxonlaw07_KeysPuts.j1 kj3 a1 a2 t295 t296 t297 t298 t299 t300 t303 t304 bt313.1 bt313.2.1 bt313.2.2 t297))) else (none)) = some r := by first | (rw [hy307]; with_reducible exact H) | (have H2_ := (Option.bind_some _ _).symm.trans H; rw [hy307]; with_reducible exact H2_) | (have H2_ := (Option.bind_some _ _).symm.trans H; with_reducible exact H2_) | with_reducible exact H | (rw [hy307]; exact H) | exact H
          have Ny307 := Aside0.mk hy307
          clear hy307
          by_cases c15 : y307.length + l0.length < 4398046511104
          · rw [if_pos c15] at H
            have LMc15 := Aside0.mk c15
            clear c15
            obtain ⟨y310, hy310⟩ : ∃ y_ : List (S34), y_ = (y307 ++ l0) := ⟨_, rfl⟩
            replace H : ((keys_Range.f kj3 y310).bind fun bt313 => (if t298 = 0 then (if t297.size + 1 ≤ 9223372036854775807 then (klaxonlaw07_KeysPuts.j1 kj3 a1 a2 t295 t296 t297 t298 t299 t300 t303 t304 bt313.1 bt313.2.1 bt313.2.2 (t297 ++ (⟨#[255]⟩ : ByteArray))) else (none)) else (klaxonlaw07_KeysPuts.j1 kj3 a1 a2 t295 t296 t297 t298 t299 t300 t303 t304 bt313.1 bt313.2.1 bt313.2.2 t297))) = some r := by first | (rw [hy310]; with_reducible exact H) | (have H2_ := (Option.bind_some _ _).symm.trans H; rw [hy310]; with_reducible exact H2_) | (have H2_ := (Option.bind_some _ _).symm.trans H; with_reducible exact H2_) | with_reducible exact H | (rw [hy310]; exact H) | exact H
            have Ny310 := Aside0.mk hy310
            clear hy310
            replace H := Option.bind_eq_some_iff.mp H
            obtain ⟨⟨t313, t314, t315⟩, A160, H⟩ := H
            replace H : (if t298 = 0 then (if t297.size + 1 ≤ 9223372036854775807 then (klaxonlaw07_KeysPuts.j1 kj3 a1 a2 t295 t296 t297 t298 t299 t300 t303 t304 t313 t314 t315 (t297 ++ (⟨#[255]⟩ : ByteArray))) else (none)) else (klaxonlaw07_KeysPuts.j1 kj3 a1 a2 t295 t296 t297 t298 t299 t300 t303 t304 t313 t314 t315 t297)) = some r := H
            have A16 := Aside0.mk A160
            clear A160
            have HC17 := Aside0.mk H
            clear H
            go_upto_if 60 with (first | ((with_reducible refine gate_dst (N := 29) rfl ?_); (try (refine gate_guard (by rfl) ?_; dsimp only)); refine Kd.R_lit k34 _ 34 ?hg (N := 29) ?hd (xs := ([] : List (S34))) (inner := []) (ok := fun _ => True) (okp := fun _ => True) ?hr ?hp (fun _ hk => hk) trivial (Below.refl _ _) (Nat.le_refl _) (by simp) ?_; (case hd => rfl); (case hg => rfl); (case hr => first | (go_simp; done) | (go_simp; rfl)); (case hp => exact (Reps.none _ _)); intro v290 w18 ho19 hb hg_ hnew_; clear hg_ hnew_; (first | rw [← Ny289.out] at ho19 | (simp only [Int.reduceToNat] at ho19; rw [← Ny289.out] at ho19)); have n0_ := Aside0.mk (Kd.R_lower ho19 (below_size (by repeat (first | (with_reducible first | exact HB.out | apply below_alloc | apply pw_below_drewN | apply below_drew1) | exact HB.out)))); have n1_ := Aside0.mk (below_step (by repeat (first | (with_reducible first | exact HB.out | apply below_alloc | apply pw_below_drewN | apply below_drew1) | exact HB.out)) hb); clear HB; have HO291 := n0_; have HB := n1_; clear n0_ n1_; clear hb ho19) | ((with_reducible refine gate_builtin (b := .append) (xs := #[.tmp 29, .tmp 30]) rfl ?_); (try (refine gate_guard (by rfl) ?_; dsimp only)); at_builtin; refine Kd.R_append_rows k34 (w0 := w) w.heap.size rfl (.tmp 29) (.tmp 30) 23 34 (.agg #[(.int .i64 0), (.int .i64 0), (.string ⟨#[]⟩)]) 32 rfl Try.underlying23 info34 rfl (by decide) (by omega) v290 y289 l0 _ _ _ (fun _ => True) (fun _ => False) rfl rfl ?aO ?aR (fun _ _ h => h) (fun _ h => h.elim) ?aF ?aB ?aS ?aL ?_; (case aR => repeat (first | exact (Kd.C_below HR0.out HB.out) | (with_reducible refine Kd.C_alloc ?_ _) | (with_reducible refine Kd.C_drewN ?_ _) | (with_reducible refine Kd.C_drew ?_))); (case aB => exact (by repeat (first | (with_reducible first | exact HB.out | apply below_alloc | apply pw_below_drewN | apply below_drew1) | exact HB.out))); (case aF => exact (fun _ _ => trivial)); (case aO => exact (by (with_reducible repeat (first | apply Kd.R_alloc | apply Kd.R_drewN | apply Kd.R_drew)); exact HO291.out)); (case aS => exact (below_size (by repeat (first | (with_reducible first | exact HB.out | apply below_alloc | apply pw_below_drewN | apply below_drew1) | exact HB.out)))); (case aL => have := LMc10.out; omega); intro v293 w20 ho hb hg hat; rw [← Ny292.out] at ho; have n0_ := Aside0.mk (hb); have n1_ := Aside0.mk (ho); clear HB; clear HO291; have HB := n0_; have HO294 := n1_; clear n0_ n1_; clear ho hb hg hat; obtain ⟨Ao21, co21, eo21⟩ := Kd.R_slice HO294.out; subst eo21) | ((with_reducible refine gate_callee (f := 11) rfl ?_); refine goesL_ (some 32) rfl rfl Try.func11 (by kernel_rfl) rfl #[.slice Ao21 y292.length co21] rfl (by (try simp only [List.map_toArray, List.map_cons, List.map_nil]); first | done | rfl | (simp only [List.length_drop, List.length_take]; rfl)) ?_; (with_reducible refine (keys_Put.calls kj3 _ _ y292 t295 t296 _ ?side1 ?side2 A11.out).mono ?_); (case side1 => repeat (first | exact (Kd.R_reads' HO294.out).2.2 | (with_reducible refine Kd.C_alloc ?_ _) | (with_reducible refine Kd.C_drewN ?_ _) | (with_reducible refine Kd.C_drew ?_))); (case side2 => exact (Kd.R_reads' HO294.out).2.1); rintro e w22 ⟨rfl, hb⟩; refine ⟨_, rfl, ?_⟩; have n0_ := Aside0.mk (Kd.R_below (by (with_reducible repeat (first | apply Kd.R_alloc | apply Kd.R_drewN | apply Kd.R_drew)); exact HO294.out) hb); have n1_ := Aside0.mk (below_step (by repeat (first | (with_reducible first | exact HB.out | apply below_alloc | apply pw_below_drewN | apply below_drew1) | exact HB.out)) hb); clear HO294; clear HB; have HO294 := n0_; have HB := n1_; clear n0_ n1_; (try clear hb); (try clear hb2); (try clear hk); (try clear hi)) | ((with_reducible refine gate_callee (f := 16) rfl ?_); refine goesL_ (some 37) rfl rfl Try.func16 (by kernel_rfl) rfl #[.slice A0 l0.length c0] rfl (by (try simp only [List.map_toArray, List.map_cons, List.map_nil]); first | done | rfl | (simp only [List.length_drop, List.length_take]; rfl)) ?_; (with_reducible refine (klaxonref07_Put.calls kj3 _ _ l0 t297 t298 _ ?side1 ?side2 A12.out).mono ?_); (case side1 => repeat (first | exact (Kd.C_below HR0.out HB.out) | (with_reducible refine Kd.C_alloc ?_ _) | (with_reducible refine Kd.C_drewN ?_ _) | (with_reducible refine Kd.C_drew ?_))); (case side2 => exact HC0.out); rintro e w23 ⟨rfl, hb⟩; refine ⟨_, rfl, ?_⟩; have n0_ := Aside0.mk (Kd.R_below (by (with_reducible repeat (first | apply Kd.R_alloc | apply Kd.R_drewN | apply Kd.R_drew)); exact HO294.out) hb); have n1_ := Aside0.mk (below_step (by repeat (first | (with_reducible first | exact HB.out | apply below_alloc | apply pw_below_drewN | apply below_drew1) | exact HB.out)) hb); clear HO294; clear HB; have HO294 := n0_; have HB := n1_; clear n0_ n1_; (try clear hb); (try clear hb2); (try clear hk); (try clear hi)) | ((with_reducible refine gate_callee (f := 9) rfl ?_); refine goesL_ (some 42) rfl rfl Try.func9 (by kernel_rfl) rfl #[.string a1] rfl (by (try simp only [List.map_toArray, List.map_cons, List.map_nil]); first | done | rfl | (simp only [List.length_drop, List.length_take]; rfl)) ?_; (with_reducible refine (keys_Get.calls kj3 a1 t299 t300 _ A13.out).mono ?_); rintro e w24 ⟨v301, rfl, ho0, hb⟩; refine ⟨_, rfl, ?_⟩; have n0_ := Aside0.mk (Kd.R_elder' (by (with_reducible repeat (first | apply Kd.R_alloc | apply Kd.R_drewN | apply Kd.R_drew)); exact HO294.out) (Kd.R_base ho0) hb); have n1_ := Aside0.mk (Kd.R_lower (Kd.R_new' ho0 (Kd.R_lt (by (with_reducible repeat (first | apply Kd.R_alloc | apply Kd.R_drewN | apply Kd.R_drew)); exact HO294.out))) (below_size (by repeat (first | (with_reducible first | exact HB.out | apply below_alloc | apply pw_below_drewN | apply below_drew1) | exact HB.out)))); have n2_ := Aside0.mk (below_step (by repeat (first | (with_reducible first | exact HB.out | apply below_alloc | apply pw_below_drewN | apply below_drew1) | exact HB.out)) hb); clear HO294; clear HB; have HO294 := n0_; have HO302 := n1_; have HB := n2_; clear n0_ n1_ n2_; (try clear hb); (try clear hb2); (try clear hk); (try clear hi); (try clear ho0)) | ((with_reducible refine gate_callee (f := 17) rfl ?_); refine goesL_ (some 47) rfl rfl Try.func17 (by kernel_rfl) rfl #[.string a1] rfl (by (try simp only [List.map_toArray, List.map_cons, List.map_nil]); first | done | rfl | (simp only [List.length_drop, List.length_take]; rfl)) ?_; (with_reducible refine (klaxonref07_Get.calls kj3 a1 t303 t304 _ A14.out).mono ?_); rintro e w25 ⟨v305, rfl, ho0, hb⟩; refine ⟨_, rfl, ?_⟩; have n0_ := Aside0.mk (Kd.R_elder' (by (with_reducible repeat (first | apply Kd.R_alloc | apply Kd.R_drewN | apply Kd.R_drew)); exact HO294.out) (Kd.R_base ho0) hb); have n1_ := Aside0.mk (Kd.R_elder' (by (with_reducible repeat (first | apply Kd.R_alloc | apply Kd.R_drewN | apply Kd.R_drew)); exact HO302.out) (Kd.R_base ho0) hb); have n2_ := Aside0.mk (Kd.R_lower (Kd.R_new' (Kd.R_new' ho0 (Kd.R_lt (by (with_reducible repeat (first | apply Kd.R_alloc | apply Kd.R_drewN | apply Kd.R_drew)); exact HO294.out))) (Kd.R_lt (by (with_reducible repeat (first | apply Kd.R_alloc | apply Kd.R_drewN | apply Kd.R_drew)); exact HO302.out))) (below_size (by repeat (first | (with_reducible first | exact HB.out | apply below_alloc | apply pw_below_drewN | apply below_drew1) | exact HB.out)))); have n3_ := Aside0.mk (below_step (by repeat (first | (with_reducible first | exact HB.out | apply below_alloc | apply pw_below_drewN | apply below_drew1) | exact HB.out)) hb); clear HO294; clear HO302; clear HB; have HO294 := n0_; have HO302 := n1_; have HO306 := n2_; have HB := n3_; clear n0_ n1_ n2_ n3_; (try clear hb); (try clear hb2); (try clear hk); (try clear hi); (try clear ho0)) | ((with_reducible refine gate_dst (N := 51) rfl ?_); (try (refine gate_guard (by rfl) ?_; dsimp only)); refine Kd.R_lit k34 _ 34 ?hg (N := 51) ?hd (xs := ([] : List (S34))) (inner := []) (ok := fun _ => True) (okp := fun _ => True) ?hr ?hp (fun _ hk => hk) trivial (Below.refl _ _) (Nat.le_refl _) (by simp) ?_; (case hd => rfl); (case hg => rfl); (case hr => first | (go_simp; done) | (go_simp; rfl)); (case hp => exact (Reps.none _ _)); intro v308 w26 ho27 hb hg_ hnew_; clear hg_ hnew_; (first | rw [← Ny307.out] at ho27 | (simp only [Int.reduceToNat] at ho27; rw [← Ny307.out] at ho27)); have n0_ := Aside0.mk (Kd.R_elder' (by (with_reducible repeat (first | apply Kd.R_alloc | apply Kd.R_drewN | apply Kd.R_drew)); exact HO294.out) (Kd.R_base ho27) hb); have n1_ := Aside0.mk (Kd.R_elder' (by (with_reducible repeat (first | apply Kd.R_alloc | apply Kd.R_drewN | apply Kd.R_drew)); exact HO302.out) (Kd.R_base ho27) hb); have n2_ := Aside0.mk (Kd.R_elder' (by (with_reducible repeat (first | apply Kd.R_alloc | apply Kd.R_drewN | apply Kd.R_drew)); exact HO306.out) (Kd.R_base ho27) hb); have n3_ := Aside0.mk (Kd.R_lower (Kd.R_new' (Kd.R_new' (Kd.R_new' ho27 (Kd.R_lt (by (with_reducible repeat (first | apply Kd.R_alloc | apply Kd.R_drewN | apply Kd.R_drew)); exact HO294.out))) (Kd.R_lt (by (with_reducible repeat (first | apply Kd.R_alloc | apply Kd.R_drewN | apply Kd.R_drew)); exact HO302.out))) (Kd.R_lt (by (with_reducible repeat (first | apply Kd.R_alloc | apply Kd.R_drewN | apply Kd.R_drew)); exact HO306.out))) (below_size (by repeat (first | (with_reducible first | exact HB.out | apply below_alloc | apply pw_below_drewN | apply below_drew1) | exact HB.out)))); have n4_ := Aside0.mk (below_step (by repeat (first | (with_reducible first | exact HB.out | apply below_alloc | apply pw_below_drewN | apply below_drew1) | exact HB.out)) hb); clear HO294; clear HO302; clear HO306; clear HB; have HO294 := n0_; have HO302 := n1_; have HO306 := n2_; have HO309 := n3_; have HB := n4_; clear n0_ n1_ n2_ n3_ n4_; clear hb ho27) | ((with_reducible refine gate_builtin (b := .append) (xs := #[.tmp 51, .tmp 52]) rfl ?_); (try (refine gate_guard (by rfl) ?_; dsimp only)); at_builtin; refine Kd.R_append_rows k34 (w0 := w) w.heap.size rfl (.tmp 51) (.tmp 52) 23 34 (.agg #[(.int .i64 0), (.int .i64 0), (.string ⟨#[]⟩)]) 32 rfl Try.underlying23 info34 rfl (by decide) (by omega) v308 y307 l0 _ _ _ (fun k_ => some k_ ≠ (.slice Ao21 y292.length co21 : Value).ownBlock ∧ some k_ ≠ (v301 : Value).ownBlock ∧ some k_ ≠ (v305 : Value).ownBlock) (fun _ => False) rfl rfl ?aO ?aR (fun _ _ h => h) (fun _ h => h.elim) ?aF ?aB ?aS ?aL ?_; (case aR => repeat (first | exact (Kd.C_below HR0.out HB.out) | (with_reducible refine Kd.C_alloc ?_ _) | (with_reducible refine Kd.C_drewN ?_ _) | (with_reducible refine Kd.C_drew ?_))); (case aB => exact (by repeat (first | (with_reducible first | exact HB.out | apply below_alloc | apply pw_below_drewN | apply below_drew1) | exact HB.out))); (case aF => exact (fun k_ hk => ⟨Kd.fresh' (Kd.R_lt (by (with_reducible repeat (first | apply Kd.R_alloc | apply Kd.R_drewN | apply Kd.R_drew)); exact HO294.out)) k_ hk, Kd.fresh' (Kd.R_lt (by (with_reducible repeat (first | apply Kd.R_alloc | apply Kd.R_drewN | apply Kd.R_drew)); exact HO302.out)) k_ hk, Kd.fresh' (Kd.R_lt (by (with_reducible repeat (first | apply Kd.R_alloc | apply Kd.R_drewN | apply Kd.R_drew)); exact HO306.out)) k_ hk⟩)); (case aO => exact (by (with_reducible repeat (first | apply Kd.R_alloc | apply Kd.R_drewN | apply Kd.R_drew)); exact Kd.R_mono HO309.out (fun _ hk => ⟨hk.1.1.2, ⟨hk.1.2, hk.2⟩⟩))); (case aS => exact (below_size (by repeat (first | (with_reducible first | exact HB.out | apply below_alloc | apply pw_below_drewN | apply below_drew1) | exact HB.out)))); (case aL => have := LMc15.out; omega); intro v311 w28 ho hb hg hat; rw [← Ny310.out] at ho; have n0_ := Aside0.mk (Kd.R_after (ok := (fun k_ => some k_ ≠ (v301 : Value).ownBlock ∧ some k_ ≠ (v305 : Value).ownBlock)) (by (with_reducible repeat (first | apply Kd.R_alloc | apply Kd.R_drewN | apply Kd.R_drew)); exact Kd.R_mono HO294.out (fun _ hk => ⟨⟨hk.1.1.2, hk.1.2⟩, hk.2⟩)) hg hat); have n1_ := Aside0.mk (Kd.R_after (ok := (fun k_ => some k_ ≠ (.slice Ao21 y292.length co21 : Value).ownBlock ∧ some k_ ≠ (v305 : Value).ownBlock)) (by (with_reducible repeat (first | apply Kd.R_alloc | apply Kd.R_drewN | apply Kd.R_drew)); exact Kd.R_mono HO302.out (fun _ hk => ⟨⟨hk.1.1.2, hk.1.2⟩, hk.2⟩)) hg hat); have n2_ := Aside0.mk (Kd.R_after (ok := (fun k_ => some k_ ≠ (.slice Ao21 y292.length co21 : Value).ownBlock ∧ some k_ ≠ (v301 : Value).ownBlock)) (by (with_reducible repeat (first | apply Kd.R_alloc | apply Kd.R_drewN | apply Kd.R_drew)); exact Kd.R_mono HO306.out (fun _ hk => ⟨⟨hk.1.1.2, hk.1.2⟩, hk.2⟩)) hg hat); have n3_ := Aside0.mk (hb); have n4_ := Aside0.mk (ho); clear HO294; clear HO302; clear HO306; clear HB; clear HO309; have HO294 := n0_; have HO302 := n1_; have HO306 := n2_; have HB := n3_; have HO312 := n4_; clear n0_ n1_ n2_ n3_ n4_; clear ho hb hg hat; obtain ⟨Ao29, co29, eo29⟩ := Kd.R_slice HO312.out; subst eo29) | ((with_reducible refine gate_callee (f := 18) rfl ?_); refine goesL_ (some 54) rfl rfl Try.func18 (by kernel_rfl) rfl #[.slice Ao29 y310.length co29] rfl (by (try simp only [List.map_toArray, List.map_cons, List.map_nil]); first | done | rfl | (simp only [List.length_drop, List.length_take]; rfl)) ?_; (with_reducible refine (keys_Range.calls kj3 _ _ y310 t313 t314 t315 _ ?side1 ?side2 A16.out).mono ?_); (case side1 => repeat (first | exact (Kd.R_reads' HO312.out).2.2 | (with_reducible refine Kd.C_alloc ?_ _) | (with_reducible refine Kd.C_drewN ?_ _) | (with_reducible refine Kd.C_drew ?_))); (case side2 => exact (Kd.R_reads' HO312.out).2.1); rintro e w30 ⟨rfl, hb⟩; refine ⟨_, rfl, ?_⟩; have n0_ := Aside0.mk (Kd.R_below (by (with_reducible repeat (first | apply Kd.R_alloc | apply Kd.R_drewN | apply Kd.R_drew)); exact HO294.out) hb); have n1_ := Aside0.mk (Kd.R_below (by (with_reducible repeat (first | apply Kd.R_alloc | apply Kd.R_drewN | apply Kd.R_drew)); exact HO302.out) hb); have n2_ := Aside0.mk (Kd.R_below (by (with_reducible repeat (first | apply Kd.R_alloc | apply Kd.R_drewN | apply Kd.R_drew)); exact HO306.out) hb); have n3_ := Aside0.mk (Kd.R_below (by (with_reducible repeat (first | apply Kd.R_alloc | apply Kd.R_drewN | apply Kd.R_drew)); exact HO312.out) hb); have n4_ := Aside0.mk (below_step (by repeat (first | (with_reducible first | exact HB.out | apply below_alloc | apply pw_below_drewN | apply below_drew1) | exact HB.out)) hb); clear HO294; clear HO302; clear HO306; clear HO312; clear HB; have HO294 := n0_; have HO302 := n1_; have HO306 := n2_; have HO312 := n3_; have HB := n4_; clear n0_ n1_ n2_ n3_ n4_; (try clear hb); (try clear hb2); (try clear hk); (try clear hi)))
            (try simp only [Act.put, List.setIfInBounds_toArray, List.set_cons_zero, List.set_cons_succ])
            go_cut [18] (fun v18 wc => ∃ (kq : Nat) (x18_16 : ByteArray), v18 = .string x18_16 ∧ Aside0 (klaxonlaw07_KeysPuts.j1 kq a1 a2 t295 t296 t297 t298 t299 t300 t303 t304 t313 t314 t315 x18_16 = some r) ∧ Aside0 (kq ≤ kj3) ∧ Aside0 (Kd.R k34 34 wc w.heap.size (fun k_ => some k_ ≠ (v305 : Value).ownBlock) v301 t299) ∧ Aside0 (Kd.R k34 34 wc w.heap.size (fun k_ => some k_ ≠ (v301 : Value).ownBlock) v305 t303) ∧ Aside0 (Below w.heap.size w wc))
            case first =>
              have H := HC17.out
              clear HC17
              by_cases c31 : t298 = 0
              · rw [if_pos c31] at H
                have c31b0 : (t298 == 0) = true := beq_iff_eq.mpr c31
                have c31b1 : (t298 != 0) = false := bne_eq_false_iff_eq.mpr c31
                clear c31
                (first | rw [c31b0] | (simp only [i64_w, i32_w]; rw [c31b0]) | skip)
                by_cases c32 : t297.size + 1 ≤ 9223372036854775807
                · rw [if_pos c32] at H
                  have c32b0 := eq_true c32
                  have c32b1 : decide (t297.size + 1 ≤ 9223372036854775807) = true := decide_eq_true c32
                  try have c32b2 : (9223372036854775807 < t297.size + 1) = False := eq_false (Nat.not_lt.2 c32)
                  have H' := Aside0.mk H
                  clear H
                  go_wp2
                  go_meet
                  case rel => exact ⟨_, (t297 ++ (⟨#[255]⟩ : ByteArray)), (by first | rfl | (simp; done) | (simp [*]; done)), H', ⟨by have := HJ3.out; first | omega | exact Nat.le_refl _⟩, ⟨by (with_reducible repeat (first | apply Kd.R_alloc | apply Kd.R_drewN | apply Kd.R_drew)); exact Kd.R_mono HO302.out (fun _ hk => hk.1.2)⟩, ⟨by (with_reducible repeat (first | apply Kd.R_alloc | apply Kd.R_drewN | apply Kd.R_drew)); exact Kd.R_mono HO306.out (fun _ hk => hk.1.2)⟩, ⟨by repeat (first | (with_reducible first | exact HB.out | apply below_alloc | apply pw_below_drewN | apply below_drew1) | exact HB.out)⟩⟩
                · rw [if_neg c32] at H
                  exact absurd H (by simp)
              · rw [if_neg c31] at H
                have c31b0 : (t298 == 0) = false := beq_eq_false_iff_ne.mpr c31
                have c31b1 : (t298 != 0) = true := bne_iff_ne.mpr c31
                (first | rw [c31b0] | (simp only [i64_w, i32_w]; rw [c31b0]) | skip)
                have H' := Aside0.mk H
                clear H
                go_wp2
                go_meet
                case rel => exact ⟨_, (t297), (by first | rfl | (simp; done) | (simp [*]; done)), H', ⟨by have := HJ3.out; first | omega | exact Nat.le_refl _⟩, ⟨by (with_reducible repeat (first | apply Kd.R_alloc | apply Kd.R_drewN | apply Kd.R_drew)); exact Kd.R_mono HO302.out (fun _ hk => hk.1.2)⟩, ⟨by (with_reducible repeat (first | apply Kd.R_alloc | apply Kd.R_drewN | apply Kd.R_drew)); exact Kd.R_mono HO306.out (fun _ hk => hk.1.2)⟩, ⟨by repeat (first | (with_reducible first | exact HB.out | apply below_alloc | apply pw_below_drewN | apply below_drew1) | exact HB.out)⟩⟩
            case rest =>
              clear HC17
              try clear c1
              try clear p2
              try clear c3
              try clear c5
              try clear c6
              try clear c7
              try clear c8
              try clear c9
              try clear c10
              try clear c11
              try clear c13
              try clear c15
              try clear c16
              try clear c17
              try clear c18
              try clear c31
              try clear c31b0
              try clear c31b1
              try clear c32
              try clear c32b0
              try clear c32b1
              try clear c32b2
              try clear p2
              obtain ⟨kq, x18_16, rfl, HA, HJ16, HO_11, HO_13, HB⟩ := hcut
              cases kq with
              | zero => exact absurd HA.out (by simp [klaxonlaw07_KeysPuts.j1])
              | succ kj16 =>
                have H := HA.out
                clear HA
                simp only [klaxonlaw07_KeysPuts.j1] at H
                by_cases c33 : t295.toList = t297.toList
                · rw [if_pos c33] at H
                  have c33b0 : (t295.toList == t297.toList) = true := beq_iff_eq.mpr c33
                  have c33b1 : (t295.toList != t297.toList) = false := bne_eq_false_iff_eq.mpr c33
                  clear c33
                  replace H := Option.bind_eq_some_iff.mp H
                  obtain ⟨t316, A340, H⟩ := H
                  replace H : (if t316 = t298 then ((klaxonref07_Same.f kj16 t299 t303).bind fun t317 => (if t317 = true then ((klaxonlaw07_num.f t300).bind fun t318 => (if t318 = t304 then (if t313.toList = t297.toList then (if t314.toList = x18_16.toList then ((klaxonlaw07_num.f t315).bind fun t319 => (if t319 = t298 then ((keys_Int.f a2).bind fun bt320 => (if (bt320.1 == 1 && (bt320.2.1 == a2 && (bt320.2.2.toList == ([] : List UInt8)))) = true then ((keys_Text.f a1).bind fun bt323 => (if (bt323.1 == 2 && (bt323.2.1 == 0 && (bt323.2.2.toList == a1.toList))) = true then ((klaxonlaw07_live.f kj16).bind fun t326 => (some t326)) else (some false))) else (some false))) else (some false))) else (some false)) else (some false)) else (some false))) else (some false))) else (some false)) = some r := H
                  have A34 := Aside0.mk A340
                  clear A340
                  by_cases c35 : t316 = t298
                  · rw [if_pos c35] at H
                    have c35b0 : (t316 == t298) = true := beq_iff_eq.mpr c35
                    have c35b1 : (t316 != t298) = false := bne_eq_false_iff_eq.mpr c35
                    clear c35
                    replace H := Option.bind_eq_some_iff.mp H
                    obtain ⟨t317, A360, H⟩ := H
                    replace H : (if t317 = true then ((klaxonlaw07_num.f t300).bind fun t318 => (if t318 = t304 then (if t313.toList = t297.toList then (if t314.toList = x18_16.toList then ((klaxonlaw07_num.f t315).bind fun t319 => (if t319 = t298 then ((keys_Int.f a2).bind fun bt320 => (if (bt320.1 == 1 && (bt320.2.1 == a2 && (bt320.2.2.toList == ([] : List UInt8)))) = true then ((keys_Text.f a1).bind fun bt323 => (if (bt323.1 == 2 && (bt323.2.1 == 0 && (bt323.2.2.toList == a1.toList))) = true then ((klaxonlaw07_live.f kj16).bind fun t326 => (some t326)) else (some false))) else (some false))) else (some false))) else (some false)) else (some false)) else (some false))) else (some false)) = some r := H
                    have A36 := Aside0.mk A360
                    clear A360
                    by_cases c37 : t317 = true
                    · subst c37
                      have H1 : ((klaxonlaw07_num.f t300).bind fun t318 => (if t318 = t304 then (if t313.toList = t297.toList then (if t314.toList = x18_16.toList then ((klaxonlaw07_num.f t315).bind fun t319 => (if t319 = t298 then ((keys_Int.f a2).bind fun bt320 => (if (bt320.1 == 1 && (bt320.2.1 == a2 && (bt320.2.2.toList == ([] : List UInt8)))) = true then ((keys_Text.f a1).bind fun bt323 => (if (bt323.1 == 2 && (bt323.2.1 == 0 && (bt323.2.2.toList == a1.toList))) = true then ((klaxonlaw07_live.f kj16).bind fun t326 => (some t326)) else (some false))) else (some false))) else (some false))) else (some false)) else (some false)) else (some false))) = some r := by rw [if_pos rfl] at H; exact H
                      clear H
                      have H := H1
                      clear H1
                      replace H := Option.bind_eq_some_iff.mp H
                      obtain ⟨t318, A380, H⟩ := H
                      replace H : (if t318 = t304 then (if t313.toList = t297.toList then (if t314.toList = x18_16.toList then ((klaxonlaw07_num.f t315).bind fun t319 => (if t319 = t298 then ((keys_Int.f a2).bind fun bt320 => (if (bt320.1 == 1 && (bt320.2.1 == a2 && (bt320.2.2.toList == ([] : List UInt8)))) = true then ((keys_Text.f a1).bind fun bt323 => (if (bt323.1 == 2 && (bt323.2.1 == 0 && (bt323.2.2.toList == a1.toList))) = true then ((klaxonlaw07_live.f kj16).bind fun t326 => (some t326)) else (some false))) else (some false))) else (some false))) else (some false)) else (some false)) else (some false)) = some r := H
                      have A38 := Aside0.mk A380
                      clear A380
                      by_cases c39 : t318 = t304
                      · rw [if_pos c39] at H
                        have c39b0 : (t318 == t304) = true := beq_iff_eq.mpr c39
                        have c39b1 : (t318 != t304) = false := bne_eq_false_iff_eq.mpr c39
                        clear c39
                        by_cases c40 : t313.toList = t297.toList
                        · rw [if_pos c40] at H
                          have c40b0 : (t313.toList == t297.toList) = true := beq_iff_eq.mpr c40
                          have c40b1 : (t313.toList != t297.toList) = false := bne_eq_false_iff_eq.mpr c40
                          clear c40
                          by_cases c41 : t314.toList = x18_16.toList
                          · rw [if_pos c41] at H
                            have c41b0 : (t314.toList == x18_16.toList) = true := beq_iff_eq.mpr c41
                            have c41b1 : (t314.toList != x18_16.toList) = false := bne_eq_false_iff_eq.mpr c41
                            clear c41
                            replace H := Option.bind_eq_some_iff.mp H
                            obtain ⟨t319, A420, H⟩ := H
                            replace H : (if t319 = t298 then ((keys_Int.f a2).bind fun bt320 => (if (bt320.1 == 1 && (bt320.2.1 == a2 && (bt320.2.2.toList == ([] : List UInt8)))) = true then ((keys_Text.f a1).bind fun bt323 => (if (bt323.1 == 2 && (bt323.2.1 == 0 && (bt323.2.2.toList == a1.toList))) = true then ((klaxonlaw07_live.f kj16).bind fun t326 => (some t326)) else (some false))) else (some false))) else (some false)) = some r := H
                            have A42 := Aside0.mk A420
                            clear A420
                            by_cases c43 : t319 = t298
                            · rw [if_pos c43] at H
                              have c43b0 : (t319 == t298) = true := beq_iff_eq.mpr c43
                              have c43b1 : (t319 != t298) = false := bne_eq_false_iff_eq.mpr c43
                              clear c43
                              replace H := Option.bind_eq_some_iff.mp H
                              obtain ⟨⟨t320, t321, t322⟩, A440, H⟩ := H
                              replace H : (if (t320 == 1 && (t321 == a2 && (t322.toList == ([] : List UInt8)))) = true then ((keys_Text.f a1).bind fun bt323 => (if (bt323.1 == 2 && (bt323.2.1 == 0 && (bt323.2.2.toList == a1.toList))) = true then ((klaxonlaw07_live.f kj16).bind fun t326 => (some t326)) else (some false))) else (some false)) = some r := H
                              have A44 := Aside0.mk A440
                              clear A440
                              by_cases c45 : (t320 == 1 && (t321 == a2 && (t322.toList == ([] : List UInt8)))) = true
                              · rw [if_pos c45] at H
                                have c45b0 : (t320 == 1 && (t321 == a2 && (t322.toList == ([] : List UInt8)))) = true := c45
                                have c45b9 := eq_true (show t320 = 1 ∧ t321 = a2 ∧ t322.toList = ([] : List UInt8) from by simpa using c45)
                                (try (have c45b1 : decide (t320 = 1 && (t321 == a2 && (t322.toList == ([] : List UInt8)))) = true := by simpa using c45))
                                (try (have c45b2 : (t320 == 1 && (t321 == a2 && (t322.toList == ([] : List UInt8)))) = true := by simpa using c45))
                                clear c45
                                replace H := Option.bind_eq_some_iff.mp H
                                obtain ⟨⟨t323, t324, t325⟩, A460, H⟩ := H
                                replace H : (if (t323 == 2 && (t324 == 0 && (t325.toList == a1.toList))) = true then ((klaxonlaw07_live.f kj16).bind fun t326 => (some t326)) else (some false)) = some r := H
                                have A46 := Aside0.mk A460
                                clear A460
                                by_cases c47 : (t323 == 2 && (t324 == 0 && (t325.toList == a1.toList))) = true
                                · rw [if_pos c47] at H
                                  have c47b0 : (t323 == 2 && (t324 == 0 && (t325.toList == a1.toList))) = true := c47
                                  have c47b9 := eq_true (show t323 = 2 ∧ t324 = 0 ∧ t325.toList = a1.toList from by simpa using c47)
                                  (try (have c47b1 : decide (t323 = 2 && (t324 == 0 && (t325.toList == a1.toList))) = true := by simpa using c47))
                                  (try (have c47b2 : (t323 == 2 && (t324 == 0 && (t325.toList == a1.toList))) = true := by simpa using c47))
                                  clear c47
                                  replace H := Option.bind_eq_some_iff.mp H
                                  obtain ⟨t326, A480, H⟩ := H
                                  replace H : (some t326) = some r := H
                                  have A48 := Aside0.mk A480
                                  clear A480
                                  obtain rfl := Option.some.inj H
                                  go_wp2_with (first | (go_at_call 10; (with_reducible refine (klaxonlaw07_num.calls t296 t316 _ A34.out).mono ?_); rintro e w' ⟨rfl, ⟨nd, rfl⟩⟩; obtain ⟨Ao49, co49, eo49⟩ := Kd.R_slice HO_11.out; subst eo49; obtain ⟨Ao50, co50, eo50⟩ := Kd.R_slice HO_13.out; subst eo50) | (go_at_call 19; (with_reducible refine (klaxonref07_Same.calls kj16 _ _ t299 _ _ t303 true _ ?side1 ?side2 ?side3 ?side4 A36.out).mono ?_); (case side1 => repeat (first | exact (Kd.R_reads' HO_11.out).2.2 | (with_reducible refine Kd.C_alloc ?_ _) | (with_reducible refine Kd.C_drewN ?_ _) | (with_reducible refine Kd.C_drew ?_))); (case side2 => exact (Kd.R_reads' HO_11.out).2.1); (case side3 => repeat (first | exact (Kd.R_reads' HO_13.out).2.2 | (with_reducible refine Kd.C_alloc ?_ _) | (with_reducible refine Kd.C_drewN ?_ _) | (with_reducible refine Kd.C_drew ?_))); (case side4 => exact (Kd.R_reads' HO_13.out).2.1); rintro e w' ⟨rfl, ⟨nd, rfl⟩⟩) | (go_at_call 10; (with_reducible refine (klaxonlaw07_num.calls t300 t318 _ A38.out).mono ?_); rintro e w' ⟨rfl, ⟨nd, rfl⟩⟩) | (go_at_call 10; (with_reducible refine (klaxonlaw07_num.calls t315 t319 _ A42.out).mono ?_); rintro e w' ⟨rfl, ⟨nd, rfl⟩⟩) | (go_at_call 14; (with_reducible refine (keys_Int.calls a2 t320 t321 t322 _ A44.out).mono ?_); rintro e w51 ⟨rfl, hb⟩; have n0_ := Aside0.mk (Kd.R_below (by (with_reducible repeat (first | apply Kd.R_alloc | apply Kd.R_drewN | apply Kd.R_drew)); exact HO_11.out) hb); have n1_ := Aside0.mk (Kd.R_below (by (with_reducible repeat (first | apply Kd.R_alloc | apply Kd.R_drewN | apply Kd.R_drew)); exact HO_13.out) hb); have n2_ := Aside0.mk (below_step (by repeat (first | (with_reducible first | exact HB.out | apply below_alloc | apply pw_below_drewN | apply below_drew1) | exact HB.out)) hb); clear HO_11; clear HO_13; clear HB; have HO_11 := n0_; have HO_13 := n1_; have HB := n2_; clear n0_ n1_ n2_; (try clear hb); (try clear hb2); (try clear hk); (try clear hi)) | (go_at_call 15; (with_reducible refine (keys_Text.calls a1 t323 t324 t325 _ A46.out).mono ?_); rintro e w52 ⟨rfl, hb⟩; have n0_ := Aside0.mk (Kd.R_below (by (with_reducible repeat (first | apply Kd.R_alloc | apply Kd.R_drewN | apply Kd.R_drew)); exact HO_11.out) hb); have n1_ := Aside0.mk (Kd.R_below (by (with_reducible repeat (first | apply Kd.R_alloc | apply Kd.R_drewN | apply Kd.R_drew)); exact HO_13.out) hb); have n2_ := Aside0.mk (below_step (by repeat (first | (with_reducible first | exact HB.out | apply below_alloc | apply pw_below_drewN | apply below_drew1) | exact HB.out)) hb); clear HO_11; clear HO_13; clear HB; have HO_11 := n0_; have HO_13 := n1_; have HB := n2_; clear n0_ n1_ n2_; (try clear hb); (try clear hb2); (try clear hk); (try clear hi)) | (go_at_call 8; (with_reducible refine (klaxonlaw07_live.calls kj16  t326 _ A48.out).mono ?_); rintro e w53 ⟨rfl, hb⟩; have n0_ := Aside0.mk (Kd.R_below (by (with_reducible repeat (first | apply Kd.R_alloc | apply Kd.R_drewN | apply Kd.R_drew)); exact HO_11.out) hb); have n1_ := Aside0.mk (Kd.R_below (by (with_reducible repeat (first | apply Kd.R_alloc | apply Kd.R_drewN | apply Kd.R_drew)); exact HO_13.out) hb); have n2_ := Aside0.mk (below_step (by repeat (first | (with_reducible first | exact HB.out | apply below_alloc | apply pw_below_drewN | apply below_drew1) | exact HB.out)) hb); clear HO_11; clear HO_13; clear HB; have HO_11 := n0_; have HO_13 := n1_; have HB := n2_; clear n0_ n1_ n2_; (try clear hb); (try clear hb2); (try clear hk); (try clear hi)))
                                  go_ret
                                  exact ⟨by first | rfl | (simp [errW_none, errW_some] <;> rfl) | (simp [*, errW_none, errW_some] <;> rfl), by repeat (first | (with_reducible first | exact HB.out | apply below_alloc | apply pw_below_drewN | apply below_drew1) | exact HB.out)⟩
                                · rw [if_neg c47] at H
                                  have c47b0 : (t323 == 2 && (t324 == 0 && (t325.toList == a1.toList))) = false := by simpa using c47
                                  have c47b9 := eq_false (show ¬ (t323 = 2 ∧ t324 = 0 ∧ t325.toList = a1.toList) from by simpa using c47)
                                  (try (have c47b1 : decide (t323 = 2 && (t324 == 0 && (t325.toList == a1.toList))) = false := by simpa using c47))
                                  (try (have c47b2 : (t323 == 2 && (t324 == 0 && (t325.toList == a1.toList))) = false := by simpa using c47))
                                  (try (have c47b3 : ¬ (t323 = 2 && (t324 == 0 && (t325.toList == a1.toList))) := by simpa using c47))
                                  clear c47
                                  obtain rfl := Option.some.inj H
                                  go_wp2_with (first | (go_at_call 10; (with_reducible refine (klaxonlaw07_num.calls t296 t316 _ A34.out).mono ?_); rintro e w' ⟨rfl, ⟨nd, rfl⟩⟩; obtain ⟨Ao54, co54, eo54⟩ := Kd.R_slice HO_11.out; subst eo54; obtain ⟨Ao55, co55, eo55⟩ := Kd.R_slice HO_13.out; subst eo55) | (go_at_call 19; (with_reducible refine (klaxonref07_Same.calls kj16 _ _ t299 _ _ t303 true _ ?side1 ?side2 ?side3 ?side4 A36.out).mono ?_); (case side1 => repeat (first | exact (Kd.R_reads' HO_11.out).2.2 | (with_reducible refine Kd.C_alloc ?_ _) | (with_reducible refine Kd.C_drewN ?_ _) | (with_reducible refine Kd.C_drew ?_))); (case side2 => exact (Kd.R_reads' HO_11.out).2.1); (case side3 => repeat (first | exact (Kd.R_reads' HO_13.out).2.2 | (with_reducible refine Kd.C_alloc ?_ _) | (with_reducible refine Kd.C_drewN ?_ _) | (with_reducible refine Kd.C_drew ?_))); (case side4 => exact (Kd.R_reads' HO_13.out).2.1); rintro e w' ⟨rfl, ⟨nd, rfl⟩⟩) | (go_at_call 10; (with_reducible refine (klaxonlaw07_num.calls t300 t318 _ A38.out).mono ?_); rintro e w' ⟨rfl, ⟨nd, rfl⟩⟩) | (go_at_call 10; (with_reducible refine (klaxonlaw07_num.calls t315 t319 _ A42.out).mono ?_); rintro e w' ⟨rfl, ⟨nd, rfl⟩⟩) | (go_at_call 14; (with_reducible refine (keys_Int.calls a2 t320 t321 t322 _ A44.out).mono ?_); rintro e w56 ⟨rfl, hb⟩; have n0_ := Aside0.mk (Kd.R_below (by (with_reducible repeat (first | apply Kd.R_alloc | apply Kd.R_drewN | apply Kd.R_drew)); exact HO_11.out) hb); have n1_ := Aside0.mk (Kd.R_below (by (with_reducible repeat (first | apply Kd.R_alloc | apply Kd.R_drewN | apply Kd.R_drew)); exact HO_13.out) hb); have n2_ := Aside0.mk (below_step (by repeat (first | (with_reducible first | exact HB.out | apply below_alloc | apply pw_below_drewN | apply below_drew1) | exact HB.out)) hb); clear HO_11; clear HO_13; clear HB; have HO_11 := n0_; have HO_13 := n1_; have HB := n2_; clear n0_ n1_ n2_; (try clear hb); (try clear hb2); (try clear hk); (try clear hi)) | (go_at_call 15; (with_reducible refine (keys_Text.calls a1 t323 t324 t325 _ A46.out).mono ?_); rintro e w57 ⟨rfl, hb⟩; have n0_ := Aside0.mk (Kd.R_below (by (with_reducible repeat (first | apply Kd.R_alloc | apply Kd.R_drewN | apply Kd.R_drew)); exact HO_11.out) hb); have n1_ := Aside0.mk (Kd.R_below (by (with_reducible repeat (first | apply Kd.R_alloc | apply Kd.R_drewN | apply Kd.R_drew)); exact HO_13.out) hb); have n2_ := Aside0.mk (below_step (by repeat (first | (with_reducible first | exact HB.out | apply below_alloc | apply pw_below_drewN | apply below_drew1) | exact HB.out)) hb); clear HO_11; clear HO_13; clear HB; have HO_11 := n0_; have HO_13 := n1_; have HB := n2_; clear n0_ n1_ n2_; (try clear hb); (try clear hb2); (try clear hk); (try clear hi)))
                                  go_ret
                                  exact ⟨by first | rfl | (simp [errW_none, errW_some] <;> rfl) | (simp [*, errW_none, errW_some] <;> rfl), by repeat (first | (with_reducible first | exact HB.out | apply below_alloc | apply pw_below_drewN | apply below_drew1) | exact HB.out)⟩
                              · rw [if_neg c45] at H
                                have c45b0 : (t320 == 1 && (t321 == a2 && (t322.toList == ([] : List UInt8)))) = false := by simpa using c45
                                have c45b9 := eq_false (show ¬ (t320 = 1 ∧ t321 = a2 ∧ t322.toList = ([] : List UInt8)) from by simpa using c45)
                                (try (have c45b1 : decide (t320 = 1 && (t321 == a2 && (t322.toList == ([] : List UInt8)))) = false := by simpa using c45))
                                (try (have c45b2 : (t320 == 1 && (t321 == a2 && (t322.toList == ([] : List UInt8)))) = false := by simpa using c45))
                                (try (have c45b3 : ¬ (t320 = 1 && (t321 == a2 && (t322.toList == ([] : List UInt8)))) := by simpa using c45))
                                clear c45
                                obtain rfl := Option.some.inj H
                                go_wp2_with (first | (go_at_call 10; (with_reducible refine (klaxonlaw07_num.calls t296 t316 _ A34.out).mono ?_); rintro e w' ⟨rfl, ⟨nd, rfl⟩⟩; obtain ⟨Ao58, co58, eo58⟩ := Kd.R_slice HO_11.out; subst eo58; obtain ⟨Ao59, co59, eo59⟩ := Kd.R_slice HO_13.out; subst eo59) | (go_at_call 19; (with_reducible refine (klaxonref07_Same.calls kj16 _ _ t299 _ _ t303 true _ ?side1 ?side2 ?side3 ?side4 A36.out).mono ?_); (case side1 => repeat (first | exact (Kd.R_reads' HO_11.out).2.2 | (with_reducible refine Kd.C_alloc ?_ _) | (with_reducible refine Kd.C_drewN ?_ _) | (with_reducible refine Kd.C_drew ?_))); (case side2 => exact (Kd.R_reads' HO_11.out).2.1); (case side3 => repeat (first | exact (Kd.R_reads' HO_13.out).2.2 | (with_reducible refine Kd.C_alloc ?_ _) | (with_reducible refine Kd.C_drewN ?_ _) | (with_reducible refine Kd.C_drew ?_))); (case side4 => exact (Kd.R_reads' HO_13.out).2.1); rintro e w' ⟨rfl, ⟨nd, rfl⟩⟩) | (go_at_call 10; (with_reducible refine (klaxonlaw07_num.calls t300 t318 _ A38.out).mono ?_); rintro e w' ⟨rfl, ⟨nd, rfl⟩⟩) | (go_at_call 10; (with_reducible refine (klaxonlaw07_num.calls t315 t319 _ A42.out).mono ?_); rintro e w' ⟨rfl, ⟨nd, rfl⟩⟩) | (go_at_call 14; (with_reducible refine (keys_Int.calls a2 t320 t321 t322 _ A44.out).mono ?_); rintro e w60 ⟨rfl, hb⟩; have n0_ := Aside0.mk (Kd.R_below (by (with_reducible repeat (first | apply Kd.R_alloc | apply Kd.R_drewN | apply Kd.R_drew)); exact HO_11.out) hb); have n1_ := Aside0.mk (Kd.R_below (by (with_reducible repeat (first | apply Kd.R_alloc | apply Kd.R_drewN | apply Kd.R_drew)); exact HO_13.out) hb); have n2_ := Aside0.mk (below_step (by repeat (first | (with_reducible first | exact HB.out | apply below_alloc | apply pw_below_drewN | apply below_drew1) | exact HB.out)) hb); clear HO_11; clear HO_13; clear HB; have HO_11 := n0_; have HO_13 := n1_; have HB := n2_; clear n0_ n1_ n2_; (try clear hb); (try clear hb2); (try clear hk); (try clear hi)))
                                go_ret
                                exact ⟨by first | rfl | (simp [errW_none, errW_some] <;> rfl) | (simp [*, errW_none, errW_some] <;> rfl), by repeat (first | (with_reducible first | exact HB.out | apply below_alloc | apply pw_below_drewN | apply below_drew1) | exact HB.out)⟩
                            · rw [if_neg c43] at H
                              have c43b0 : (t319 == t298) = false := beq_eq_false_iff_ne.mpr c43
                              have c43b1 : (t319 != t298) = true := bne_iff_ne.mpr c43
                              obtain rfl := Option.some.inj H
                              go_wp2_with (first | (go_at_call 10; (with_reducible refine (klaxonlaw07_num.calls t296 t316 _ A34.out).mono ?_); rintro e w' ⟨rfl, ⟨nd, rfl⟩⟩; obtain ⟨Ao61, co61, eo61⟩ := Kd.R_slice HO_11.out; subst eo61; obtain ⟨Ao62, co62, eo62⟩ := Kd.R_slice HO_13.out; subst eo62) | (go_at_call 19; (with_reducible refine (klaxonref07_Same.calls kj16 _ _ t299 _ _ t303 true _ ?side1 ?side2 ?side3 ?side4 A36.out).mono ?_); (case side1 => repeat (first | exact (Kd.R_reads' HO_11.out).2.2 | (with_reducible refine Kd.C_alloc ?_ _) | (with_reducible refine Kd.C_drewN ?_ _) | (with_reducible refine Kd.C_drew ?_))); (case side2 => exact (Kd.R_reads' HO_11.out).2.1); (case side3 => repeat (first | exact (Kd.R_reads' HO_13.out).2.2 | (with_reducible refine Kd.C_alloc ?_ _) | (with_reducible refine Kd.C_drewN ?_ _) | (with_reducible refine Kd.C_drew ?_))); (case side4 => exact (Kd.R_reads' HO_13.out).2.1); rintro e w' ⟨rfl, ⟨nd, rfl⟩⟩) | (go_at_call 10; (with_reducible refine (klaxonlaw07_num.calls t300 t318 _ A38.out).mono ?_); rintro e w' ⟨rfl, ⟨nd, rfl⟩⟩) | (go_at_call 10; (with_reducible refine (klaxonlaw07_num.calls t315 t319 _ A42.out).mono ?_); rintro e w' ⟨rfl, ⟨nd, rfl⟩⟩))
                              go_ret
                              exact ⟨by first | rfl | (simp [errW_none, errW_some] <;> rfl) | (simp [*, errW_none, errW_some] <;> rfl), by repeat (first | (with_reducible first | exact HB.out | apply below_alloc | apply pw_below_drewN | apply below_drew1) | exact HB.out)⟩
                          · rw [if_neg c41] at H
                            have c41b0 : (t314.toList == x18_16.toList) = false := beq_eq_false_iff_ne.mpr c41
                            have c41b1 : (t314.toList != x18_16.toList) = true := bne_iff_ne.mpr c41
                            obtain rfl := Option.some.inj H
                            go_wp2_with (first | (go_at_call 10; (with_reducible refine (klaxonlaw07_num.calls t296 t316 _ A34.out).mono ?_); rintro e w' ⟨rfl, ⟨nd, rfl⟩⟩; obtain ⟨Ao63, co63, eo63⟩ := Kd.R_slice HO_11.out; subst eo63; obtain ⟨Ao64, co64, eo64⟩ := Kd.R_slice HO_13.out; subst eo64) | (go_at_call 19; (with_reducible refine (klaxonref07_Same.calls kj16 _ _ t299 _ _ t303 true _ ?side1 ?side2 ?side3 ?side4 A36.out).mono ?_); (case side1 => repeat (first | exact (Kd.R_reads' HO_11.out).2.2 | (with_reducible refine Kd.C_alloc ?_ _) | (with_reducible refine Kd.C_drewN ?_ _) | (with_reducible refine Kd.C_drew ?_))); (case side2 => exact (Kd.R_reads' HO_11.out).2.1); (case side3 => repeat (first | exact (Kd.R_reads' HO_13.out).2.2 | (with_reducible refine Kd.C_alloc ?_ _) | (with_reducible refine Kd.C_drewN ?_ _) | (with_reducible refine Kd.C_drew ?_))); (case side4 => exact (Kd.R_reads' HO_13.out).2.1); rintro e w' ⟨rfl, ⟨nd, rfl⟩⟩) | (go_at_call 10; (with_reducible refine (klaxonlaw07_num.calls t300 t318 _ A38.out).mono ?_); rintro e w' ⟨rfl, ⟨nd, rfl⟩⟩))
                            go_ret
                            exact ⟨by first | rfl | (simp [errW_none, errW_some] <;> rfl) | (simp [*, errW_none, errW_some] <;> rfl), by repeat (first | (with_reducible first | exact HB.out | apply below_alloc | apply pw_below_drewN | apply below_drew1) | exact HB.out)⟩
                        · rw [if_neg c40] at H
                          have c40b0 : (t313.toList == t297.toList) = false := beq_eq_false_iff_ne.mpr c40
                          have c40b1 : (t313.toList != t297.toList) = true := bne_iff_ne.mpr c40
                          obtain rfl := Option.some.inj H
                          go_wp2_with (first | (go_at_call 10; (with_reducible refine (klaxonlaw07_num.calls t296 t316 _ A34.out).mono ?_); rintro e w' ⟨rfl, ⟨nd, rfl⟩⟩; obtain ⟨Ao65, co65, eo65⟩ := Kd.R_slice HO_11.out; subst eo65; obtain ⟨Ao66, co66, eo66⟩ := Kd.R_slice HO_13.out; subst eo66) | (go_at_call 19; (with_reducible refine (klaxonref07_Same.calls kj16 _ _ t299 _ _ t303 true _ ?side1 ?side2 ?side3 ?side4 A36.out).mono ?_); (case side1 => repeat (first | exact (Kd.R_reads' HO_11.out).2.2 | (with_reducible refine Kd.C_alloc ?_ _) | (with_reducible refine Kd.C_drewN ?_ _) | (with_reducible refine Kd.C_drew ?_))); (case side2 => exact (Kd.R_reads' HO_11.out).2.1); (case side3 => repeat (first | exact (Kd.R_reads' HO_13.out).2.2 | (with_reducible refine Kd.C_alloc ?_ _) | (with_reducible refine Kd.C_drewN ?_ _) | (with_reducible refine Kd.C_drew ?_))); (case side4 => exact (Kd.R_reads' HO_13.out).2.1); rintro e w' ⟨rfl, ⟨nd, rfl⟩⟩) | (go_at_call 10; (with_reducible refine (klaxonlaw07_num.calls t300 t318 _ A38.out).mono ?_); rintro e w' ⟨rfl, ⟨nd, rfl⟩⟩))
                          go_ret
                          exact ⟨by first | rfl | (simp [errW_none, errW_some] <;> rfl) | (simp [*, errW_none, errW_some] <;> rfl), by repeat (first | (with_reducible first | exact HB.out | apply below_alloc | apply pw_below_drewN | apply below_drew1) | exact HB.out)⟩
                      · rw [if_neg c39] at H
                        have c39b0 : (t318 == t304) = false := beq_eq_false_iff_ne.mpr c39
                        have c39b1 : (t318 != t304) = true := bne_iff_ne.mpr c39
                        obtain rfl := Option.some.inj H
                        go_wp2_with (first | (go_at_call 10; (with_reducible refine (klaxonlaw07_num.calls t296 t316 _ A34.out).mono ?_); rintro e w' ⟨rfl, ⟨nd, rfl⟩⟩; obtain ⟨Ao67, co67, eo67⟩ := Kd.R_slice HO_11.out; subst eo67; obtain ⟨Ao68, co68, eo68⟩ := Kd.R_slice HO_13.out; subst eo68) | (go_at_call 19; (with_reducible refine (klaxonref07_Same.calls kj16 _ _ t299 _ _ t303 true _ ?side1 ?side2 ?side3 ?side4 A36.out).mono ?_); (case side1 => repeat (first | exact (Kd.R_reads' HO_11.out).2.2 | (with_reducible refine Kd.C_alloc ?_ _) | (with_reducible refine Kd.C_drewN ?_ _) | (with_reducible refine Kd.C_drew ?_))); (case side2 => exact (Kd.R_reads' HO_11.out).2.1); (case side3 => repeat (first | exact (Kd.R_reads' HO_13.out).2.2 | (with_reducible refine Kd.C_alloc ?_ _) | (with_reducible refine Kd.C_drewN ?_ _) | (with_reducible refine Kd.C_drew ?_))); (case side4 => exact (Kd.R_reads' HO_13.out).2.1); rintro e w' ⟨rfl, ⟨nd, rfl⟩⟩) | (go_at_call 10; (with_reducible refine (klaxonlaw07_num.calls t300 t318 _ A38.out).mono ?_); rintro e w' ⟨rfl, ⟨nd, rfl⟩⟩))
                        go_ret
                        exact ⟨by first | rfl | (simp [errW_none, errW_some] <;> rfl) | (simp [*, errW_none, errW_some] <;> rfl), by repeat (first | (with_reducible first | exact HB.out | apply below_alloc | apply pw_below_drewN | apply below_drew1) | exact HB.out)⟩
                    · replace c37 := Bool.eq_false_iff.mpr c37
                      subst c37
                      have H1 : (some false) = some r := by rw [if_neg (show ¬ (false = true) by decide)] at H; exact H
                      clear H
                      have H := H1
                      clear H1
                      obtain rfl := Option.some.inj H
                      go_wp2_with (first | (go_at_call 10; (with_reducible refine (klaxonlaw07_num.calls t296 t316 _ A34.out).mono ?_); rintro e w' ⟨rfl, ⟨nd, rfl⟩⟩; obtain ⟨Ao69, co69, eo69⟩ := Kd.R_slice HO_11.out; subst eo69; obtain ⟨Ao70, co70, eo70⟩ := Kd.R_slice HO_13.out; subst eo70) | (go_at_call 19; (with_reducible refine (klaxonref07_Same.calls kj16 _ _ t299 _ _ t303 false _ ?side1 ?side2 ?side3 ?side4 A36.out).mono ?_); (case side1 => repeat (first | exact (Kd.R_reads' HO_11.out).2.2 | (with_reducible refine Kd.C_alloc ?_ _) | (with_reducible refine Kd.C_drewN ?_ _) | (with_reducible refine Kd.C_drew ?_))); (case side2 => exact (Kd.R_reads' HO_11.out).2.1); (case side3 => repeat (first | exact (Kd.R_reads' HO_13.out).2.2 | (with_reducible refine Kd.C_alloc ?_ _) | (with_reducible refine Kd.C_drewN ?_ _) | (with_reducible refine Kd.C_drew ?_))); (case side4 => exact (Kd.R_reads' HO_13.out).2.1); rintro e w' ⟨rfl, ⟨nd, rfl⟩⟩))
                      go_ret
                      exact ⟨by first | rfl | (simp [errW_none, errW_some] <;> rfl) | (simp [*, errW_none, errW_some] <;> rfl), by repeat (first | (with_reducible first | exact HB.out | apply below_alloc | apply pw_below_drewN | apply below_drew1) | exact HB.out)⟩
                  · rw [if_neg c35] at H
                    have c35b0 : (t316 == t298) = false := beq_eq_false_iff_ne.mpr c35
                    have c35b1 : (t316 != t298) = true := bne_iff_ne.mpr c35
                    obtain rfl := Option.some.inj H
                    go_wp2_with (first | (go_at_call 10; (with_reducible refine (klaxonlaw07_num.calls t296 t316 _ A34.out).mono ?_); rintro e w' ⟨rfl, ⟨nd, rfl⟩⟩))
                    go_ret
                    exact ⟨by first | rfl | (simp [errW_none, errW_some] <;> rfl) | (simp [*, errW_none, errW_some] <;> rfl), by repeat (first | (with_reducible first | exact HB.out | apply below_alloc | apply pw_below_drewN | apply below_drew1) | exact HB.out)⟩
                · rw [if_neg c33] at H
                  have c33b0 : (t295.toList == t297.toList) = false := beq_eq_false_iff_ne.mpr c33
                  have c33b1 : (t295.toList != t297.toList) = true := bne_iff_ne.mpr c33
                  obtain rfl := Option.some.inj H
                  go_wp2
                  go_ret
                  exact ⟨by first | rfl | (simp [errW_none, errW_some] <;> rfl) | (simp [*, errW_none, errW_some] <;> rfl), by repeat (first | (with_reducible first | exact HB.out | apply below_alloc | apply pw_below_drewN | apply below_drew1) | exact HB.out)⟩
          · rw [if_neg c15] at H
            exact absurd H (by simp)
        · rw [if_neg c10] at H
          exact absurd H (by simp)

end Go.Proofs.Ytephhhflifjcmaa.K
