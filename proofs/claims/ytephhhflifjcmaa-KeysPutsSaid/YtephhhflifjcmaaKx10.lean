/- Laid by a program of this place, a turned copy of the printer: functions, their contracts, and proofs that Lean checks. -/
import Derived.Test.YtephhhflifjcmaaKx0
namespace Go.Proofs.Ytephhhflifjcmaa.K
open Go.RowKit Go.Proofs.YtephhhflifjcmaaW.PrintWords Go.Proofs.YtephhhflifjcmaaW.PrintLast Go.Proofs.YtephhhflifjcmaaW.PrintMore
attribute [local go_sem] max2_int min2_int max_two min_two max_three min_three max_four min_four   -- for this text's walks alone
attribute [local go_sem] H.str_gtr H.str_leq H.str_geq
set_option linter.unusedVariables false
set_option linter.unusedSimpArgs false

/-! ### klaxonref07_needs: function 38 -/
def klaxonref07_needs.l0 : Nat → Int → Int → Option (Int)
  | 0, _, _ => none
  | k + 1, x0, x3 => if x0 > 0 then (klaxonref07_needs.l0 k (x0 / 256) (wrap64 (x3 + 1))) else (some x3)
def klaxonref07_needs.f (k : Nat) (a0 : Int) : Option (Int) := klaxonref07_needs.l0 k a0 0
theorem klaxonref07_needs.mono_l : ∀ k, (∀ y0 y1, LeO (klaxonref07_needs.l0 k y0 y1) (klaxonref07_needs.l0 (k + 1) y0 y1))
  | 0 => fun _ _ r h => by simp [klaxonref07_needs.l0] at h
  | k + 1 => by
    have ih0 := klaxonref07_needs.mono_l k
    · intro y0 y1
      unfold klaxonref07_needs.l0
      repeat' first
      | (with_reducible exact ih0 _ _)
      | (with_reducible exact LeO.refl _)
      | (with_reducible exact LeO.none _)
      | (with_reducible refine LeO.ite ?_ ?_)
      | (with_reducible refine LeO.bind ?_ (fun _ => ?_))
      | exact ih0 _ _
      | exact LeO.none _
      | refine LeO.ite ?_ ?_
      | refine LeO.bind ?_ (fun _ => ?_)
theorem klaxonref07_needs.mono : ∀ a0 k, LeO (klaxonref07_needs.f k a0) (klaxonref07_needs.f (k + 1) a0) := by
  intro a0 k
  have ih0 := klaxonref07_needs.mono_l k
  unfold klaxonref07_needs.f
  repeat' first
      | (with_reducible exact ih0 _ _)
      | (with_reducible exact LeO.refl _)
      | (with_reducible exact LeO.none _)
      | (with_reducible refine LeO.ite ?_ ?_)
      | (with_reducible refine LeO.bind ?_ (fun _ => ?_))
      | exact ih0 _ _
      | exact LeO.none _
      | refine LeO.ite ?_ ?_
      | refine LeO.bind ?_ (fun _ => ?_)
set_option maxHeartbeats 8000000 in
set_option maxRecDepth 100000 in
theorem klaxonref07_needs.calls (k : Nat) (a0 : Int) (r : Int) (w : World) (h : klaxonref07_needs.f k a0 = some r) :
    Calls Try.prog 38 #[.int .u64 a0] w fun e w' => e = .returned (.int .i64 r) ∧ Drawn0 w w' := by
  have H : (klaxonref07_needs.l0 k a0 0) = some r := h
  clear h
  have H' := Aside0.mk H
  clear H
  go_enter Try.func38, Try.ntmps38
  go_wp2
  go_loopg [0, 3] k (fun kq v0 v3 w' => ∃ (x0_1 : Int) (x3_1 : Int), v0 = .int .u64 x0_1 ∧ v3 = .int .i64 x3_1 ∧ Aside0 (klaxonref07_needs.l0 kq x0_1 x3_1 = some r) ∧ Aside0 (kq ≤ k) ∧ Drawn0 w w')
  case atStart => exact ⟨(a0), (0), (by first | rfl | (simp; done) | (simp [*]; done)), (by first | rfl | (simp; done) | (simp [*]; done)), H', ⟨Nat.le_refl _⟩, by repeat (first | exact Drawn0.refl _ | apply Drawn0.step)⟩
  case round =>
    clear H'
    obtain ⟨x0_1, x3_1, rfl, rfl, HA, HK1, ⟨m1, rfl⟩⟩ := hrel
    cases gk with
    | zero => exact absurd HA.out (by simp [klaxonref07_needs.l0])
    | succ k1 =>
      have H := HA.out
      clear HA
      simp only [klaxonref07_needs.l0] at H
      by_cases c2 : x0_1 > 0
      · rw [if_pos c2] at H
        have c2b0 : decide (0 < x0_1) = true := decide_eq_true c2
        clear c2
        have H' := Aside0.mk H
        clear H
        go_wp2
        go_roundg k1
        case measure => have := HK1.out; omega
        case rel => exact ⟨(x0_1 / 256), (wrap64 (x3_1 + 1)), (by first | rfl | (simp; done) | (simp [*]; done)), (by first | rfl | (simp; done) | (simp [*]; done)), H', ⟨by have := HK1.out; omega⟩, by repeat (first | exact Drawn0.refl _ | apply Drawn0.step)⟩
      · rw [if_neg c2] at H
        have c2b0 : decide (0 < x0_1) = false := decide_eq_false c2
        clear c2
        obtain rfl := Option.some.inj H
        go_wp2
        go_ret
        exact ⟨by first | rfl | (simp; done) | (simp [*]; done), by repeat (first | exact Drawn0.refl _ | apply Drawn0.step)⟩

/-! ### klaxonref07_number: function 26 -/
mutual
def klaxonref07_number.j0 : Nat → Bool → Int → Option (ByteArray)
  | 0, _, _ => none
  | k + 1, x3, x4 => (klaxonref07_needs.f k x4).bind fun t241 => ((some (([(wrap64 (128 + t241)) % 256] : List Int) : List Int)).bind fun y242 => (if x3 = true then (if 0 < (y242.length : Int) then (klaxonref07_number.j1 k x3 x4 t241 (y242.set (0 : Int).toNat ((wrap64 (127 - t241)) % 256))) else (none)) else (klaxonref07_number.j1 k x3 x4 t241 y242)))
def klaxonref07_number.j1 : Nat → Bool → Int → Int → List Int → Option (ByteArray)
  | 0, _, _, _, _ => none
  | k + 1, x3, x4, x5, x6 => klaxonref07_number.l0 k x3 x4 x6 (wrap64 (x5 - 1))
def klaxonref07_number.l0 : Nat → Bool → Int → List Int → Int → Option (ByteArray)
  | 0, _, _, _, _ => none
  | k + 1, x3, x4, x6, x7 => if x7 ≥ 0 then (if 0 ≤ (IntKind.u64.wrap (wrap64 (8 * x7))) then (if x3 = true then (if x6.length < 140737488355328 then (klaxonref07_number.l0 k x3 x4 (x6 ++ [255 - ((shr .u64 x4 (IntKind.u64.wrap (wrap64 (8 * x7)))) % 256)]) (wrap64 (x7 - 1))) else (none)) else (if x6.length < 140737488355328 then (klaxonref07_number.l0 k x3 x4 (x6 ++ [(shr .u64 x4 (IntKind.u64.wrap (wrap64 (8 * x7)))) % 256]) (wrap64 (x7 - 1))) else (none))) else (none)) else (some (strOfNums x6))
end
def klaxonref07_number.f (k : Nat) (a0 : Int) : Option (ByteArray) := if a0 < 0 then (klaxonref07_number.j0 k (decide (a0 < 0)) (IntKind.u64.wrap (wrap64 ((-1) - a0)))) else (klaxonref07_number.j0 k (decide (a0 < 0)) (IntKind.u64.wrap (a0)))
theorem klaxonref07_number.mono_l : ∀ k, (∀ y0 y1, LeO (klaxonref07_number.j0 k y0 y1) (klaxonref07_number.j0 (k + 1) y0 y1)) ∧ (∀ y0 y1 y2 y3, LeO (klaxonref07_number.j1 k y0 y1 y2 y3) (klaxonref07_number.j1 (k + 1) y0 y1 y2 y3)) ∧ (∀ y0 y1 y2 y3, LeO (klaxonref07_number.l0 k y0 y1 y2 y3) (klaxonref07_number.l0 (k + 1) y0 y1 y2 y3))
  | 0 => ⟨fun _ _ r h => by simp [klaxonref07_number.j0] at h, fun _ _ _ _ r h => by simp [klaxonref07_number.j1] at h, fun _ _ _ _ r h => by simp [klaxonref07_number.l0] at h⟩
  | k + 1 => by
    obtain ⟨ih0, ih1, ih2⟩ := klaxonref07_number.mono_l k
    refine ⟨?_, ?_, ?_⟩
    · intro y0 y1
      unfold klaxonref07_number.j0
      repeat' first
      | (with_reducible exact ih0 _ _)
      | (with_reducible exact ih1 _ _ _ _)
      | (with_reducible exact ih2 _ _ _ _)
      | (with_reducible exact klaxonref07_needs.mono _ _)
      | (with_reducible exact LeO.refl _)
      | (with_reducible exact LeO.none _)
      | (with_reducible refine LeO.ite ?_ ?_)
      | (with_reducible refine LeO.bind ?_ (fun _ => ?_))
      | exact ih0 _ _
      | exact ih1 _ _ _ _
      | exact ih2 _ _ _ _
      | exact klaxonref07_needs.mono _ _
      | exact LeO.none _
      | refine LeO.ite ?_ ?_
      | refine LeO.bind ?_ (fun _ => ?_)
    · intro y0 y1 y2 y3
      unfold klaxonref07_number.j1
      repeat' first
      | (with_reducible exact ih0 _ _)
      | (with_reducible exact ih1 _ _ _ _)
      | (with_reducible exact ih2 _ _ _ _)
      | (with_reducible exact klaxonref07_needs.mono _ _)
      | (with_reducible exact LeO.refl _)
      | (with_reducible exact LeO.none _)
      | (with_reducible refine LeO.ite ?_ ?_)
      | (with_reducible refine LeO.bind ?_ (fun _ => ?_))
      | exact ih0 _ _
      | exact ih1 _ _ _ _
      | exact ih2 _ _ _ _
      | exact klaxonref07_needs.mono _ _
      | exact LeO.none _
      | refine LeO.ite ?_ ?_
      | refine LeO.bind ?_ (fun _ => ?_)
    · intro y0 y1 y2 y3
      unfold klaxonref07_number.l0
      repeat' first
      | (with_reducible exact ih0 _ _)
      | (with_reducible exact ih1 _ _ _ _)
      | (with_reducible exact ih2 _ _ _ _)
      | (with_reducible exact klaxonref07_needs.mono _ _)
      | (with_reducible exact LeO.refl _)
      | (with_reducible exact LeO.none _)
      | (with_reducible refine LeO.ite ?_ ?_)
      | (with_reducible refine LeO.bind ?_ (fun _ => ?_))
      | exact ih0 _ _
      | exact ih1 _ _ _ _
      | exact ih2 _ _ _ _
      | exact klaxonref07_needs.mono _ _
      | exact LeO.none _
      | refine LeO.ite ?_ ?_
      | refine LeO.bind ?_ (fun _ => ?_)
theorem klaxonref07_number.mono : ∀ a0 k, LeO (klaxonref07_number.f k a0) (klaxonref07_number.f (k + 1) a0) := by
  intro a0 k
  obtain ⟨ih0, ih1, ih2⟩ := klaxonref07_number.mono_l k
  unfold klaxonref07_number.f
  repeat' first
      | (with_reducible exact ih0 _ _)
      | (with_reducible exact ih1 _ _ _ _)
      | (with_reducible exact ih2 _ _ _ _)
      | (with_reducible exact klaxonref07_needs.mono _ _)
      | (with_reducible exact LeO.refl _)
      | (with_reducible exact LeO.none _)
      | (with_reducible refine LeO.ite ?_ ?_)
      | (with_reducible refine LeO.bind ?_ (fun _ => ?_))
      | exact ih0 _ _
      | exact ih1 _ _ _ _
      | exact ih2 _ _ _ _
      | exact klaxonref07_needs.mono _ _
      | exact LeO.none _
      | refine LeO.ite ?_ ?_
      | refine LeO.bind ?_ (fun _ => ?_)
set_option maxHeartbeats 8000000 in
set_option maxRecDepth 100000 in
theorem klaxonref07_number.calls_t (k : Nat) (a0 : Int) (r : ByteArray) (w : World) (hc : decide (a0 < 0) = true) (h : klaxonref07_number.f k a0 = some r) :
    Calls Try.prog 26 #[.int .i64 a0] w fun e w' => e = .returned (.string r) ∧ Below w.heap.size w w' := by
  have HB := Aside0.mk (Below.refl w.heap.size w)
  have H : (klaxonref07_number.j0 k true (IntKind.u64.wrap (wrap64 ((-1) - a0)))) = some r := by
    unfold klaxonref07_number.f at h
    rw [if_pos (of_decide_eq_true hc), hc] at h
    exact h
  clear h
  have HC2 := Aside0.mk H
  clear H
  go_enter Try.func26, Try.ntmps26
  go_upto_if 13 with (fail)
  go_cut [4] (fun v4 wc => ∃ (kq : Nat) (x4_1 : Int), v4 = .int .u64 x4_1 ∧ Aside0 (klaxonref07_number.j0 kq true x4_1 = some r) ∧ Aside0 (kq ≤ k) ∧ Aside0 (Below w.heap.size w wc))
  case first =>
    have H := HC2.out
    clear HC2
    have H' := Aside0.mk H
    clear H
    go_wp2
    go_meet
    case rel => exact ⟨_, (IntKind.u64.wrap (wrap64 ((-1) - a0))), (by first | rfl | (simp; done) | (simp [*]; done)), H', ⟨by first | omega | exact Nat.le_refl _⟩, ⟨by repeat (first | (with_reducible first | exact HB.out | apply below_alloc | apply pw_below_drewN | apply below_drew1) | exact HB.out)⟩⟩
  case rest =>
    clear HC2
    try clear c2
    try clear p2
    try clear c3
    try clear c3b0
    obtain ⟨kq, x4_1, rfl, HA, HJ1, HB⟩ := hcut
    cases kq with
    | zero => exact absurd HA.out (by simp [klaxonref07_number.j0])
    | succ kj1 =>
      have H := HA.out
      clear HA
      simp only [klaxonref07_number.j0] at H
      replace H := Option.bind_eq_some_iff.mp H
      obtain ⟨t241, A40, H⟩ := H
      replace H : ((some (([(wrap64 (128 + t241)) % 256] : List Int) : List Int)).bind fun y242 => (if true = true then (if 0 < (y242.length : Int) then (klaxonref07_number.j1 kj1 true x4_1 t241 (y242.set (0 : Int).toNat ((wrap64 (127 - t241)) % 256))) else (none)) else (klaxonref07_number.j1 kj1 true x4_1 t241 y242))) = some r := H
      have A4 := Aside0.mk A40
      clear A40
      obtain ⟨y242, hy242⟩ : ∃ y_ : List Int, y_ = (([(wrap64 (128 + t241)) % 256] : List Int)) := ⟨_, rfl⟩
      replace H : (if true = true then (if 0 < (y242.length : Int) then (klaxonref07_number.j1 kj1 true x4_1 t241 (y242.set (0 : Int).toNat ((wrap64 (127 - t241)) % 256))) else (none)) else (klaxonref07_number.j1 kj1 true x4_1 t241 y242)) = some r := by first | (rw [hy242]; with_reducible exact H) | (have H2_ := (Option.bind_some _ _).symm.trans H; rw [hy242]; with_reducible exact H2_) | (have H2_ := (Option.bind_some _ _).symm.trans H; with_reducible exact H2_) | with_reducible exact H | (rw [hy242]; exact H) | exact H
      have Ny242 := Aside0.mk hy242
      clear hy242
      have HC5 := Aside0.mk H
      clear H
      go_upto_if 23 with (first | ((with_reducible refine gate_callee (f := 38) rfl ?_); refine goesL_ (some 18) rfl rfl Try.func38 (by kernel_rfl) rfl #[.int .u64 x4_1] rfl (by (try simp only [List.map_toArray, List.map_cons, List.map_nil]); first | done | rfl | (simp only [List.length_drop, List.length_take]; rfl)) ?_; (with_reducible refine (klaxonref07_needs.calls kj1 x4_1 t241 _ A4.out).mono ?_); rintro e w' ⟨rfl, ⟨nd, rfl⟩⟩; refine ⟨_, rfl, ?_⟩) | ((with_reducible refine gate_dst (N := 22) rfl ?_); refine Kd.R_lit (Kd.int .u8) _ 5 ?hg (N := 22) ?hd (xs := ([(wrap64 (128 + t241)) % 256] : List Int)) (inner := [.int .u8 ((wrap64 (128 + t241)) % 256)]) (ok := fun _ => True) (okp := fun _ => True) ?hr ?hp (fun _ hk => hk) trivial (Below.refl _ _) (Nat.le_refl _) (by simp) ?_; (case hd => rfl); (case hg => rfl); (case hr => first | (go_simp; done) | (go_simp; rfl)); (case hp => exact (Reps.one (show Kd.M (Kd.int .u8) _ _ _ ((wrap64 (128 + t241)) % 256) [.int .u8 ((wrap64 (128 + t241)) % 256)] from rfl) (Reps.none _ _))); intro v243 w6 ho7 hb hg_ hnew_; clear hg_ hnew_; (first | rw [← Ny242.out] at ho7 | (simp only [Int.reduceToNat] at ho7; rw [← Ny242.out] at ho7)); have n0_ := Aside0.mk (Kd.R_lower ho7 (below_size (by repeat (first | (with_reducible first | exact HB.out | apply below_alloc | apply pw_below_drewN | apply below_drew1) | exact HB.out)))); have n1_ := Aside0.mk (below_step (by repeat (first | (with_reducible first | exact HB.out | apply below_alloc | apply pw_below_drewN | apply below_drew1) | exact HB.out)) hb); clear HB; have HO244 := n0_; have HB := n1_; clear n0_ n1_; clear hb ho7))
      (try simp only [Act.put, List.setIfInBounds_toArray, List.set_cons_zero, List.set_cons_succ])
      go_cut [] (fun wc => ∃ (kq : Nat) (x6_4 : List Int), Aside0 (klaxonref07_number.j1 kq true x4_1 t241 x6_4 = some r) ∧ Aside0 (kq ≤ kj1) ∧ Aside0 (Kd.R (Kd.int .u8) 5 wc w.heap.size (fun _ => True) v243 x6_4) ∧ Aside0 (Below w.heap.size w wc))
      case first =>
        have H := HC5.out
        clear HC5
        rw [if_pos rfl] at H
        by_cases c9 : 0 < (y242.length : Int)
        · rw [if_pos c9] at H
          have c9b0 : decide (0 < (y242.length : Int)) = true := decide_eq_true c9
          have c9b1 : decide (0 < y242.length) = true := decide_eq_true (by omega)
          clear c9
          obtain ⟨y245, hy245⟩ : ∃ y_ : List Int, y_ = (y242.set (0 : Int).toNat ((wrap64 (127 - t241)) % 256)) := ⟨_, rfl⟩
          replace H : (klaxonref07_number.j1 kj1 true x4_1 t241 y245) = some r := by first | (rw [hy245]; with_reducible exact H) | (have H2_ := (Option.bind_some _ _).symm.trans H; rw [hy245]; with_reducible exact H2_) | (have H2_ := (Option.bind_some _ _).symm.trans H; with_reducible exact H2_) | with_reducible exact H | (rw [hy245]; exact H) | exact H
          have Ny245 := Aside0.mk hy245
          clear hy245
          have H' := Aside0.mk H
          clear H
          have p10 : 0 ≤ (0 : Int) := (by omega)
          have q10 : (0 : Int) < ((y242.length : Int) : Int) := of_decide_eq_true (by first | (with_reducible assumption) | assumption)
          have qi10 : (0 < y242.length) = True := eq_true (by omega)
          obtain ⟨go10, co10, eo10, gb10, gl10, cl10, HG10⟩ := Kd.R_form HO244.out (by omega)
          (first | cases eo10 | (injection eo10 with ea_ en_ ec_; (first | subst ea_ | (injection ea_ with ea_; subst ea_)); subst ec_; clear en_))
          have GB10 := Aside0.mk gb10
          have GG10 := Aside0.mk HG10
          clear gb10 gl10 HG10
          obtain ⟨hx10_0, hf10_0⟩ := Kd.R_celln 0 HO244.out (0 : Int) p10 q10
          (try rw [show ((0 : Int)).toNat = 0 from rfl] at hx10_0)
          (try simp only [Nat.reduceMul, Nat.zero_mul, Nat.zero_add, Nat.reduceAdd] at hx10_0)
          (try rw [show ((0 : Int)).toNat = 0 from rfl] at hf10_0)
          (try simp only [Nat.reduceMul, Nat.zero_mul, Nat.zero_add, Nat.reduceAdd] at hf10_0)
          replace p10 := eq_true p10
          replace q10 := eq_true q10
          have HP11 := Kd.R_putg HO244.out (0 : Int) ((wrap64 (127 - t241)) % 256)
          go_wp2_with (first | ((with_reducible refine gate_store (t := 5) (p := 28) rfl ?_); refine store_event (t := 5) (p := 28) (v := ?vo_w12) (w1 := (w6.setCell ⟨go10, (0 : Int).toNat, none⟩ (.int .u8 ((wrap64 (127 - t241)) % 256)))) ?hg ?ho ?hn ?hr ?_; (case ho => rfl); (case hg => rfl); (case hn => rfl); (case hr => first | (go_simp; done) | (go_simp; rfl)); intro w12 hw; have hg : w6.grownBy w12 (some go10) := (by rw [hw]; exact HP11.2); have hp_ : Kd.R (Kd.int .u8) 5 w12 w.heap.size (fun _ => True) (.slice (some ⟨go10, 0, none⟩) y242.length co10) y245 := (by rw [hw, Ny245.out]; exact HP11.1); clear HP11; have n0_ := Aside0.mk (hp_); have n1_ := Aside0.mk ((by rw [hw]; exact below_set (HB.out) GB10.out : Below w.heap.size w w12)); clear HO244; clear HB; have HO244 := n0_; have HB := n1_; clear n0_ n1_; clear hg hw hp_))
          go_meet
          case rel => exact ⟨_, (y245), H', ⟨by have := HJ1.out; first | omega | exact Nat.le_refl _⟩, ⟨by (with_reducible repeat (first | apply Kd.R_alloc | apply Kd.R_drewN | apply Kd.R_drew)); exact HO244.out⟩, ⟨by repeat (first | (with_reducible first | exact HB.out | apply below_alloc | apply pw_below_drewN | apply below_drew1) | exact HB.out)⟩⟩
        · rw [if_neg c9] at H
          exact absurd H (by simp)
      case rest =>
        clear HC5
        try clear p1
        try clear q1
        try clear hx1
        try clear qi1
        try clear hf1
        try clear c2
        try clear p2
        try clear c3
        try clear c3b0
        try clear p6
        try clear c8
        try clear c8b0
        try clear c9
        try clear c9b0
        try clear c9b1
        try clear p10
        try clear q10
        try clear hx10
        try clear qi10
        try clear hf10
        try clear hx10_0
        try clear p10
        try clear p2
        try clear q10
        obtain ⟨kq, x6_4, HA, HJ4, HO_6, HB⟩ := hcut
        cases kq with
        | zero => exact absurd HA.out (by simp [klaxonref07_number.j1])
        | succ kj4 =>
          have H := HA.out
          clear HA
          simp only [klaxonref07_number.j1] at H
          have H' := Aside0.mk H
          clear H
          go_wp2
          go_loopg [6, 7] kj4 (fun kq v6 v7 w' => ∃ (x6_3 : List Int) (x7_3 : Int), v7 = .int .i64 x7_3 ∧ Aside0 (klaxonref07_number.l0 kq true x4_1 x6_3 x7_3 = some r) ∧ Aside0 (kq ≤ kj4) ∧ Aside0 (Kd.R (Kd.int .u8) 5 w' w.heap.size (fun _ => True) v6 x6_3) ∧ Aside0 (Below w.heap.size w w'))
          case atStart => exact ⟨(x6_4), (wrap64 (t241 - 1)), (by first | rfl | (simp; done) | (simp [*]; done)), H', ⟨Nat.le_refl _⟩, ⟨by (with_reducible repeat (first | apply Kd.R_alloc | apply Kd.R_drewN | apply Kd.R_drew)); exact HO_6.out⟩, ⟨by repeat (first | (with_reducible first | exact HB.out | apply below_alloc | apply pw_below_drewN | apply below_drew1) | exact HB.out)⟩⟩
          case round =>
            clear H'
            try clear p1
            try clear q1
            try clear hx1
            try clear qi1
            try clear hf1
            try clear c2
            try clear p2
            try clear c3
            try clear c3b0
            try clear p6
            try clear c8
            try clear c8b0
            try clear c9
            try clear c9b0
            try clear c9b1
            try clear p10
            try clear q10
            try clear hx10
            try clear qi10
            try clear hf10
            try clear hx10_0
            try clear p1
            try clear p10
            try clear p2
            try clear p6
            try clear q1
            try clear q10
            obtain ⟨x6_3, x7_3, rfl, HA, HK3, HO_6, HB⟩ := hrel
            cases gk with
            | zero => exact absurd HA.out (by simp [klaxonref07_number.l0])
            | succ k3 =>
              have H := HA.out
              clear HA
              simp only [klaxonref07_number.l0] at H
              by_cases c13 : x7_3 ≥ 0
              · rw [if_pos c13] at H
                have c13b0 : decide (0 ≤ x7_3) = true := decide_eq_true c13
                clear c13
                obtain ⟨ji14, hji14⟩ : ∃ j_ : Int, (IntKind.u64.wrap (wrap64 (8 * x7_3))) = j_ := ⟨_, rfl⟩
                replace H : (if 0 ≤ (ji14) then (if true = true then (if x6_3.length < 140737488355328 then (klaxonref07_number.l0 k3 true x4_1 (x6_3 ++ [255 - ((shr .u64 x4_1 (ji14)) % 256)]) (wrap64 (x7_3 - 1))) else (none)) else (if x6_3.length < 140737488355328 then (klaxonref07_number.l0 k3 true x4_1 (x6_3 ++ [(shr .u64 x4_1 (ji14)) % 256]) (wrap64 (x7_3 - 1))) else (none))) else (none)) = some r := by first | (rw [hji14] at H; exact H) | (simp only [hji14] at H ⊢; exact H)
                by_cases c15 : 0 ≤ (ji14)
                · rw [if_pos c15] at H
                  have c15b0 := eq_true c15
                  have c15b1 : decide (0 ≤ (ji14)) = true := decide_eq_true c15
                  clear c15
                  obtain ⟨ji16, hji16⟩ : ∃ j_ : Int, (shr .u64 x4_1 (ji14)) = j_ := ⟨_, rfl⟩
                  replace H : (if true = true then (if x6_3.length < 140737488355328 then (klaxonref07_number.l0 k3 true x4_1 (x6_3 ++ [255 - ((ji16) % 256)]) (wrap64 (x7_3 - 1))) else (none)) else (if x6_3.length < 140737488355328 then (klaxonref07_number.l0 k3 true x4_1 (x6_3 ++ [(ji16) % 256]) (wrap64 (x7_3 - 1))) else (none))) = some r := by first | (rw [hji16] at H; exact H) | (simp only [hji16] at H ⊢; exact H)
                  have hji16_ : (x4_1 / 2 ^ min (ji14).toNat 64) = ji16 := hji16
                  have hji16z : (ji14) ≤ 64 → (x4_1 / 2 ^ (ji14).toNat) = ji16 := shr_small hji16
                  rw [if_pos rfl] at H
                  by_cases c18 : x6_3.length < 140737488355328
                  · rw [if_pos c18] at H
                    have LMc18 := Aside0.mk c18
                    clear c18
                    obtain ⟨y246, hy246⟩ : ∃ y_ : List Int, y_ = (x6_3 ++ [255 - ((ji16) % 256)]) := ⟨_, rfl⟩
                    replace H : (klaxonref07_number.l0 k3 true x4_1 y246 (wrap64 (x7_3 - 1))) = some r := by first | (rw [hy246]; with_reducible exact H) | (have H2_ := (Option.bind_some _ _).symm.trans H; rw [hy246]; with_reducible exact H2_) | (have H2_ := (Option.bind_some _ _).symm.trans H; with_reducible exact H2_) | with_reducible exact H | (rw [hy246]; exact H) | exact H
                    have Ny246 := Aside0.mk hy246
                    clear hy246
                    have H' := Aside0.mk H
                    clear H
                    go_wp2_with (first | ((with_reducible refine gate_builtin (b := .append) (xs := #[.tmp 44, .tmp 46]) rfl ?_); at_builtin; refine Kd.R_append (Kd.int .u8) (w0 := w) w.heap.size rfl (.tmp 44) (.tmp 46) 49 5 (.int .u8 0) 1 rfl Try.underlying49 info5 rfl (by decide) (by omega) u6 x6_3 (255 - ((ji16) % 256)) [.int .u8 (255 - ((ji16) % 256))] (fun _ => True) (fun _ => False) rfl rfl ?aP (fun _ hk => hk.elim) ?aF ?aO ?aB ?aS ?aL ?_; (case aP => exact rfl); (case aB => exact (by repeat (first | (with_reducible first | exact HB.out | apply below_alloc | apply pw_below_drewN | apply below_drew1) | exact HB.out))); (case aF => exact (fun _ _ => trivial)); (case aO => exact (by (with_reducible repeat (first | apply Kd.R_alloc | apply Kd.R_drewN | apply Kd.R_drew)); exact HO_6.out)); (case aS => exact (below_size (by repeat (first | (with_reducible first | exact HB.out | apply below_alloc | apply pw_below_drewN | apply below_drew1) | exact HB.out)))); (case aL => have := LMc18.out; omega); intro v247 w19 ho hb hg hat; rw [← Ny246.out] at ho; have n0_ := Aside0.mk (hb); have n1_ := Aside0.mk (ho); clear HB; clear HO_6; have HB := n0_; have HO248 := n1_; clear n0_ n1_; clear ho hb hg hat))
                    go_roundg k3
                    case measure => have := HJ1.out; have := HJ4.out; have := HK3.out; omega
                    case rel => exact ⟨(y246), (wrap64 (x7_3 - 1)), (by first | rfl | (simp; done) | (simp [*]; done)), H', ⟨by have := HJ1.out; have := HJ4.out; have := HK3.out; omega⟩, ⟨by (with_reducible repeat (first | apply Kd.R_alloc | apply Kd.R_drewN | apply Kd.R_drew)); exact HO248.out⟩, ⟨by repeat (first | (with_reducible first | exact HB.out | apply below_alloc | apply pw_below_drewN | apply below_drew1) | exact HB.out)⟩⟩
                  · rw [if_neg c18] at H
                    exact absurd H (by simp)
                · rw [if_neg c15] at H
                  exact absurd H (by simp)
              · rw [if_neg c13] at H
                have c13b0 : decide (0 ≤ x7_3) = false := decide_eq_false c13
                clear c13
                obtain rfl := Option.some.inj H
                have hcv22 := own_string (P := Try.prog) Try.underlying49 Try.underlying5 Try.underlying9 (Kd.own_of_R HO_6.out)
                go_wp2
                go_ret
                exact ⟨by first | rfl | (simp [errW_none, errW_some] <;> rfl) | (simp [*, errW_none, errW_some] <;> rfl), by repeat (first | (with_reducible first | exact HB.out | apply below_alloc | apply pw_below_drewN | apply below_drew1) | exact HB.out)⟩
set_option maxHeartbeats 8000000 in
set_option maxRecDepth 100000 in
theorem klaxonref07_number.calls_f (k : Nat) (a0 : Int) (r : ByteArray) (w : World) (hc : decide (a0 < 0) = false) (h : klaxonref07_number.f k a0 = some r) :
    Calls Try.prog 26 #[.int .i64 a0] w fun e w' => e = .returned (.string r) ∧ Below w.heap.size w w' := by
  have HB := Aside0.mk (Below.refl w.heap.size w)
  have H : (klaxonref07_number.j0 k false (IntKind.u64.wrap (a0))) = some r := by
    unfold klaxonref07_number.f at h
    rw [if_neg (of_decide_eq_false hc), hc] at h
    exact h
  clear h
  have HC2 := Aside0.mk H
  clear H
  go_enter Try.func26, Try.ntmps26
  go_upto_if 13 with (fail)
  go_cut [4] (fun v4 wc => ∃ (kq : Nat) (x4_1 : Int), v4 = .int .u64 x4_1 ∧ Aside0 (klaxonref07_number.j0 kq false x4_1 = some r) ∧ Aside0 (kq ≤ k) ∧ Aside0 (Below w.heap.size w wc))
  case first =>
    have H := HC2.out
    clear HC2
    have H' := Aside0.mk H
    clear H
    go_wp2
    go_meet
    case rel => exact ⟨_, (IntKind.u64.wrap (a0)), (by first | rfl | (simp; done) | (simp [*]; done)), H', ⟨by first | omega | exact Nat.le_refl _⟩, ⟨by repeat (first | (with_reducible first | exact HB.out | apply below_alloc | apply pw_below_drewN | apply below_drew1) | exact HB.out)⟩⟩
  case rest =>
    clear HC2
    try clear c2
    try clear p2
    try clear c3
    try clear c3b0
    obtain ⟨kq, x4_1, rfl, HA, HJ1, HB⟩ := hcut
    cases kq with
    | zero => exact absurd HA.out (by simp [klaxonref07_number.j0])
    | succ kj1 =>
      have H := HA.out
      clear HA
      simp only [klaxonref07_number.j0] at H
      replace H := Option.bind_eq_some_iff.mp H
      obtain ⟨t241, A40, H⟩ := H
      replace H : ((some (([(wrap64 (128 + t241)) % 256] : List Int) : List Int)).bind fun y242 => (if false = true then (if 0 < (y242.length : Int) then (klaxonref07_number.j1 kj1 false x4_1 t241 (y242.set (0 : Int).toNat ((wrap64 (127 - t241)) % 256))) else (none)) else (klaxonref07_number.j1 kj1 false x4_1 t241 y242))) = some r := H
      have A4 := Aside0.mk A40
      clear A40
      obtain ⟨y242, hy242⟩ : ∃ y_ : List Int, y_ = (([(wrap64 (128 + t241)) % 256] : List Int)) := ⟨_, rfl⟩
      replace H : (if false = true then (if 0 < (y242.length : Int) then (klaxonref07_number.j1 kj1 false x4_1 t241 (y242.set (0 : Int).toNat ((wrap64 (127 - t241)) % 256))) else (none)) else (klaxonref07_number.j1 kj1 false x4_1 t241 y242)) = some r := by first | (rw [hy242]; with_reducible exact H) | (have H2_ := (Option.bind_some _ _).symm.trans H; rw [hy242]; with_reducible exact H2_) | (have H2_ := (Option.bind_some _ _).symm.trans H; with_reducible exact H2_) | with_reducible exact H | (rw [hy242]; exact H) | exact H
      have Ny242 := Aside0.mk hy242
      clear hy242
      have HC5 := Aside0.mk H
      clear H
      go_upto_if 23 with (first | ((with_reducible refine gate_callee (f := 38) rfl ?_); refine goesL_ (some 18) rfl rfl Try.func38 (by kernel_rfl) rfl #[.int .u64 x4_1] rfl (by (try simp only [List.map_toArray, List.map_cons, List.map_nil]); first | done | rfl | (simp only [List.length_drop, List.length_take]; rfl)) ?_; (with_reducible refine (klaxonref07_needs.calls kj1 x4_1 t241 _ A4.out).mono ?_); rintro e w' ⟨rfl, ⟨nd, rfl⟩⟩; refine ⟨_, rfl, ?_⟩) | ((with_reducible refine gate_dst (N := 22) rfl ?_); refine Kd.R_lit (Kd.int .u8) _ 5 ?hg (N := 22) ?hd (xs := ([(wrap64 (128 + t241)) % 256] : List Int)) (inner := [.int .u8 ((wrap64 (128 + t241)) % 256)]) (ok := fun _ => True) (okp := fun _ => True) ?hr ?hp (fun _ hk => hk) trivial (Below.refl _ _) (Nat.le_refl _) (by simp) ?_; (case hd => rfl); (case hg => rfl); (case hr => first | (go_simp; done) | (go_simp; rfl)); (case hp => exact (Reps.one (show Kd.M (Kd.int .u8) _ _ _ ((wrap64 (128 + t241)) % 256) [.int .u8 ((wrap64 (128 + t241)) % 256)] from rfl) (Reps.none _ _))); intro v243 w6 ho7 hb hg_ hnew_; clear hg_ hnew_; (first | rw [← Ny242.out] at ho7 | (simp only [Int.reduceToNat] at ho7; rw [← Ny242.out] at ho7)); have n0_ := Aside0.mk (Kd.R_lower ho7 (below_size (by repeat (first | (with_reducible first | exact HB.out | apply below_alloc | apply pw_below_drewN | apply below_drew1) | exact HB.out)))); have n1_ := Aside0.mk (below_step (by repeat (first | (with_reducible first | exact HB.out | apply below_alloc | apply pw_below_drewN | apply below_drew1) | exact HB.out)) hb); clear HB; have HO244 := n0_; have HB := n1_; clear n0_ n1_; clear hb ho7))
      (try simp only [Act.put, List.setIfInBounds_toArray, List.set_cons_zero, List.set_cons_succ])
      go_cut [] (fun wc => ∃ (kq : Nat) (x6_4 : List Int), Aside0 (klaxonref07_number.j1 kq false x4_1 t241 x6_4 = some r) ∧ Aside0 (kq ≤ kj1) ∧ Aside0 (Kd.R (Kd.int .u8) 5 wc w.heap.size (fun _ => True) v243 x6_4) ∧ Aside0 (Below w.heap.size w wc))
      case first =>
        have H := HC5.out
        clear HC5
        rw [if_neg (by decide)] at H
        have H' := Aside0.mk H
        clear H
        go_wp2
        go_meet
        case rel => exact ⟨_, (y242), H', ⟨by have := HJ1.out; first | omega | exact Nat.le_refl _⟩, ⟨by (with_reducible repeat (first | apply Kd.R_alloc | apply Kd.R_drewN | apply Kd.R_drew)); exact HO244.out⟩, ⟨by repeat (first | (with_reducible first | exact HB.out | apply below_alloc | apply pw_below_drewN | apply below_drew1) | exact HB.out)⟩⟩
      case rest =>
        clear HC5
        try clear p1
        try clear q1
        try clear hx1
        try clear qi1
        try clear hf1
        try clear c2
        try clear p2
        try clear c3
        try clear c3b0
        try clear p6
        try clear c8
        try clear c8b0
        try clear c9
        try clear c9b0
        try clear c9b1
        try clear p10
        try clear q10
        try clear hx10
        try clear qi10
        try clear hf10
        try clear hx10_0
        try clear p10
        try clear p2
        try clear q10
        obtain ⟨kq, x6_4, HA, HJ4, HO_6, HB⟩ := hcut
        cases kq with
        | zero => exact absurd HA.out (by simp [klaxonref07_number.j1])
        | succ kj4 =>
          have H := HA.out
          clear HA
          simp only [klaxonref07_number.j1] at H
          have H' := Aside0.mk H
          clear H
          go_wp2
          go_loopg [6, 7] kj4 (fun kq v6 v7 w' => ∃ (x6_3 : List Int) (x7_3 : Int), v7 = .int .i64 x7_3 ∧ Aside0 (klaxonref07_number.l0 kq false x4_1 x6_3 x7_3 = some r) ∧ Aside0 (kq ≤ kj4) ∧ Aside0 (Kd.R (Kd.int .u8) 5 w' w.heap.size (fun _ => True) v6 x6_3) ∧ Aside0 (Below w.heap.size w w'))
          case atStart => exact ⟨(x6_4), (wrap64 (t241 - 1)), (by first | rfl | (simp; done) | (simp [*]; done)), H', ⟨Nat.le_refl _⟩, ⟨by (with_reducible repeat (first | apply Kd.R_alloc | apply Kd.R_drewN | apply Kd.R_drew)); exact HO_6.out⟩, ⟨by repeat (first | (with_reducible first | exact HB.out | apply below_alloc | apply pw_below_drewN | apply below_drew1) | exact HB.out)⟩⟩
          case round =>
            clear H'
            try clear p1
            try clear q1
            try clear hx1
            try clear qi1
            try clear hf1
            try clear c2
            try clear p2
            try clear c3
            try clear c3b0
            try clear p6
            try clear c8
            try clear c8b0
            try clear c9
            try clear c9b0
            try clear c9b1
            try clear p10
            try clear q10
            try clear hx10
            try clear qi10
            try clear hf10
            try clear hx10_0
            try clear p1
            try clear p10
            try clear p2
            try clear p6
            try clear q1
            try clear q10
            obtain ⟨x6_3, x7_3, rfl, HA, HK3, HO_6, HB⟩ := hrel
            cases gk with
            | zero => exact absurd HA.out (by simp [klaxonref07_number.l0])
            | succ k3 =>
              have H := HA.out
              clear HA
              simp only [klaxonref07_number.l0] at H
              by_cases c13 : x7_3 ≥ 0
              · rw [if_pos c13] at H
                have c13b0 : decide (0 ≤ x7_3) = true := decide_eq_true c13
                clear c13
                obtain ⟨ji14, hji14⟩ : ∃ j_ : Int, (IntKind.u64.wrap (wrap64 (8 * x7_3))) = j_ := ⟨_, rfl⟩
                replace H : (if 0 ≤ (ji14) then (if false = true then (if x6_3.length < 140737488355328 then (klaxonref07_number.l0 k3 false x4_1 (x6_3 ++ [255 - ((shr .u64 x4_1 (ji14)) % 256)]) (wrap64 (x7_3 - 1))) else (none)) else (if x6_3.length < 140737488355328 then (klaxonref07_number.l0 k3 false x4_1 (x6_3 ++ [(shr .u64 x4_1 (ji14)) % 256]) (wrap64 (x7_3 - 1))) else (none))) else (none)) = some r := by first | (rw [hji14] at H; exact H) | (simp only [hji14] at H ⊢; exact H)
                by_cases c15 : 0 ≤ (ji14)
                · rw [if_pos c15] at H
                  have c15b0 := eq_true c15
                  have c15b1 : decide (0 ≤ (ji14)) = true := decide_eq_true c15
                  clear c15
                  obtain ⟨ji16, hji16⟩ : ∃ j_ : Int, (shr .u64 x4_1 (ji14)) = j_ := ⟨_, rfl⟩
                  replace H : (if false = true then (if x6_3.length < 140737488355328 then (klaxonref07_number.l0 k3 false x4_1 (x6_3 ++ [255 - ((ji16) % 256)]) (wrap64 (x7_3 - 1))) else (none)) else (if x6_3.length < 140737488355328 then (klaxonref07_number.l0 k3 false x4_1 (x6_3 ++ [(ji16) % 256]) (wrap64 (x7_3 - 1))) else (none))) = some r := by first | (rw [hji16] at H; exact H) | (simp only [hji16] at H ⊢; exact H)
                  have hji16_ : (x4_1 / 2 ^ min (ji14).toNat 64) = ji16 := hji16
                  have hji16z : (ji14) ≤ 64 → (x4_1 / 2 ^ (ji14).toNat) = ji16 := shr_small hji16
                  rw [if_neg (by decide)] at H
                  by_cases c20 : x6_3.length < 140737488355328
                  · rw [if_pos c20] at H
                    have LMc20 := Aside0.mk c20
                    clear c20
                    obtain ⟨y249, hy249⟩ : ∃ y_ : List Int, y_ = (x6_3 ++ [(ji16) % 256]) := ⟨_, rfl⟩
                    replace H : (klaxonref07_number.l0 k3 false x4_1 y249 (wrap64 (x7_3 - 1))) = some r := by first | (rw [hy249]; with_reducible exact H) | (have H2_ := (Option.bind_some _ _).symm.trans H; rw [hy249]; with_reducible exact H2_) | (have H2_ := (Option.bind_some _ _).symm.trans H; with_reducible exact H2_) | with_reducible exact H | (rw [hy249]; exact H) | exact H
                    have Ny249 := Aside0.mk hy249
                    clear hy249
                    have H' := Aside0.mk H
                    clear H
                    go_wp2_with (first | ((with_reducible refine gate_builtin (b := .append) (xs := #[.tmp 44, .tmp 46]) rfl ?_); at_builtin; refine Kd.R_append (Kd.int .u8) (w0 := w) w.heap.size rfl (.tmp 44) (.tmp 46) 49 5 (.int .u8 0) 1 rfl Try.underlying49 info5 rfl (by decide) (by omega) u6 x6_3 ((ji16) % 256) [.int .u8 ((ji16) % 256)] (fun _ => True) (fun _ => False) rfl rfl ?aP (fun _ hk => hk.elim) ?aF ?aO ?aB ?aS ?aL ?_; (case aP => exact rfl); (case aB => exact (by repeat (first | (with_reducible first | exact HB.out | apply below_alloc | apply pw_below_drewN | apply below_drew1) | exact HB.out))); (case aF => exact (fun _ _ => trivial)); (case aO => exact (by (with_reducible repeat (first | apply Kd.R_alloc | apply Kd.R_drewN | apply Kd.R_drew)); exact HO_6.out)); (case aS => exact (below_size (by repeat (first | (with_reducible first | exact HB.out | apply below_alloc | apply pw_below_drewN | apply below_drew1) | exact HB.out)))); (case aL => have := LMc20.out; omega); intro v250 w21 ho hb hg hat; rw [← Ny249.out] at ho; have n0_ := Aside0.mk (hb); have n1_ := Aside0.mk (ho); clear HB; clear HO_6; have HB := n0_; have HO251 := n1_; clear n0_ n1_; clear ho hb hg hat))
                    go_roundg k3
                    case measure => have := HJ1.out; have := HJ4.out; have := HK3.out; omega
                    case rel => exact ⟨(y249), (wrap64 (x7_3 - 1)), (by first | rfl | (simp; done) | (simp [*]; done)), H', ⟨by have := HJ1.out; have := HJ4.out; have := HK3.out; omega⟩, ⟨by (with_reducible repeat (first | apply Kd.R_alloc | apply Kd.R_drewN | apply Kd.R_drew)); exact HO251.out⟩, ⟨by repeat (first | (with_reducible first | exact HB.out | apply below_alloc | apply pw_below_drewN | apply below_drew1) | exact HB.out)⟩⟩
                  · rw [if_neg c20] at H
                    exact absurd H (by simp)
                · rw [if_neg c15] at H
                  exact absurd H (by simp)
              · rw [if_neg c13] at H
                have c13b0 : decide (0 ≤ x7_3) = false := decide_eq_false c13
                clear c13
                obtain rfl := Option.some.inj H
                have hcv22 := own_string (P := Try.prog) Try.underlying49 Try.underlying5 Try.underlying9 (Kd.own_of_R HO_6.out)
                go_wp2
                go_ret
                exact ⟨by first | rfl | (simp [errW_none, errW_some] <;> rfl) | (simp [*, errW_none, errW_some] <;> rfl), by repeat (first | (with_reducible first | exact HB.out | apply below_alloc | apply pw_below_drewN | apply below_drew1) | exact HB.out)⟩
theorem klaxonref07_number.calls (k : Nat) (a0 : Int) (r : ByteArray) (w : World) (h : klaxonref07_number.f k a0 = some r) :
    Calls Try.prog 26 #[.int .i64 a0] w fun e w' => e = .returned (.string r) ∧ Below w.heap.size w w' := by
  cases hc : decide (a0 < 0) with
  | true => exact klaxonref07_number.calls_t k a0 r w hc h
  | false => exact klaxonref07_number.calls_f k a0 r w hc h


end Go.Proofs.Ytephhhflifjcmaa.K
