/- keys.Compare in the printed form: the order of lists of parts, by slices.CompareFunc over the printed closure. -/
import Derived.Test.YtephhhflifjcmaaKx16
namespace Go.Proofs.Ytephhhflifjcmaa.K
open Go.RowKit Go.Proofs.YtephhhflifjcmaaW.PrintWords Go.Proofs.YtephhhflifjcmaaW.PrintLast Go.Proofs.YtephhhflifjcmaaW.PrintMore
set_option linter.unusedVariables false
set_option linter.unusedSimpArgs false
/-- The first of three that is not 0. -/
def cmpP (x y : S34) : Int := if cmpI x.f0 y.f0 ≠ 0 then cmpI x.f0 y.f0 else if cmpI x.f1 y.f1 ≠ 0 then cmpI x.f1 y.f1 else Lib.compareBytes x.f2.data.toList y.f2.data.toList
theorem closure_tells (x y : S34) : keys_Compare_1.f 4 x.f0 x.f1 x.f2 y.f0 y.f1 y.f2 = some (cmpP x y) := by
  unfold keys_Compare_1.f cmp_Compare_int.f cmp_Compare_int64.f strings_Compare.f
  simp only [Option.bind_some]
  generalize ha : cmpI x.f0 y.f0 = a
  generalize hb : cmpI x.f1 y.f1 = b
  generalize hc : Lib.compareBytes x.f2.data.toList y.f2.data.toList = c
  unfold cmpP
  rw [ha, hb, hc]
  unfold cmp_Or_int.f
  simp only [cmp_Or_int.l0, List.length_cons, List.length_nil]
  by_cases h1 : a = 0
  · subst h1
    by_cases h2 : b = 0
    · subst h2
      by_cases h3 : c = 0
      · subst h3; simp [rd, wrap64]
      · simp [rd, wrap64, h3]
    · simp [rd, wrap64, h2]
  · simp [rd, wrap64, h1]
/-- The order of lists. -/
def cmpL : List S34 → List S34 → Int
  | [], [] => 0
  | [], _ :: _ => -1
  | _ :: _, [] => 1
  | x :: a, y :: b => if cmpP x y ≠ 0 then cmpP x y else cmpL a b
def keys_Compare.f (l0 l1 : List S34) : Option Int := some (cmpL l0 l1)
set_option maxHeartbeats 2000000 in
set_option maxRecDepth 100000 in
theorem compareFunc_calls (A0 : Option Addr) (c0 : Nat) (l0 : List (S34)) (A1 : Option Addr) (c1 : Nat) (l1 : List (S34)) (w : World) (hr0 : Kd.C k34 w A0 l0.length l0) (hc0 : l0.length ≤ c0) (hr1 : Kd.C k34 w A1 l1.length l1) (hc1 : l1.length ≤ c1) :
    Calls Try.prog 29 #[.slice A0 l0.length c0, .slice A1 l1.length c1, .func (Fn.func 30) #[] #[]] w fun e w' => e = .returned (.int .i64 (cmpL l0 l1)) ∧ Below w.heap.size w w' := by
  have hu34 := Try.underlying34
  have hm0 : l0.length ≤ 9223372036854775807 := Kd.C_max hr0
  have hm1 : l1.length ≤ 9223372036854775807 := Kd.C_max hr1
  have HR0 := Aside0.mk hr0
  have HR1 := Aside0.mk hr1
  clear hr0 hr1 hc0 hc1
  go_enter Try.func29, Try.ntmps29
  go_wp2_with fail
  go_loopg [7, 13] l0.length (fun kq v7 v13 w' => ∃ k : Nat, k ≤ l0.length ∧ v13 = .int .i64 k ∧ Aside0 (kq = l0.length - k) ∧ Aside0 (k ≤ l1.length ∧ cmpL l0 l1 = cmpL (l0.drop k) (l1.drop k)) ∧ Aside0 (Below w.heap.size w w'))
  case atStart => exact ⟨0, Nat.zero_le _, rfl, ⟨rfl⟩, ⟨Nat.zero_le _, rfl⟩, ⟨Below.refl _ _⟩⟩
  case round =>
    obtain ⟨k, hk, rfl, HK, HT, HB⟩ := hrel
    by_cases hlt : k < l0.length
    · obtain ⟨ad0, e0, p0, p1, p2⟩ := at_T34 (Kd.C_below HR0.out HB.out) (k : Int) (by omega) (by omega)
      subst e0
      rw [Int.toNat_natCast] at p0 p1 p2
      by_cases hl1 : k < l1.length
      · obtain ⟨ad1, e1, q0, q1, q2⟩ := at_T34 (Kd.C_below HR1.out HB.out) (k : Int) (by omega) (by omega)
        subst e1
        rw [Int.toNat_natCast] at q0 q1 q2
        have d1 : decide (l1.length ≤ k) = false := decide_eq_false (by omega)
        have q0' := fun o => pw_cell_below (below_alloc (Below.refl wr.heap.size wr) o) q0
        have q1' := fun o => pw_cell_below (below_alloc (Below.refl wr.heap.size wr) o) q1
        have q2' := fun o => pw_cell_below (below_alloc (Below.refl wr.heap.size wr) o) q2
        clear q0 q1 q2
        go_wp2_with fail
        refine (keys_Compare_1.calls 4 _ _ _ _ _ _ _ _ (closure_tells (rd_T34 l0 k) (rd_T34 l1 k))).mono ?_
        rintro e w1 ⟨rfl, hb1⟩
        have HB1 := Aside0.mk (below_step (below_alloc (below_alloc HB.out _) _) hb1)
        have hdr : cmpL (l0.drop k) (l1.drop k) = if cmpP (rd_T34 l0 k) (rd_T34 l1 k) ≠ 0 then cmpP (rd_T34 l0 k) (rd_T34 l1 k) else cmpL (l0.drop (k + 1)) (l1.drop (k + 1)) := by
          rw [List.drop_eq_getElem_cons hlt, List.drop_eq_getElem_cons hl1, cmpL]
          have e0 : rd_T34 l0 k = l0[k] := by simp [rd_T34, List.getD_eq_getElem?_getD, List.getElem?_eq_getElem hlt]
          have e1 : rd_T34 l1 k = l1[k] := by simp [rd_T34, List.getD_eq_getElem?_getD, List.getElem?_eq_getElem hl1]
          rw [e0, e1]
        have HD := Aside0.mk hdr
        clear hdr hb1 q0' q1' q2' p0 p1 p2
        generalize cmpP (rd_T34 l0 k) (rd_T34 l1 k) = c at HD ⊢
        by_cases hc : c = 0
        · have cc : (c != 0) = false := by simp [hc]
          have HT2 := Aside0.mk (show cmpL l0 l1 = cmpL (l0.drop (k + 1)) (l1.drop (k + 1)) from by rw [HT.out.2, HD.out, if_neg (by simp [hc])])
          clear hc
          go_wp2
          go_roundg (l0.length - (k + 1))
          case measure => have := HK.out; omega
          case rel => exact ⟨k + 1, by omega, by go_num, ⟨rfl⟩, ⟨by omega, HT2.out⟩, HB1⟩
        · have cc : (c != 0) = true := by simp [hc]
          have HT2 := Aside0.mk (show cmpL l0 l1 = c from by rw [HT.out.2, HD.out, if_pos hc])
          clear hc
          go_wp2
          go_ret
          exact ⟨by rw [HT2.out]; rfl, HB1.out⟩
      · have d1 : decide (l1.length ≤ k) = true := decide_eq_true (by omega)
        have HT2 := Aside0.mk (show cmpL l0 l1 = 1 from by
          have e : List.drop k l1 = [] := List.drop_of_length_le (by omega)
          rw [HT.out.2, List.drop_eq_getElem_cons hlt, e]
          rfl)
        go_wp2
        go_ret
        exact ⟨by rw [HT2.out]; rfl, below_alloc HB.out _⟩
    · by_cases hl : l0.length < l1.length
      · have HT2 := Aside0.mk (show cmpL l0 l1 = -1 from by
          rw [HT.out.2, List.drop_of_length_le (by omega), List.drop_eq_getElem_cons (show k < l1.length by omega)]
          rfl)
        have d1 : decide (l0.length < l1.length) = true := decide_eq_true hl
        go_wp2
        go_ret
        exact ⟨by rw [HT2.out]; rfl, HB.out⟩
      · have HT2 := Aside0.mk (show cmpL l0 l1 = 0 from by
          have := HT.out.1
          rw [HT.out.2, List.drop_of_length_le (by omega), List.drop_of_length_le (by omega)]
          rfl)
        have d1 : decide (l0.length < l1.length) = false := decide_eq_false hl
        go_wp2
        go_ret
        exact ⟨by rw [HT2.out]; rfl, HB.out⟩
set_option maxHeartbeats 2000000 in
set_option maxRecDepth 100000 in
theorem keys_Compare.calls (A0 : Option Addr) (c0 : Nat) (l0 : List (S34)) (A1 : Option Addr) (c1 : Nat) (l1 : List (S34)) (r : Int) (w : World) (hr0 : Kd.C k34 w A0 l0.length l0) (hc0 : l0.length ≤ c0) (hr1 : Kd.C k34 w A1 l1.length l1) (hc1 : l1.length ≤ c1) (h : keys_Compare.f l0 l1 = some r) :
    Calls Try.prog 20 #[.slice A0 l0.length c0, .slice A1 l1.length c1] w fun e w' => e = .returned (.int .i64 r) ∧ Below w.heap.size w w' := by
  obtain rfl := Option.some.inj h
  have HC := Aside0.mk (compareFunc_calls A0 c0 l0 A1 c1 l1 w hr0 hc0 hr1 hc1)
  clear hr0 hr1 hc0 hc1 h
  go_enter Try.func20, Try.ntmps20
  go_wp2_with (go_at_call 29; refine HC.out.mono ?_)
  rintro e w1 ⟨rfl, hb⟩
  have HB := Aside0.mk hb
  clear hb
  go_wp2
  go_ret
  exact ⟨rfl, HB.out⟩
end Go.Proofs.Ytephhhflifjcmaa.K
