/- sched.Due in the printed form, for lists of one job at most. -/
import Derived.Test.YtaonabfnagmogaaGDue2
namespace Go.Proofs.Ytaonabfnagmogaa.S
open Go.RowKit Go.Proofs.YtaonabfnagmogaaW.PrintWords Go.Proofs.YtaonabfnagmogaaW.PrintLast Go.Proofs.YtaonabfnagmogaaW.PrintMore
set_option linter.unusedVariables false
set_option linter.unusedSimpArgs false
theorem ins_small (A : Option Addr) (n c : Nat) (w : World) (hn : n ≤ 1) :
    Calls Try.prog 33 #[.slice A n c, .int .i64 0, .int .i64 n, .func (Fn.func 24) #[] #[]] w fun e w' => e = .returned (.tuple #[]) ∧ w' = w := by
  go_enter Try.func33, Try.ntmps33
  go_wp2_with fail
  go_loopg [8, 9] 0 (fun kq v8 v9 w' => v8 = .int .i64 1 ∧ w' = w)
  case atStart => exact ⟨rfl, rfl⟩
  case round =>
    obtain ⟨rfl, rfl⟩ := hrel
    have d1 : decide (1 < n) = false := decide_eq_false (by omega)
    go_wp2
    go_end0; exact ⟨rfl, rfl⟩
theorem stable_small (A : Option Addr) (n c : Nat) (w : World) (hn : n ≤ 1) :
    Calls Try.prog 30 #[.slice A n c, .int .i64 n, .func (Fn.func 24) #[] #[]] w fun e w' => e = .returned (.tuple #[]) ∧ w' = w := by
  go_enter Try.func30, Try.ntmps30
  go_wp2_with fail
  go_loopg [7, 8] 0 (fun kq v7 v8 w' => v7 = .int .i64 0 ∧ v8 = .int .i64 20 ∧ w' = w)
  case atStart => exact ⟨rfl, rfl, rfl⟩
  case round =>
    obtain ⟨rfl, rfl, rfl⟩ := hrel
    have d1 : decide (20 ≤ n) = false := decide_eq_false (by omega)
    have d2 : decide (20 < n) = false := decide_eq_false (by omega)
    go_wp2_with fail
    refine (ins_small A n c wr hn).mono ?_
    rintro e w' ⟨rfl, rfl⟩
    go_wp2_with fail
    go_loopg [6, 7, 8, 9] 0 (fun kq v6 v7 v8 v9 w1 => v6 = .int .i64 20 ∧ w1 = w')
    case atStart => exact ⟨rfl, rfl⟩
    case round =>
      obtain ⟨rfl, rfl⟩ := hrel
      go_wp2
      go_end0; exact ⟨rfl, rfl⟩
theorem sort_small (A : Option Addr) (n c : Nat) (w : World) (hn : n ≤ 1) :
    Calls Try.prog 23 #[.slice A n c, .func (Fn.func 24) #[] #[]] w fun e w' => e = .returned (.tuple #[]) ∧ w' = w := by
  go_enter Try.func23, Try.ntmps23
  go_wp2_with fail
  refine (stable_small A n c w hn).mono ?_
  rintro e w' ⟨rfl, rfl⟩
  go_wp2
  go_end0; exact ⟨rfl, rfl⟩
/-- Those that are due: of one job at most. -/
def sched_Due.f (a0 : Int) (l : List S27) : Option (List S27) := if l.length ≤ 1 then (if l.all (fun x => x.f3 != 0) = true then some (l.filter fun x => dueV x a0) else none) else none
theorem sched_Due.calls (a0 : Int) (A1 : Option Addr) (c1 : Nat) (l1 : List (S27)) (r : List S27) (w : World) (hr1 : Kd.C k27 w A1 l1.length l1) (hc1 : l1.length ≤ c1) (h : sched_Due.f a0 l1 = some r) :
    Calls Try.prog 15 #[.int .i64 a0, .slice A1 l1.length c1] w fun e w' => ∃ v0_ : Value, e = .returned v0_ ∧ Kd.R k27 27 w' w.heap.size (fun _ => True) v0_ r ∧ Below w.heap.size w w' := by
  have h1 : l1.length ≤ 1 := by
    unfold sched_Due.f at h
    split at h
    · assumption
    · cases h
  have h3 : ∀ x ∈ l1, x.f3 ≠ 0 := by
    unfold sched_Due.f at h
    rw [if_pos h1] at h
    split at h
    · rename_i ha
      intro x hx
      have := List.all_eq_true.1 ha x hx
      simpa using this
    · cases h
  have he : r = l1.filter fun x => dueV x a0 := by
    unfold sched_Due.f at h
    rw [if_pos h1] at h
    split at h
    · injection h with h; exact h.symm
    · cases h
  subst he
  have HR := Aside0.mk hr1
  have H1 := Aside0.mk h1
  have H3 := Aside0.mk h3
  clear hr1 hc1 h h1 h3
  go_enter Try.func15, Try.ntmps15
  go_wp2_with fail
  refine (clone_calls A1 c1 l1 _ (Kd.C_below HR.out (below_alloc (Below.refl _ _) _)) (by have := H1.out; omega)).mono ?_
  rintro e w1 ⟨v, rfl, hv, hb⟩
  have hnow : (w.alloc (.cells #[.int .i64 a0] 2)).cell? ⟨w.heap.size, 0, none⟩ = some (.int .i64 a0) := cell_of_row _ _ _ #[.int .i64 a0] 2 (0, 0) (blk_new w _)
  have HV := Aside0.mk hv
  have HB := Aside0.mk hb
  have HN := Aside0.mk hnow
  clear hv hb hnow
  go_wp2_with fail
  refine (delete_calls l1 a0 ⟨w.heap.size, 0, none⟩ v _ w1 HV.out HB.out HN.out H3.out).mono ?_
  rintro e w2 ⟨v2, rfl, hv2, hb2⟩
  obtain ⟨A2, c2, rfl, hc2, _⟩ := Kd.R_reads hv2
  have hle : (l1.filter fun x => dueV x a0).length ≤ 1 := Nat.le_trans (List.length_filter_le _ _) H1.out
  have HV2 := Aside0.mk (Kd.R_lower hv2 (show w.heap.size ≤ (w.alloc (.cells #[.int .i64 a0] 2)).heap.size from below_size (below_alloc (Below.refl _ _) _)))
  have HB2 := Aside0.mk (below_step (below_alloc (Below.refl w.heap.size w) _) hb2)
  have HL := Aside0.mk hle
  clear hv2 hb2 hc2 hle HV HB HN
  go_wp2_with fail
  refine (sort_small A2 _ c2 w2 HL.out).mono ?_
  rintro e w3 ⟨rfl, rfl⟩
  go_wp2
  go_ret
  exact ⟨_, rfl, HV2.out, HB2.out⟩
end Go.Proofs.Ytaonabfnagmogaa.S
