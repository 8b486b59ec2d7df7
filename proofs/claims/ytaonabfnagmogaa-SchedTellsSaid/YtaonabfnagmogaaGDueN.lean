/- sched.Due, of however many jobs: those that are due, in the stable order. -/
import Derived.Test.YtaonabfnagmogaaGDue2
import Derived.Test.YtaonabfnagmogaaGSt7
import Derived.Test.YtaonabfnagmogaaStCmp
namespace Go.Proofs.Ytaonabfnagmogaa.S
open Go.RowKit Go.Proofs.YtaonabfnagmogaaW.PrintWords Go.Proofs.YtaonabfnagmogaaW.PrintLast Go.Proofs.YtaonabfnagmogaaW.PrintMore Go.Proofs.Ytaonabfnagmogaa.Stable Go.Proofs.Ytaonabfnagmogaa.St
set_option linter.unusedVariables false
set_option linter.unusedSimpArgs false
def cmpJ : S27 → S27 → Int := lexC (fun x y => cmpS x.f0 y.f0) (lexC (fun x y => cmpS x.f1 y.f1) (fun x y => cmpZ x.f2 y.f2))
theorem cmpJ3 : Cmp3 cmpJ := (cmpS3.map S27.f0).lex ((cmpS3.map S27.f1).lex (cmpZ3.map S27.f2))
theorem or3 (a b c : Int) : cmp_Or_int.f 5 [a, b, c] = some (if a = 0 then (if b = 0 then c else b) else a) := by
  simp only [cmp_Or_int.f, cmp_Or_int.l0, List.length_cons, List.length_nil]
  by_cases ha : a = 0
  · by_cases hb : b = 0
    · by_cases hc : c = 0
      · subst ha; subst hb; subst hc; simp [rd, wrap64]
      · subst ha; subst hb; simp [rd, wrap64, hc]
    · subst ha; simp [rd, wrap64, hb]
  · simp [rd, ha]
theorem due2_tells (x y : S27) : sched_Due_2.f 5 x.f0 x.f1 x.f2 x.f3 x.f4 x.f5 x.f6 y.f0 y.f1 y.f2 y.f3 y.f4 y.f5 y.f6 = some (cmpJ x y) := by
  unfold sched_Due_2.f strings_Compare.f cmp_Compare_int64.f
  simp only [Option.bind_some, or3]
  rfl
theorem cmpJ_tells : GSt.CmpTells k27 24 #[] cmpJ := by
  intro W base ok x y cs ds hx hy
  obtain rfl := k27_openM hx
  obtain rfl := k27_openM hy
  exact sched_Due_2.calls 5 _ _ _ _ _ _ _ _ _ _ _ _ _ _ _ _ (due2_tells x y)
/-- Those that are due, in the stable order. -/
def dueN (now : Int) (l : List S27) : List S27 := isort (ltOf cmpJ) (l.filter fun x => dueV x now)
def sched_DueN.f (a0 : Int) (l : List S27) : Option (List S27) := if l.length ≤ 1000000 then (if l.all (fun x => x.f3 != 0) = true then some (dueN a0 l) else none) else none
theorem sched_DueN.calls (a0 : Int) (A1 : Option Addr) (c1 : Nat) (l1 : List (S27)) (r : List S27) (w : World) (hr1 : Kd.C k27 w A1 l1.length l1) (hc1 : l1.length ≤ c1) (h : sched_DueN.f a0 l1 = some r) :
    Calls Try.prog 15 #[.int .i64 a0, .slice A1 l1.length c1] w fun e w' => ∃ v0_ : Value, e = .returned v0_ ∧ Kd.R k27 27 w' w.heap.size (fun _ => True) v0_ r ∧ Below w.heap.size w w' := by
  have h1 : l1.length ≤ 1000000 := by
    unfold sched_DueN.f at h
    split at h
    · assumption
    · cases h
  have h3 : ∀ x ∈ l1, x.f3 ≠ 0 := by
    unfold sched_DueN.f at h
    rw [if_pos h1] at h
    split at h
    · rename_i ha
      intro x hx
      have := List.all_eq_true.1 ha x hx
      simpa using this
    · cases h
  have he : r = dueN a0 l1 := by
    unfold sched_DueN.f at h
    rw [if_pos h1] at h
    split at h
    · injection h with h; exact h.symm
    · cases h
  subst he
  have HR := Aside0.mk hr1
  have H1 := Aside0.mk h1
  have H3 := Aside0.mk h3
  clear hr1 hc1 h h1 h3
  go_enter Try.func15, Try.ntmps15
  go_wp2_with fail
  refine (clone_calls A1 c1 l1 _ (Kd.C_below HR.out (below_alloc (Below.refl _ _) _)) (by have := H1.out; omega)).mono ?_
  rintro e w1 ⟨v, rfl, hv, hb⟩
  have hnow : (w.alloc (.cells #[.int .i64 a0] 2)).cell? ⟨w.heap.size, 0, none⟩ = some (.int .i64 a0) := cell_of_row _ _ _ #[.int .i64 a0] 2 (0, 0) (blk_new w _)
  have HV := Aside0.mk hv
  have HB := Aside0.mk hb
  have HN := Aside0.mk hnow
  clear hv hb hnow
  go_wp2_with fail
  refine (delete_calls l1 a0 ⟨w.heap.size, 0, none⟩ v _ w1 HV.out HB.out HN.out H3.out).mono ?_
  rintro e w2 ⟨v2, rfl, hv2, hb2⟩
  obtain ⟨A2, c2, rfl, hc2, _⟩ := Kd.R_reads hv2
  have hle : (l1.filter fun x => dueV x a0).length < 1152921504606846976 := by have := List.length_filter_le (fun x => dueV x a0) l1; have := H1.out; omega
  have HV2 := Aside0.mk (Kd.R_lower hv2 (show w.heap.size ≤ (w.alloc (.cells #[.int .i64 a0] 2)).heap.size from below_size (below_alloc (Below.refl _ _) _)))
  have HB2 := Aside0.mk (below_step (below_alloc (Below.refl w.heap.size w) _) hb2)
  have HL := Aside0.mk hle
  clear hv2 hb2 hc2 hle HV HB HN
  go_wp2_with fail
  refine (GSt.sortStable_R k27 (by decide) Try.sizeOf27 cmpJ 24 #[] (enters_of Try.func24 (by kernel_rfl) rfl) cmpJ3.ord cmpJ_tells HV2.out HL.out).mono ?_
  rintro e w3 ⟨rfl, hv3, hb3⟩
  have HV3 := Aside0.mk hv3
  have HB3 := Aside0.mk hb3
  clear hv3 hb3
  go_wp2
  go_ret
  exact ⟨_, rfl, HV3.out, HB2.out.trans HB3.out⟩
end Go.Proofs.Ytaonabfnagmogaa.S
