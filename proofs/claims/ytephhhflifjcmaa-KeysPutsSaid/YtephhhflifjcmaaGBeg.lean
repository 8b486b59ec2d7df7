/- klaxonref07.Begins in the printed form: the first parts of a list are those of another one. -/
import Derived.Test.YtephhhflifjcmaaKx7
namespace Go.Proofs.Ytephhhflifjcmaa.K
open Go.RowKit Go.Proofs.YtephhhflifjcmaaW.PrintWords Go.Proofs.YtephhhflifjcmaaW.PrintLast Go.Proofs.YtephhhflifjcmaaW.PrintMore
set_option linter.unusedVariables false
set_option linter.unusedSimpArgs false
def klaxonref07_Begins.f (k : Nat) (l0 l1 : List S34) : Option Bool := if l1.length ≤ l0.length then klaxonref07_Same.f k (l0.take l1.length) l1 else some false
theorem klaxonref07_Begins.mono : ∀ a0 a1 k, LeO (klaxonref07_Begins.f k a0 a1) (klaxonref07_Begins.f (k + 1) a0 a1) := by
  intro a0 a1 k
  unfold klaxonref07_Begins.f
  exact LeO.ite (klaxonref07_Same.mono _ _ _) (LeO.refl _)
set_option maxHeartbeats 2000000 in
set_option maxRecDepth 100000 in
theorem klaxonref07_Begins.calls (k : Nat) (A0 : Option Addr) (c0 : Nat) (l0 : List (S34)) (A1 : Option Addr) (c1 : Nat) (l1 : List (S34)) (r : Bool) (w : World) (hr0 : Kd.C k34 w A0 l0.length l0) (hc0 : l0.length ≤ c0) (hr1 : Kd.C k34 w A1 l1.length l1) (hc1 : l1.length ≤ c1) (h : klaxonref07_Begins.f k l0 l1 = some r) :
    Calls Try.prog 12 #[.slice A0 l0.length c0, .slice A1 l1.length c1] w fun e w' => e = .returned (.bool r) ∧ Drawn0 w w' := by
  have hm0 : l0.length ≤ 9223372036854775807 := Kd.C_max hr0
  have hm1 : l1.length ≤ 9223372036854775807 := Kd.C_max hr1
  have HR0 := Aside0.mk hr0
  have HR1 := Aside0.mk hr1
  have HC1 := Aside0.mk hc1
  clear hr0 hr1 hc1
  unfold klaxonref07_Begins.f at h
  by_cases hle : l1.length ≤ l0.length
  · rw [if_pos hle] at h
    have hlc : l1.length ≤ c0 := by omega
    have hl : (l0.take l1.length).length = l1.length := by rw [List.length_take]; omega
    have HT := Kd.C_take HR0.out hle
    have H := Aside0.mk h
    have HC := Aside0.mk (show Calls Try.prog 19 #[.slice A0 l1.length c0, .slice A1 l1.length c1] w fun e w' => e = .returned (.bool r) ∧ Drawn0 w w' from by
      have := klaxonref07_Same.calls k A0 c0 (l0.take l1.length) A1 c1 l1 r w HT (by omega) HR1.out HC1.out h
      rwa [hl] at this)
    clear h HT hl
    go_enter Try.func12, Try.ntmps12
    go_wp2_with fail
    · refine HC.out.mono ?_
      rintro e w' ⟨rfl, ⟨n, rfl⟩⟩
      go_wp2
      go_ret
      exact ⟨rfl, ⟨n, rfl⟩⟩
    · have e : l1.length = l0.length := by omega
      refine (calls_of_args (args := #[.slice A0 l0.length c0, .slice A1 l1.length c1]) (by rw [e]) HC.out).mono ?_
      clear e
      rintro e w' ⟨rfl, ⟨n, rfl⟩⟩
      go_wp2
      go_ret
      exact ⟨rfl, ⟨n, rfl⟩⟩
  · rw [if_neg hle] at h
    obtain rfl := Option.some.inj h
    have d : decide ((l1.length : Int) ≤ (l0.length : Int)) = false := decide_eq_false (by omega)
    clear h
    go_enter Try.func12, Try.ntmps12
    go_wp2
    go_ret
    exact ⟨rfl, Drawn0.refl _⟩
end Go.Proofs.Ytephhhflifjcmaa.K
