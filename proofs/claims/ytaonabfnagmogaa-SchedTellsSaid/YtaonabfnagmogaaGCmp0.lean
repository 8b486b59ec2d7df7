/- cmp.Compare at int64, and strings.Compare, in the printed form. -/
import Derived.Test.YtaonabfnagmogaaSx0
import Derived.Shelf.Small.Strs
import Derived.Test.YtaonabfnagmogaaShelf2
namespace Go.Proofs.Ytaonabfnagmogaa.S
open Go.RowKit Go.Proofs.YtaonabfnagmogaaW.PrintWords Go.Proofs.YtaonabfnagmogaaW.PrintLast Go.Proofs.YtaonabfnagmogaaW.PrintMore
def cmpI (x y : Int) : Int := if x < y then -1 else if y < x then 1 else 0
def cmp_Compare_int64.f (a0 a1 : Int) : Option Int := some (cmpI a0 a1)
def strings_Compare.f (a0 a1 : ByteArray) : Option Int := some (Lib.compareBytes a0.data.toList a1.data.toList)
theorem cmp_Compare_int64.calls (a0 a1 r : Int) (w : World) (h : cmp_Compare_int64.f a0 a1 = some r) :
    Calls Try.prog 27 #[.int .i64 a0, .int .i64 a1] w fun e w' => e = .returned (.int .i64 r) ∧ Drawn0 w w' := by
  obtain rfl := Option.some.inj h
  clear h
  by_cases h1 : a0 < a1
  · have e : cmpI a0 a1 = -1 := by unfold cmpI; rw [if_pos h1]
    rw [e]
    clear e
    go_enter Try.func27, Try.ntmps27
    go_wp2
    go_ret
    exact ⟨rfl, Drawn0.refl _⟩
  · by_cases h2 : a1 < a0
    · have e : cmpI a0 a1 = 1 := by unfold cmpI; rw [if_neg h1, if_pos h2]
      rw [e]
      clear e
      go_enter Try.func27, Try.ntmps27
      go_wp2
      go_ret
      exact ⟨rfl, Drawn0.refl _⟩
    · have e : cmpI a0 a1 = 0 := by unfold cmpI; rw [if_neg h1, if_neg h2]
      rw [e]
      clear e
      go_enter Try.func27, Try.ntmps27
      go_wp2
      go_ret
      exact ⟨rfl, Drawn0.refl _⟩
theorem strings_Compare.calls (a0 a1 : ByteArray) (r : Int) (w : World) (h : strings_Compare.f a0 a1 = some r) :
    Calls Try.prog 26 #[.string a0, .string a1] w fun e w' => e = .returned (.int .i64 r) ∧ Drawn0 w w' := by
  obtain rfl := Option.some.inj h
  refine (H.strings_Compare a0 a1 w).mono ?_
  rintro e w' ⟨rfl, rfl⟩
  exact ⟨rfl, Drawn0.refl _⟩
end Go.Proofs.Ytaonabfnagmogaa.S
