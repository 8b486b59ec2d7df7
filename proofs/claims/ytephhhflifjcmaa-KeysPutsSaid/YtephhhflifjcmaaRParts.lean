/- What a list of parts that came in reads as: nil, or a row of three cells a part; its numbers are numbers of their kind. -/
import Derived.Test.YtephhhflifjcmaaRows
import Derived.Test.YtephhhflifjcmaaKx0
import Derived.Test.YtephhhflifjcmaaNEnc
import Derived.WalkKit
import Derived.ProofKit
import Derived.OpenShut
import Derived.ShutString
import Derived.ChangeOld
import Derived.Below
import Derived.SizedLaws
import Derived.DataShut
import Derived.Deep.Slices
import Derived.Deep.Strs
namespace Go.Proofs.Ytephhhflifjcmaa.M
open Go.ChangeShapes Go.WideShapes Go.ChangeAt Go.RowKit Go.Deep
open Go.Proofs.Ytephhhflifjcmaa.K Go.Proofs.YtephhhflifjcmaaW.PrintWords Go.Proofs.YtephhhflifjcmaaW.PrintLast
set_option linter.unusedVariables false
set_option linter.unusedSimpArgs false
theorem laidOut : laidOutB Try.prog = true := by kernel_rfl
theorem cells34 : Try.prog.cellsOf 34 = 3 := by kernel_rfl
instance : Inhabited S34 := ⟨z34⟩
theorem wf_i64 {n : Int} (h : (Lit.int .i64 n).wf = true) : I64 n := by
  obtain ⟨h1, h2⟩ := (Lit.wf_int_iff .i64 n).1 h
  exact ⟨h1, h2⟩
theorem open_parts {H : Type} {enc : TypeId × Value → H} {W : World} {sp : Nat → Bool} {A : Option Addr} {len cap : Nat} {d : DataW H} {p : List MemPlace} (h : DataW.Trod enc Try.prog W 0 sp true 23 (.slice A len cap) d p) :
    ∃ l : List S34, l.length = len ∧ Kd.C k34 W A l.length l ∧ l.length ≤ cap ∧ Wf l := by
  obtain ⟨fuel, h⟩ := h
  rcases open_slice Try.underlying23 h with ⟨hc, _⟩ | ⟨a, n, c, m, fu, D, Pl, hc, hb, hl, hm, hmm, _, hx⟩
  · simp [Value.cells] at hc
    obtain ⟨rfl, rfl, rfl⟩ := hc
    exact ⟨[], rfl, ⟨rfl, by simp, fun h => by simp at h⟩, Nat.zero_le _, fun p hp => by cases hp⟩
  · simp [Value.cells] at hc
    obtain ⟨rfl, rfl, rfl⟩ := hc
    have hlm : len ≤ m := by rw [hmm]; split <;> omega
    have each : ∀ i, i < len → ∃ q : S34, (W.cell? (a.add (i * 3)) = some (.int .i64 q.f0) ∧ W.cell? (a.add (i * 3 + 1)) = some (.int .i64 q.f1) ∧ W.cell? (a.add (i * 3 + 2)) = some (.string q.f2)) ∧ I64 q.f1 := by
      intro i hi
      obtain ⟨cs', h1, h2⟩ := hx i (by omega)
      rw [cells34] at h1
      obtain ⟨_, hlen, hcell⟩ := World.cells?_some h1
      obtain ⟨y0, y1, y2, k, hxy, _, u0, u1, u2⟩ := trod_struct3 Try.underlying34 h2
      match cs', hlen with
      | [v0, v1, v2], _ =>
        have c4 : Try.prog.cellsOf 3 = 1 := by kernel_rfl
        have c3 : Try.prog.cellsOf 2 = 1 := by kernel_rfl
        have c9 : Try.prog.cellsOf 9 = 1 := by kernel_rfl
        simp only [c4, c3, c9, List.drop, List.take] at u0 u1 u2
        obtain ⟨s0, e0, d0, _⟩ := DataW.trod_int Try.underlying3 u0
        obtain ⟨s1, e1, d1, w1⟩ := DataW.trod_int Try.underlying2 u1
        obtain ⟨s2, e2, d2, _⟩ := DataW.trod_string Try.underlying9 u2
        simp only [List.cons.injEq, and_true] at e0 e1 e2
        subst e0; subst e1; subst e2
        have c0 := hcell 0 (by omega)
        have c1 := hcell 1 (by omega)
        have c2 := hcell 2 (by omega)
        rw [Deep.add_add] at c0 c1 c2
        exact ⟨⟨s0, s1, s2⟩, ⟨by simpa using c0, by simpa using c1, by simpa using c2⟩, wf_i64 w1⟩
    obtain ⟨q, hq⟩ := choose_lt each
    have hlen : ((List.range len).map q).length = len := by simp
    refine ⟨(List.range len).map q, hlen, ⟨rfl, by rw [hlen]; have : maxLen = 9223372036854775807 := rfl; omega, fun _ => ⟨a, rfl, fun j p hp => ?_⟩⟩, by rw [hlen]; omega, fun p hp => ?_⟩
    · rw [List.getElem?_map] at hp
      obtain ⟨j', hj', rfl⟩ := Option.map_eq_some_iff.1 hp
      obtain ⟨hj1, hj2⟩ := List.getElem?_eq_some_iff.1 hj'
      rw [List.getElem_range] at hj2
      subst hj2
      rw [List.length_range] at hj1
      obtain ⟨⟨k0, k1, k2⟩, _⟩ := hq j hj1
      refine ⟨[.int .i64 (q j).f0, .int .i64 (q j).f1, .string (q j).f2], rfl, k34_mk _ _, fun i u hu => ?_⟩
      match i, hu with
      | 0, hu => injection hu with hu; subst hu; exact k0
      | 1, hu => injection hu with hu; subst hu; exact k1
      | 2, hu => injection hu with hu; subst hu; exact k2
      | i + 3, hu => simp at hu
    · obtain ⟨i, hi, rfl⟩ := List.mem_map.1 hp
      exact (hq i (List.mem_range.1 hi)).2
end Go.Proofs.Ytephhhflifjcmaa.M
