/- What a job that came in reads as; a list of jobs; a list of whole numbers. -/
import Derived.Test.YtaonabfnagmogaaRows
import Derived.Test.YtaonabfnagmogaaSx0
import Derived.WalkKit
import Derived.ProofKit
import Derived.OpenShut
import Derived.ShutString
import Derived.ChangeOld
import Derived.Below
import Derived.SizedLaws
import Derived.DataShut
import Derived.Deep.Slices
import Derived.Deep.Strs
namespace Go.Proofs.Ytaonabfnagmogaa.M
open Go.ChangeShapes Go.WideShapes Go.ChangeAt Go.RowKit Go.Deep
open Go.Proofs.Ytaonabfnagmogaa.S Go.Proofs.YtaonabfnagmogaaW.PrintWords Go.Proofs.YtaonabfnagmogaaW.PrintLast
set_option linter.unusedVariables false
set_option linter.unusedSimpArgs false
theorem laidOut : laidOutB Try.prog = true := by kernel_rfl
theorem cells27 : Try.prog.cellsOf 27 = 7 := by kernel_rfl
instance : Inhabited S27 := ⟨z27⟩
abbrev jobR (x : S27) : List Value := [.string x.f0, .string x.f1, .int .i64 x.f2, .int .i64 x.f3, .int .i64 x.f4, .bool x.f5, .int .i64 x.f6]
def JobOk (x : S27) : Prop := (Lit.int .i64 x.f2).wf = true ∧ (Lit.int .i64 x.f3).wf = true ∧ (Lit.int .i64 x.f4).wf = true ∧ (Lit.int .i64 x.f6).wf = true
theorem job_cells {H : Type} {enc : TypeId × Value → H} {W : World} {base : Nat} {sp : Nat → Bool} {fuel : Nat} {cs : List Value} {x : DataW H × List MemPlace} (h : DataW.trod enc Try.prog W base sp true fuel 27 cs = some x) : ∃ q : S27, cs = jobR q ∧ JobOk q := by
  obtain ⟨xs, n, _, rfl, hl, hlen, hf⟩ := DataW.trod_struct Try.underlying27 h
  rw [cells27] at hl
  have c2 : Try.prog.cellsOf 2 = 1 := by kernel_rfl
  have c4 : Try.prog.cellsOf 4 = 1 := by kernel_rfl
  have c9 : Try.prog.cellsOf 9 = 1 := by kernel_rfl
  match cs, hl with
  | [v0, v1, v2, v3, v4, v5, v6], _ =>
    have u0 : DataW.trod enc Try.prog W base sp true n 9 (([v0, v1, v2, v3, v4, v5, v6].drop 0).take (Try.prog.cellsOf 9)) = xs[0]? := hf 0 _ rfl
    have u1 : DataW.trod enc Try.prog W base sp true n 9 (([v0, v1, v2, v3, v4, v5, v6].drop 1).take (Try.prog.cellsOf 9)) = xs[1]? := hf 1 _ rfl
    have u2 : DataW.trod enc Try.prog W base sp true n 2 (([v0, v1, v2, v3, v4, v5, v6].drop 2).take (Try.prog.cellsOf 2)) = xs[2]? := hf 2 _ rfl
    have u3 : DataW.trod enc Try.prog W base sp true n 2 (([v0, v1, v2, v3, v4, v5, v6].drop 3).take (Try.prog.cellsOf 2)) = xs[3]? := hf 3 _ rfl
    have u4 : DataW.trod enc Try.prog W base sp true n 2 (([v0, v1, v2, v3, v4, v5, v6].drop 4).take (Try.prog.cellsOf 2)) = xs[4]? := hf 4 _ rfl
    have u5 : DataW.trod enc Try.prog W base sp true n 4 (([v0, v1, v2, v3, v4, v5, v6].drop 5).take (Try.prog.cellsOf 4)) = xs[5]? := hf 5 _ rfl
    have u6 : DataW.trod enc Try.prog W base sp true n 2 (([v0, v1, v2, v3, v4, v5, v6].drop 6).take (Try.prog.cellsOf 2)) = xs[6]? := hf 6 _ rfl
    rw [c9] at u0 u1
    rw [c2] at u2 u3 u4 u6
    rw [c4] at u5
    simp only [List.drop, List.take] at u0 u1 u2 u3 u4 u5 u6
    have ne : ∀ {j : Nat} {t : TypeId} {v : Value}, DataW.trod enc Try.prog W base sp true n t [v] = xs[j]? → xs.length = 7 → j < 7 → ∃ y, DataW.trod enc Try.prog W base sp true n t [v] = some y := by
      intro j t v hh h7 hj
      exact ⟨xs[j], by rw [hh, List.getElem?_eq_getElem]⟩
    have h7 : xs.length = 7 := hlen
    obtain ⟨y0, u0⟩ := ne u0 h7 (by omega)
    obtain ⟨y1, u1⟩ := ne u1 h7 (by omega)
    obtain ⟨y2, u2⟩ := ne u2 h7 (by omega)
    obtain ⟨y3, u3⟩ := ne u3 h7 (by omega)
    obtain ⟨y4, u4⟩ := ne u4 h7 (by omega)
    obtain ⟨y5, u5⟩ := ne u5 h7 (by omega)
    obtain ⟨y6, u6⟩ := ne u6 h7 (by omega)
    obtain ⟨s0, e0, _, _⟩ := DataW.trod_string Try.underlying9 u0
    obtain ⟨s1, e1, _, _⟩ := DataW.trod_string Try.underlying9 u1
    obtain ⟨s2, e2, _, w2⟩ := DataW.trod_int Try.underlying2 u2
    obtain ⟨s3, e3, _, w3⟩ := DataW.trod_int Try.underlying2 u3
    obtain ⟨s4, e4, _, w4⟩ := DataW.trod_int Try.underlying2 u4
    obtain ⟨s5, e5, _⟩ := DataW.trod_bool Try.underlying4 u5
    obtain ⟨s6, e6, _, w6⟩ := DataW.trod_int Try.underlying2 u6
    simp only [List.cons.injEq, and_true] at e0 e1 e2 e3 e4 e5 e6
    subst e0; subst e1; subst e2; subst e3; subst e4; subst e5; subst e6
    exact ⟨⟨s0, s1, s2, s3, s4, s5, s6⟩, rfl, w2, w3, w4, w6⟩
theorem open_job {H : Type} {enc : TypeId × Value → H} {W : World} {r : Reach} {b0 : Nat} {sp : Nat → Bool} {v : Value} {d : DataW H} {p : List MemPlace} (hval : Value.okWide Try.prog W r b0 27 v) (h : DataW.Trod enc Try.prog W 0 sp true 27 v d p) : ∃ x : S27, v = .agg #[.string x.f0, .string x.f1, .int .i64 x.f2, .int .i64 x.f3, .int .i64 x.f4, .bool x.f5, .int .i64 x.f6] ∧ JobOk x := by
  obtain ⟨cs, rfl, _⟩ := okWide_struct Try.underlying27 hval
  obtain ⟨fuel, h⟩ := h
  obtain ⟨q, hq, hw⟩ := job_cells h
  refine ⟨q, ?_, hw⟩
  simp only [Value.cells] at hq
  congr 1
  exact Array.ext' hq
theorem open_nums {H : Type} {enc : TypeId × Value → H} {W : World} {sp : Nat → Bool} {t : TypeId} {A : Option Addr} {len cap : Nat} {d : DataW H} {p : List MemPlace} (ht : Try.prog.underlying t = some (.slice 2)) (h : DataW.Trod enc Try.prog W 0 sp true t (.slice A len cap) d p) :
    ∃ l : List Int, l.length = len ∧ Kd.C (Kd.int .i64) W A l.length l ∧ l.length ≤ cap ∧ (∀ n ∈ l, (Lit.int .i64 n).wf = true) := by
  obtain ⟨fuel, h⟩ := h
  rcases open_ints ht Try.underlying2 (by kernel_rfl) h with ⟨hc, _⟩ | ⟨a, n, c, zs, hc, hb, hl, hm, hz, _, hcell, hwz⟩
  · simp [Value.cells] at hc
    obtain ⟨rfl, rfl, rfl⟩ := hc
    exact ⟨[], rfl, ⟨rfl, by simp, fun h => by simp at h⟩, Nat.zero_le _, fun p hp => by cases hp⟩
  · simp [Value.cells] at hc
    obtain ⟨rfl, rfl, rfl⟩ := hc
    have hlz : len ≤ zs.length := by rw [hz]; split <;> omega
    have hlen : (zs.take len).length = len := by rw [List.length_take]; omega
    refine ⟨zs.take len, hlen, ⟨rfl, by rw [hlen]; have : maxLen = 9223372036854775807 := rfl; omega, fun _ => ⟨a, rfl, fun j q hq => ?_⟩⟩, by omega, fun n hn => hwz n (List.mem_of_mem_take hn)⟩
    have hj : j < len := by
      have := (List.getElem?_eq_some_iff.1 hq).1
      omega
    rw [List.getElem?_take_of_lt hj] at hq
    refine ⟨[.int .i64 q], rfl, rfl, fun i u hu => ?_⟩
    match i, hu with
    | 0, hu =>
      injection hu with hu
      subst hu
      have := hcell j (by omega)
      rw [List.getD_eq_getElem?_getD, hq] at this
      show W.cell? (a.add (j * 1 + 0)) = _
      rw [Nat.mul_one, Nat.add_zero]
      exact this
    | i + 1, hu => simp at hu
end Go.Proofs.Ytaonabfnagmogaa.M
