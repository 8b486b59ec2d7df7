/- What a list of jobs that came in reads as. -/
import Derived.Test.YtaonabfnagmogaaRJobs
namespace Go.Proofs.Ytaonabfnagmogaa.M
open Go.ChangeShapes Go.WideShapes Go.ChangeAt Go.RowKit Go.Deep
open Go.Proofs.Ytaonabfnagmogaa.S Go.Proofs.YtaonabfnagmogaaW.PrintWords Go.Proofs.YtaonabfnagmogaaW.PrintLast
set_option linter.unusedVariables false
set_option linter.unusedSimpArgs false
theorem open_jobs {H : Type} {enc : TypeId × Value → H} {W : World} {sp : Nat → Bool} {A : Option Addr} {len cap : Nat} {d : DataW H} {p : List MemPlace} (h : DataW.Trod enc Try.prog W 0 sp true 22 (.slice A len cap) d p) :
    ∃ l : List S27, l.length = len ∧ Kd.C k27 W A l.length l ∧ l.length ≤ cap ∧ True := by
  obtain ⟨fuel, h⟩ := h
  rcases open_slice Try.underlying22 h with ⟨hc, _⟩ | ⟨a, n, c, m, fu, D, Pl, hc, hb, hl, hm, hmm, _, hx⟩
  · simp [Value.cells] at hc
    obtain ⟨rfl, rfl, rfl⟩ := hc
    exact ⟨[], rfl, ⟨rfl, by simp, fun h => by simp at h⟩, Nat.zero_le _, trivial⟩
  · simp [Value.cells] at hc
    obtain ⟨rfl, rfl, rfl⟩ := hc
    have hlm : len ≤ m := by rw [hmm]; split <;> omega
    have each : ∀ i, i < len → ∃ q : S27, ∀ j u, (jobR q)[j]? = some u → W.cell? (a.add (i * 7 + j)) = some u := by
      intro i hi
      obtain ⟨cs', h1, h2⟩ := hx i (by omega)
      rw [cells27] at h1
      obtain ⟨_, hlen, hcell⟩ := World.cells?_some h1
      obtain ⟨q, rfl, _⟩ := job_cells h2
      refine ⟨q, fun j u hu => ?_⟩
      have hj := (List.getElem?_eq_some_iff.1 hu).1
      have hc := hcell j (by simpa using hj)
      rw [Deep.add_add] at hc
      rw [hc]
      exact hu
    obtain ⟨q, hq⟩ := choose_lt each
    have hlen : ((List.range len).map q).length = len := by simp
    refine ⟨(List.range len).map q, hlen, ⟨rfl, by rw [hlen]; have : maxLen = 9223372036854775807 := rfl; omega, fun _ => ⟨a, rfl, fun j p hp => ?_⟩⟩, by rw [hlen]; omega, trivial⟩
    rw [List.getElem?_map] at hp
    obtain ⟨j', hj', rfl⟩ := Option.map_eq_some_iff.1 hp
    obtain ⟨hj1, hj2⟩ := List.getElem?_eq_some_iff.1 hj'
    rw [List.getElem_range] at hj2
    subst hj2
    rw [List.length_range] at hj1
    exact ⟨jobR (q j), rfl, k27_mk _ _, fun i u hu => hq j hj1 i u hu⟩
end Go.Proofs.Ytaonabfnagmogaa.M
