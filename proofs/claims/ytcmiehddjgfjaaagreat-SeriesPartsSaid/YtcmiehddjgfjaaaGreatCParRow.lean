/- The row of the law SeriesParts: its reading opened, its walk, its plain law. Laid by a small program of this session (row.py). -/
import Derived.Test.YtcmiehddjgfjaaaGreatCPar5
import Derived.WalkKit
import Derived.ProofKit
import Derived.OpenShut
import Derived.ShutString
import Derived.ChangeOld
import Derived.Below
import Derived.SizedLaws
import Derived.DataShut
import Derived.Deep.Slices
import Derived.Deep.Strs
import Derived.Test.YtcmiehddjgfjaaaGreatRows
set_option linter.unusedVariables false
set_option linter.unusedSimpArgs false
set_option linter.unusedSectionVars false
set_option maxHeartbeats 8000000
set_option maxRecDepth 100000
namespace Go.Proofs.YtcmiehddjgfjaaaGreat.M
open Go.ChangeShapes Go.WideShapes Go.ChangeAt Go.RowKit Go.Deep
open Go.Proofs.YtcmiehddjgfjaaaGreat.A Go.Proofs.YtcmiehddjgfjaaaGreatW.PrintWords Go.Proofs.YtcmiehddjgfjaaaGreatW.PrintLast
instance : Inhabited S39 := ⟨z39⟩
theorem cells25 : Tryz.prog.cellsOf 25 = 2 := by kernel_rfl
theorem cells39 : Tryz.prog.cellsOf 39 = 3 := by kernel_rfl
theorem cells2 : Tryz.prog.cellsOf 2 = 1 := by kernel_rfl
theorem cells3 : Tryz.prog.cellsOf 3 = 1 := by kernel_rfl
abbrev valR (x : S25) : List Value := [.int .i64 x.f0, .int .i64 x.f1]
def ValOk (x : S25) : Prop := (Lit.int .i64 x.f0).wf = true ∧ (Lit.int .i64 x.f1).wf = true
theorem val_cells {H : Type} {enc : TypeId × Value → H} {W : World} {base : Nat} {sp : Nat → Bool} {fuel : Nat} {cs : List Value} {x : DataW H × List MemPlace} (h : DataW.trod enc Tryz.prog W base sp true fuel 25 cs = some x) : ∃ q : S25, cs = valR q ∧ ValOk q := by
  obtain ⟨xs, n, _, rfl, hl, hlen, hf⟩ := DataW.trod_struct Tryz.underlying25 h
  rw [cells25] at hl
  match cs, hl with
  | [v0, v1], _ =>
    have u0 : DataW.trod enc Tryz.prog W base sp true n 3 (([v0, v1].drop 0).take (Tryz.prog.cellsOf 3)) = xs[0]? := hf 0 _ rfl
    have u1 : DataW.trod enc Tryz.prog W base sp true n 2 (([v0, v1].drop 1).take (Tryz.prog.cellsOf 2)) = xs[1]? := hf 1 _ rfl
    rw [cells3] at u0
    rw [cells2] at u1
    simp only [List.drop, List.take] at u0 u1
    have ne : ∀ {j : Nat} {t : TypeId} {v : Value}, DataW.trod enc Tryz.prog W base sp true n t [v] = xs[j]? → xs.length = 2 → j < 2 → ∃ y, DataW.trod enc Tryz.prog W base sp true n t [v] = some y := by
      intro j t v hh h2 hj
      exact ⟨xs[j], by rw [hh, List.getElem?_eq_getElem]⟩
    have h2 : xs.length = 2 := hlen
    obtain ⟨y0, u0⟩ := ne u0 h2 (by omega)
    obtain ⟨y1, u1⟩ := ne u1 h2 (by omega)
    obtain ⟨s0, e0, _, w0⟩ := DataW.trod_int Tryz.underlying3 u0
    obtain ⟨s1, e1, _, w1⟩ := DataW.trod_int Tryz.underlying2 u1
    simp only [List.cons.injEq, and_true] at e0 e1
    subst e0; subst e1
    exact ⟨⟨s0, s1⟩, rfl, w0, w1⟩
abbrev ptR (x : S39) : List Value := [.int .i64 x.f0, .int .i64 x.f1.f0, .int .i64 x.f1.f1]
theorem pt_cells {H : Type} {enc : TypeId × Value → H} {W : World} {base : Nat} {sp : Nat → Bool} {fuel : Nat} {cs : List Value} {x : DataW H × List MemPlace} (h : DataW.trod enc Tryz.prog W base sp true fuel 39 cs = some x) : ∃ q : S39, cs = ptR q := by
  obtain ⟨xs, n, _, rfl, hl, hlen, hf⟩ := DataW.trod_struct Tryz.underlying39 h
  rw [cells39] at hl
  match cs, hl with
  | [v0, v1, v2], _ =>
    have u0 : DataW.trod enc Tryz.prog W base sp true n 2 (([v0, v1, v2].drop 0).take (Tryz.prog.cellsOf 2)) = xs[0]? := hf 0 _ rfl
    have u1 : DataW.trod enc Tryz.prog W base sp true n 25 (([v0, v1, v2].drop 1).take (Tryz.prog.cellsOf 25)) = xs[1]? := hf 1 _ rfl
    rw [cells2] at u0
    rw [cells25] at u1
    simp only [List.drop, List.take] at u0 u1
    have ne : ∀ {j : Nat} {t : TypeId} {v : List Value}, DataW.trod enc Tryz.prog W base sp true n t v = xs[j]? → xs.length = 2 → j < 2 → ∃ y, DataW.trod enc Tryz.prog W base sp true n t v = some y := by
      intro j t v hh h2 hj
      exact ⟨xs[j], by rw [hh, List.getElem?_eq_getElem]⟩
    have h2 : xs.length = 2 := hlen
    obtain ⟨y0, u0⟩ := ne u0 h2 (by omega)
    obtain ⟨y1, u1⟩ := ne u1 h2 (by omega)
    obtain ⟨s0, e0, _, w0⟩ := DataW.trod_int Tryz.underlying2 u0
    obtain ⟨q, hq, _⟩ := val_cells u1
    simp only [List.cons.injEq, and_true] at e0 hq
    obtain ⟨rfl, rfl⟩ := hq
    subst e0
    exact ⟨⟨s0, q⟩, rfl⟩
theorem open_points {H : Type} {enc : TypeId × Value → H} {W : World} {sp : Nat → Bool} {A : Option Addr} {len cap : Nat} {d : DataW H} {p : List MemPlace} (h : DataW.Trod enc Tryz.prog W 0 sp true 22 (.slice A len cap) d p) :
    ∃ l : List S39, l.length = len ∧ Kd.C k39 W A l.length l ∧ l.length ≤ cap ∧ True := by
  obtain ⟨fuel, h⟩ := h
  rcases open_slice Tryz.underlying22 h with ⟨hc, _⟩ | ⟨a, n, c, m, fu, D, Pl, hc, hb, hl, hm, hmm, _, hx⟩
  · simp [Value.cells] at hc
    obtain ⟨rfl, rfl, rfl⟩ := hc
    exact ⟨[], rfl, ⟨rfl, by simp, fun h => by simp at h⟩, Nat.zero_le _, trivial⟩
  · simp [Value.cells] at hc
    obtain ⟨rfl, rfl, rfl⟩ := hc
    have hlm : len ≤ m := by rw [hmm]; split <;> omega
    have each : ∀ i, i < len → ∃ q : S39, ∀ j u, (ptR q)[j]? = some u → W.cell? (a.add (i * 3 + j)) = some u := by
      intro i hi
      obtain ⟨cs', h1, h2⟩ := hx i (by omega)
      rw [cells39] at h1
      obtain ⟨_, hlen, hcell⟩ := World.cells?_some h1
      obtain ⟨q, rfl⟩ := pt_cells h2
      refine ⟨q, fun j u hu => ?_⟩
      have hj := (List.getElem?_eq_some_iff.1 hu).1
      have hc := hcell j (by simpa using hj)
      rw [Deep.add_add] at hc
      rw [hc]
      exact hu
    obtain ⟨q, hq⟩ := choose_lt each
    have hlen : ((List.range len).map q).length = len := by simp
    refine ⟨(List.range len).map q, hlen, ⟨rfl, by rw [hlen]; have : maxLen = 9223372036854775807 := rfl; omega, fun _ => ⟨a, rfl, fun j p hp => ?_⟩⟩, by rw [hlen]; omega, trivial⟩
    rw [List.getElem?_map] at hp
    obtain ⟨j', hj', rfl⟩ := Option.map_eq_some_iff.1 hp
    obtain ⟨hj1, hj2⟩ := List.getElem?_eq_some_iff.1 hj'
    rw [List.getElem_range] at hj2
    subst hj2
    rw [List.length_range] at hj1
    exact ⟨ptR (q j), rfl, k39_mk _ _, fun i u hu => hq j hj1 i u hu⟩
end Go.Proofs.YtcmiehddjgfjaaaGreat.M
namespace Go.Proofs.YtcmiehddjgfjaaaGreat.seriesParts
open Go.ChangeShapes Go.WideShapes Go.ChangeAt Go.RowKit Go.Proofs.YtcmiehddjgfjaaaGreat.A Go.Proofs.YtcmiehddjgfjaaaGreat.M Go.Proofs.YtcmiehddjgfjaaaGreatW.PrintWords
open Go.ChangeMaps (open_string shut_string)
theorem own : ownKnob Tryz.prog.godebug = none := by kernel_rfl
theorem laidOut : laidOutB Tryz.prog = true := by kernel_rfl
theorem lifted (os : Os) (started : os.Started) (H : Type) (enc : TypeId × Value → H) :
    ReturnsInHanded {} Tryz.checked os 5 .any (Rows.seriesPartsSpec.pre6 enc Tryz.prog Tryz.f5 Rows.seriesPartsRow.domain false) (Rows.seriesPartsSpec.post enc Tryz.prog Tryz.f5 false true false false) := by
  refine returnsInHanded_of_change_sized (C := Tryz.checked) own started (by kernel_rfl) Tryz.func5
    (ChangeSpec.witness6 (enc := enc) (C := Tryz.checked) false ⟨#[], #[.slice none 0 0, .slice none 0 0], []⟩ 8 (by kernel_rfl) (by kernel_rfl) (by kernel_rfl) (by kernel_rfl)) ?_
  intro W base args ds gs before hval0 hW hcnd hsz0 _
  have hsz : (DataW.weightsEach Tryz.prog (Tryz.f5.params.toList ++ Rows.seriesPartsSpec.plain.varTypes Tryz.prog) (ds ++ gs)).all (· ≤ reachBytes) = true := hsz0
  have hval : ∀ (j : Nat) t v, Tryz.f5.params[j]? = some t → args[j]? = some v → Value.okWide Tryz.prog W .any base t v := hval0
  have hW' := hW
  obtain ⟨p, q, hA0, hV, rfl, hfz, hnd⟩ := hW
  have hA : DataW.TrodAll enc Tryz.prog W 0 (fun _ => true) true Tryz.f5.params.toList args.toList ds p := hA0
  rw [Tryz.params5] at hA hval hsz
  obtain ⟨v0, vs0, d0, ds0, p0, q0, hargs, rfl, rfl, h0, r0⟩ := trodAll_cons hA
  obtain ⟨v1, vs1, d1, ds1, p1, q1, rfl, rfl, rfl, h1, r1⟩ := trodAll_cons r0
  obtain ⟨rfl, rfl, rfl⟩ := trodAll_nil r1
  obtain rfl : args = #[v0, v1] := by cases args; simp_all
  obtain ⟨rfl, rfl⟩ := trodVars_none hV
  obtain ⟨a0, len0, cap0, rfl⟩ := okWide_slice Tryz.underlying22 (hval 0 22 v0 rfl rfl)
  have lt0 : ∀ x ∈ p0, x.block < W.heap.size := by obtain ⟨m, hm⟩ := h0; exact DataW.trod_lt m _ _ _ hm
  obtain ⟨l0, e0, c0, b0, x0_0⟩ := M.open_points h0
  subst e0
  obtain ⟨a1, len1, cap1, rfl⟩ := okWide_slice Tryz.underlying22 (hval 1 22 v1 rfl rfl)
  have lt1 : ∀ x ∈ p1, x.block < W.heap.size := by obtain ⟨m, hm⟩ := h1; exact DataW.trod_lt m _ _ _ hm
  obtain ⟨l1, e1, c1, b1, x1_0⟩ := M.open_points h1
  subst e1
  clear hA0 hval0 hsz0 hsz
  obtain ⟨k, hk⟩ := (A.parts_law l0 l1).rounds
  refine (A.l10_SeriesParts.calls k a0 cap0 l0 a1 cap1 l1 true W c0 b0 c1 b1 hk).mono fun e W' ⟨he, bel⟩ => ?_
  subst he
  exact ⟨_, rfl, _, _, _, [], _, [], hW', trodAll_mk1 (shut_bool Tryz.underlying4 _), (trodAll_cons_mk (Below.trod laidOut (by kernel_rfl) (of_decide_eq_true (by kernel_rfl)) h0 bel lt0) (trodAll_cons_mk (Below.trod laidOut (by kernel_rfl) (of_decide_eq_true (by kernel_rfl)) h1 bel lt1) trodAll_mk0)), rfl, bel.frame _, fun h => by cases h⟩
theorem over : Rows.seriesPartsRow.holds Tryz.pinned (OpenSpec.ofChange Rows.seriesPartsSpec) :=
  OpenClaim.holds_of_wide 5 Tryz.f5 rfl rfl rfl rfl rfl rfl rfl ⟨rfl, rfl, rfl, rfl, rfl⟩ rfl rfl rfl rfl rfl (by kernel_rfl) Tryz.func5 (by kernel_rfl)
    (of_decide_eq_true (by kernel_rfl)) (by unfold Func.isWrapper; first | (rw [if_pos (by decide +kernel)]; kernel_rfl) | (rw [if_neg (by decide +kernel)]; exact ⟨rfl, rfl⟩))
    (fun os started H enc _ => lifted os started H enc)
theorem proved : Rows.SeriesPartsSaid := over
end Go.Proofs.YtcmiehddjgfjaaaGreat.seriesParts
namespace Go.Proofs.YtcmiehddjgfjaaaGreat
/-- The row, under a short name, for the claim. -/
theorem seriesParts_holds : Rows.SeriesPartsSaid := seriesParts.proved
end Go.Proofs.YtcmiehddjgfjaaaGreat
