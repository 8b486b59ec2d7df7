/- The row of the law SeriesJoins: its reading opened, its walk, its plain law. Laid by a small program of this session (row.py). -/
import Derived.Test.YtcmiehddjgfjaaaGreatCJns5
import Derived.WalkKit
import Derived.ProofKit
import Derived.OpenShut
import Derived.ShutString
import Derived.ChangeOld
import Derived.Below
import Derived.SizedLaws
import Derived.DataShut
import Derived.Deep.Slices
import Derived.Deep.Strs
import Derived.Test.YtcmiehddjgfjaaaGreatRows
set_option linter.unusedVariables false
set_option linter.unusedSimpArgs false
set_option linter.unusedSectionVars false
set_option maxHeartbeats 8000000
set_option maxRecDepth 100000
namespace Go.Proofs.YtcmiehddjgfjaaaGreat.M
open Go.ChangeShapes Go.WideShapes Go.ChangeAt Go.RowKit Go.Deep
open Go.Proofs.YtcmiehddjgfjaaaGreat.A Go.Proofs.YtcmiehddjgfjaaaGreatW.PrintWords Go.Proofs.YtcmiehddjgfjaaaGreatW.PrintLast
instance : Inhabited S39 := ⟨z39⟩
theorem cells25 : Tryz.prog.cellsOf 25 = 2 := by kernel_rfl
theorem cells2 : Tryz.prog.cellsOf 2 = 1 := by kernel_rfl
theorem cells3 : Tryz.prog.cellsOf 3 = 1 := by kernel_rfl
abbrev valR (x : S25) : List Value := [.int .i64 x.f0, .int .i64 x.f1]
def ValOk (x : S25) : Prop := (Lit.int .i64 x.f0).wf = true ∧ (Lit.int .i64 x.f1).wf = true
theorem val_cells {H : Type} {enc : TypeId × Value → H} {W : World} {base : Nat} {sp : Nat → Bool} {fuel : Nat} {cs : List Value} {x : DataW H × List MemPlace} (h : DataW.trod enc Tryz.prog W base sp true fuel 25 cs = some x) : ∃ q : S25, cs = valR q ∧ ValOk q := by
 obtain ⟨xs, n, _, rfl, hl, hlen, hf⟩ := DataW.trod_struct Tryz.underlying25 h
 rw [cells25] at hl
 match cs, hl with
 | [v0, v1], _ =>
  have u0 : DataW.trod enc Tryz.prog W base sp true n 3 (([v0, v1].drop 0).take (Tryz.prog.cellsOf 3)) = xs[0]? := hf 0 _ rfl
  have u1 : DataW.trod enc Tryz.prog W base sp true n 2 (([v0, v1].drop 1).take (Tryz.prog.cellsOf 2)) = xs[1]? := hf 1 _ rfl
  rw [cells3] at u0
  rw [cells2] at u1
  simp only [List.drop, List.take] at u0 u1
  have ne : ∀ {j : Nat} {t : TypeId} {v : Value}, DataW.trod enc Tryz.prog W base sp true n t [v] = xs[j]? → xs.length = 2 → j < 2 → ∃ y, DataW.trod enc Tryz.prog W base sp true n t [v] = some y := by
   intro j t v hh h2 hj
   exact ⟨xs[j], by rw [hh, List.getElem?_eq_getElem]⟩
  have h2 : xs.length = 2 := hlen
  obtain ⟨y0, u0⟩ := ne u0 h2 (by omega)
  obtain ⟨y1, u1⟩ := ne u1 h2 (by omega)
  obtain ⟨s0, e0, _, w0⟩ := DataW.trod_int Tryz.underlying3 u0
  obtain ⟨s1, e1, _, w1⟩ := DataW.trod_int Tryz.underlying2 u1
  simp only [List.cons.injEq, and_true] at e0 e1
  subst e0; subst e1
  exact ⟨⟨s0, s1⟩, rfl, w0, w1⟩
theorem open_val {H : Type} {enc : TypeId × Value → H} {W : World} {r : Reach} {b0 : Nat} {sp : Nat → Bool} {v : Value} {d : DataW H} {p : List MemPlace} (hval : Value.okWide Tryz.prog W r b0 25 v) (h : DataW.Trod enc Tryz.prog W 0 sp true 25 v d p) : ∃ x : S25, v = .agg #[.int .i64 x.f0, .int .i64 x.f1] ∧ ValOk x := by
 obtain ⟨cs, rfl, _⟩ := okWide_struct Tryz.underlying25 hval
 obtain ⟨fuel, h⟩ := h
 obtain ⟨q, hq, hw⟩ := val_cells h
 refine ⟨q, ?_, hw⟩
 simp only [Value.cells] at hq
 congr 1
 exact Array.ext' hq
instance : Inhabited S62 := ⟨⟨ByteArray.empty, ByteArray.empty⟩⟩
instance : Inhabited S37 := ⟨⟨[], ⟨0, 0⟩⟩⟩
theorem cells37 : Tryz.prog.cellsOf 37 = 3 := by kernel_rfl
theorem cells62 : Tryz.prog.cellsOf 62 = 2 := by kernel_rfl
theorem cells35 : Tryz.prog.cellsOf 35 = 1 := by kernel_rfl
theorem cells9 : Tryz.prog.cellsOf 9 = 1 := by kernel_rfl
theorem bytes37 : Tryz.prog.bytesOf 37 = 40 := by kernel_rfl
theorem bytes62 : Tryz.prog.bytesOf 62 = 32 := by kernel_rfl
section
variable {H : Type} {P : Program} {enc : TypeId × Value → H} {W : World} {base : Nat} {sp : Nat → Bool} {fuel : Nat}
/-- Nothing of the reading is beyond what memory holds. -/
def Lim (P : Program) (t : TypeId) (d : DataW H) : Prop := ∀ n ∈ d.weights P t, n ≤ reachBytes
theorem lim_of {ts : List TypeId} {ds : List (DataW H)} (hsz : (DataW.weightsEach P ts ds).all (· ≤ reachBytes) = true) {j : Nat} {t : TypeId} {d : DataW H} (ht : ts[j]? = some t) (hd : ds[j]? = some d) : Lim P t d := fun n hn => by
 have := List.all_eq_true.1 hsz n (DataW.weights_mem_each ht hd n hn)
 simpa using this
theorem all_mem {e : TypeId} : ∀ {l : List (DataW H)} {d : DataW H}, d ∈ l → ∀ n ∈ d.weights P e, n ∈ DataW.weightsAll P e l
 | x :: l, d, h, n, hn => by
  rw [DataW.weightsAll]
  rcases List.mem_cons.1 h with rfl | h
  ·exact List.mem_append_left _ hn
  ·exact List.mem_append_right _ (all_mem h n hn)
theorem Lim.len {t e : TypeId} {elems spare : List (DataW H)} (h : Lim P t (.slice elems spare)) (hu : P.underlying t = some (.slice e)) : elems.length * P.bytesOf e ≤ reachBytes := by
 have := h ((elems.length + spare.length) * P.bytesOf e) (by simp [DataW.weights, hu])
 exact Nat.le_trans (Nat.mul_le_mul_right _ (Nat.le_add_right _ _)) this
theorem Lim.elem {t e : TypeId} {elems spare : List (DataW H)} (h : Lim P t (.slice elems spare)) (hu : P.underlying t = some (.slice e)) {d : DataW H} (hd : d ∈ elems) : Lim P e d := fun n hn => h n (by
 simp only [DataW.weights, hu]
 exact List.mem_cons_of_mem _ (List.mem_append_left _ (all_mem hd n hn)))
theorem Lim.part {t u : TypeId} {fs : Array Field} {parts : List (DataW H)} (h : Lim P t (.agg parts)) (hu : P.underlying t = some (.struct fs)) {j : Nat} {d : DataW H} (hf : (fs.toList.map (·.type))[j]? = some u) (hd : parts[j]? = some d) : Lim P u d := fun n hn => h n (by
 simp only [DataW.weights, hu]
 exact DataW.weights_mem_each hf hd n hn)
theorem Lim.str {t : TypeId} {b : List UInt8} (h : Lim P t (.lit (.string b) : DataW H)) : b.length ≤ reachBytes := h _ (by simp [DataW.weights])
end
section
variable {H : Type} {enc : TypeId × Value → H} {W : World} {base : Nat} {sp : Nat → Bool} {fuel : Nat}
theorem lab_cells {cs : List Value} {x : DataW H × List MemPlace} (h : DataW.trod enc Tryz.prog W base sp true fuel 62 cs = some x) (hl : Lim Tryz.prog 62 x.1) : ∃ q : S62, cs = [.string q.f0, .string q.f1] ∧ LabOk q := by
 obtain ⟨xs, n, _, rfl, hlen, hxl, hf⟩ := DataW.trod_struct Tryz.underlying62 h
 rw [cells62] at hlen
 match cs, hlen with
 | [v0, v1], _ =>
  have u0 : DataW.trod enc Tryz.prog W base sp true n 9 (([v0, v1].drop 0).take (Tryz.prog.cellsOf 9)) = xs[0]? := hf 0 _ rfl
  have u1 : DataW.trod enc Tryz.prog W base sp true n 9 (([v0, v1].drop 1).take (Tryz.prog.cellsOf 9)) = xs[1]? := hf 1 _ rfl
  rw [cells9] at u0 u1
  simp only [List.drop, List.take] at u0 u1
  match xs, hxl with
  | [y0, y1], _ =>
   obtain ⟨s0, e0, e0', w0⟩ := DataW.trod_string Tryz.underlying9 (u0.trans rfl)
   obtain ⟨s1, e1, e1', w1⟩ := DataW.trod_string Tryz.underlying9 (u1.trans rfl)
   simp only [List.cons.injEq, and_true] at e0 e1
   subst e0; subst e1; subst e0'
   have hs := Lim.str (P := Tryz.prog) (t := 9) (hl.part Tryz.underlying62 (j := 0) (u := 9) rfl rfl)
   refine ⟨⟨s0, s1⟩, rfl, ?_⟩
   have e2 : s0.data.toList.length = s0.size := by rw [Array.length_toList]; rfl
   rw [e2] at hs
   have : reachBytes = 140737488351232 := rfl
   show s0.size < 9223372036854775807
   omega
theorem lb_cell {v : Value} {x : DataW H × List MemPlace} (h : DataW.trod enc Tryz.prog W base sp true fuel 35 [v] = some x) (hl : Lim Tryz.prog 35 x.1) : ∃ (A0 : Option Addr) (c0 : Nat) (l : List S62), v = .slice A0 l.length c0 ∧ l.length ≤ c0 ∧ Kd.C k62 W A0 l.length l ∧ l.length < 4398046511104 ∧ LabsOk l := by
 rcases open_slice Tryz.underlying35 h with ⟨hc, _⟩ | ⟨a, len, cap, m, fu, D, Pl, hc, hb, hle, hm, hmm, hd2, hx⟩
 ·simp only [List.cons.injEq, and_true] at hc
  subst hc
  exact ⟨none, 0, [], rfl, Nat.zero_le _, ⟨rfl, by simp, fun h => by simp at h⟩, by simp, by simp, fun x hx => by simp at hx⟩
 ·simp only [List.cons.injEq, and_true] at hc
  subst hc
  have hlm : len ≤ m := by rw [hmm]; split <;> omega
  rw [hd2] at hl
  have hb := hl.len Tryz.underlying35
  rw [bytes62, List.length_map, List.length_range] at hb
  have hr : reachBytes = 140737488351232 := rfl
  have each : ∀ i, i < len → ∃ q : S62, (∀ j u, [Value.string q.f0, Value.string q.f1][j]? = some u → W.cell? (a.add (i * 2 + j)) = some u) ∧ LabOk q := by
   intro i hi
   obtain ⟨cs', h1, h2⟩ := hx i (by omega)
   rw [cells62] at h1
   obtain ⟨_, hlen, hcell⟩ := World.cells?_some h1
   obtain ⟨q, rfl, hq⟩ := lab_cells h2 (hl.elem Tryz.underlying35 (List.mem_map.2 ⟨i, List.mem_range.2 hi, rfl⟩))
   refine ⟨q, fun j u hu => ?_, hq⟩
   have hj := (List.getElem?_eq_some_iff.1 hu).1
   have hc := hcell j (by simpa using hj)
   rw [Deep.add_add] at hc
   rw [hc]
   exact hu
  obtain ⟨q, hq⟩ := choose_lt each
  have hlen : ((List.range len).map q).length = len := by simp
  refine ⟨some a, cap, (List.range len).map q, by rw [hlen], by rw [hlen]; exact hle, ⟨rfl, by rw [hlen]; omega, fun _ => ⟨a, rfl, fun j p hp => ?_⟩⟩, by rw [hlen]; omega, by rw [hlen]; omega, fun x hx => ?_⟩
  ·rw [List.getElem?_map] at hp
   obtain ⟨j', hj', rfl⟩ := Option.map_eq_some_iff.1 hp
   obtain ⟨hj1, hj2⟩ := List.getElem?_eq_some_iff.1 hj'
   rw [List.getElem_range] at hj2
   subst hj2
   rw [List.length_range] at hj1
   exact ⟨[.string (q j).f0, .string (q j).f1], rfl, k62_mk _ _, fun i u hu => (hq j hj1).1 i u hu⟩
  ·obtain ⟨i, hi, rfl⟩ := List.mem_map.1 hx
   exact (hq i (List.mem_range.1 hi)).2
theorem ser_cells {cs : List Value} {x : DataW H × List MemPlace} (h : DataW.trod enc Tryz.prog W base sp true fuel 37 cs = some x) (hl : Lim Tryz.prog 37 x.1) : ∃ q : S37, k37.K W q cs ∧ cs.length = 3 ∧ q.f0.length < 4398046511104 ∧ LabsOk q.f0 := by
 obtain ⟨xs, n, _, rfl, hlen, hxl, hf⟩ := DataW.trod_struct Tryz.underlying37 h
 rw [cells37] at hlen
 match cs, hlen with
 | [v0, v1, v2], _ =>
  have u0 : DataW.trod enc Tryz.prog W base sp true n 35 (([v0, v1, v2].drop 0).take (Tryz.prog.cellsOf 35)) = xs[0]? := hf 0 _ rfl
  have u1 : DataW.trod enc Tryz.prog W base sp true n 25 (([v0, v1, v2].drop 1).take (Tryz.prog.cellsOf 25)) = xs[1]? := hf 1 _ rfl
  rw [cells35] at u0
  rw [cells25] at u1
  simp only [List.drop, List.take] at u0 u1
  match xs, hxl with
  | [y0, y1], _ =>
   obtain ⟨A0, c0, l, rfl, hc0, hC, h1, h2⟩ := lb_cell (u0.trans rfl) (hl.part Tryz.underlying37 (j := 0) (u := 35) rfl rfl)
   obtain ⟨q, hq, _⟩ := val_cells (u1.trans rfl)
   simp only [List.cons.injEq, and_true] at hq
   obtain ⟨rfl, rfl⟩ := hq
   exact ⟨⟨l, q⟩, k37_mk W (⟨l, q⟩ : S37) hc0 hC, rfl, h1, h2⟩
end
/-- A list of series that came in. -/
theorem open_series {H : Type} {enc : TypeId × Value → H} {W : World} {sp : Nat → Bool} {ts : List TypeId} {ds : List (DataW H)} (hsz : (DataW.weightsEach Tryz.prog ts ds).all (· ≤ reachBytes) = true) {A : Option Addr} {len cap : Nat} {d : DataW H} {p : List MemPlace} {j : Nat} {t : TypeId} (ht : ts[j]? = some t) (hd : ds[j]? = some d) (hu : Tryz.prog.underlying t = some (.slice 37)) (h : DataW.Trod enc Tryz.prog W 0 sp true t (.slice A len cap) d p) :
  ∃ l : List S37, l.length = len ∧ Kd.C k37 W A l.length l ∧ l.length ≤ cap ∧ SersOk l := by
 obtain ⟨fuel, h⟩ := h
 have hl := lim_of hsz ht hd
 rcases open_slice hu h with ⟨hc, _⟩ | ⟨a, n, c, m, fu, D, Pl, hc, hb, hle, hm, hmm, hd2, hx⟩
 ·simp [Value.cells] at hc
  obtain ⟨rfl, rfl, rfl⟩ := hc
  exact ⟨[], rfl, ⟨rfl, by simp, fun h => by simp at h⟩, Nat.zero_le _, by simp, fun x hx => by simp at hx⟩
 ·simp [Value.cells] at hc
  obtain ⟨rfl, rfl, rfl⟩ := hc
  have hlm : len ≤ m := by rw [hmm]; split <;> omega
  have e1 : d = .slice ((List.range len).map D) ((List.range (m - len)).map fun j => D (len + j)) := congrArg Prod.fst hd2
  rw [e1] at hl
  have hb := hl.len hu
  rw [bytes37, List.length_map, List.length_range] at hb
  have hr : reachBytes = 140737488351232 := rfl
  have each : ∀ i, i < len → ∃ q : S37, ∃ cs : List Value, k37.K W q cs ∧ cs.length = 3 ∧ (∀ j u, cs[j]? = some u → W.cell? (a.add (i * 3 + j)) = some u) ∧ q.f0.length < 4398046511104 ∧ LabsOk q.f0 := by
   intro i hi
   obtain ⟨cs', h1, h2⟩ := hx i (by omega)
   rw [cells37] at h1
   obtain ⟨_, hlen, hcell⟩ := World.cells?_some h1
   obtain ⟨q, hk, h3, h4, h5⟩ := ser_cells h2 (hl.elem hu (List.mem_map.2 ⟨i, List.mem_range.2 hi, rfl⟩))
   refine ⟨q, cs', hk, h3, fun j u hu => ?_, h4, h5⟩
   have hj := (List.getElem?_eq_some_iff.1 hu).1
   have hc := hcell j (by omega)
   rw [Deep.add_add] at hc
   rw [hc]
   exact hu
  obtain ⟨q, hq⟩ := choose_lt each
  have hlen : ((List.range len).map q).length = len := by simp
  refine ⟨(List.range len).map q, hlen, ⟨rfl, by rw [hlen]; omega, fun _ => ⟨a, rfl, fun j p hp => ?_⟩⟩, by rw [hlen]; omega, by rw [hlen]; omega, fun x hx => ?_⟩
  ·rw [List.getElem?_map] at hp
   obtain ⟨j', hj', rfl⟩ := Option.map_eq_some_iff.1 hp
   obtain ⟨hj1, hj2⟩ := List.getElem?_eq_some_iff.1 hj'
   rw [List.getElem_range] at hj2
   subst hj2
   rw [List.length_range] at hj1
   obtain ⟨cs, hk, h3, hcell, _⟩ := hq j hj1
   exact ⟨cs, h3, hk, fun i u hu => hcell i u hu⟩
  ·obtain ⟨i, hi, rfl⟩ := List.mem_map.1 hx
   obtain ⟨_, _, _, _, h4, h5⟩ := hq i (List.mem_range.1 hi)
   exact ⟨h4, h5⟩
end Go.Proofs.YtcmiehddjgfjaaaGreat.M
namespace Go.Proofs.YtcmiehddjgfjaaaGreat.seriesJoins
open Go.ChangeShapes Go.WideShapes Go.ChangeAt Go.RowKit Go.Proofs.YtcmiehddjgfjaaaGreat.A Go.Proofs.YtcmiehddjgfjaaaGreat.M Go.Proofs.YtcmiehddjgfjaaaGreatW.PrintWords
open Go.ChangeMaps (open_string shut_string)
theorem own : ownKnob Tryz.prog.godebug = none := by kernel_rfl
theorem laidOut : laidOutB Tryz.prog = true := by kernel_rfl
theorem lifted (os : Os) (started : os.Started) (H : Type) (enc : TypeId × Value → H) :
  ReturnsInHanded {} Tryz.checked os 8 .any (Rows.seriesJoinsSpec.pre6 enc Tryz.prog Tryz.f8 Rows.seriesJoinsRow.domain false) (Rows.seriesJoinsSpec.post enc Tryz.prog Tryz.f8 false true false false) := by
 refine returnsInHanded_of_change_sized (C := Tryz.checked) own started (by kernel_rfl) Tryz.func8
  (ChangeSpec.witness6 (enc := enc) (C := Tryz.checked) false ⟨#[], #[.string ByteArray.empty, .slice none 0 0, .slice none 0 0, .agg #[.int .i64 0, .int .i64 0]], []⟩ 8 (by kernel_rfl) (by kernel_rfl) (by kernel_rfl) (by kernel_rfl)) ?_
 intro W base args ds gs before hval0 hW hcnd hsz0 _
 have hsz : (DataW.weightsEach Tryz.prog (Tryz.f8.params.toList ++ Rows.seriesJoinsSpec.plain.varTypes Tryz.prog) (ds ++ gs)).all (· ≤ reachBytes) = true := hsz0
 have hval : ∀ (j : Nat) t v, Tryz.f8.params[j]? = some t → args[j]? = some v → Value.okWide Tryz.prog W .any base t v := hval0
 have hW' := hW
 obtain ⟨p, q, hA0, hV, rfl, hfz, hnd⟩ := hW
 have hA : DataW.TrodAll enc Tryz.prog W 0 (fun _ => true) true Tryz.f8.params.toList args.toList ds p := hA0
 rw [Tryz.params8] at hA hval hsz
 obtain ⟨v0, vs0, d0, ds0, p0, q0, hargs, rfl, rfl, h0, r0⟩ := trodAll_cons hA
 obtain ⟨v1, vs1, d1, ds1, p1, q1, rfl, rfl, rfl, h1, r1⟩ := trodAll_cons r0
 obtain ⟨v2, vs2, d2, ds2, p2, q2, rfl, rfl, rfl, h2, r2⟩ := trodAll_cons r1
 obtain ⟨v3, vs3, d3, ds3, p3, q3, rfl, rfl, rfl, h3, r3⟩ := trodAll_cons r2
 obtain ⟨rfl, rfl, rfl⟩ := trodAll_nil r3
 obtain rfl : args = #[v0, v1, v2, v3] := by cases args; simp_all
 obtain ⟨rfl, rfl⟩ := trodVars_none hV
 obtain ⟨a0, rfl, rfl, rfl, y0⟩ := open_string Tryz.underlying9 (hval 0 9 v0 rfl rfl) h0
 have w0 : a0.size ≤ 140737488351232 := by
  have z := sized_string hsz (j := 0) (t := 9) rfl rfl
  rw [Array.length_toList] at z
  exact z
 obtain ⟨a1, len1, cap1, rfl⟩ := okWide_slice Tryz.underlying33 (hval 1 33 v1 rfl rfl)
 have lt1 : ∀ x ∈ p1, x.block < W.heap.size := by obtain ⟨m, hm⟩ := h1; exact DataW.trod_lt m _ _ _ hm
 obtain ⟨l1, e1, c1, b1, x1_0⟩ := M.open_series hsz (j := 1) (t := 33) rfl rfl Tryz.underlying33 h1
 subst e1
 obtain ⟨a2, len2, cap2, rfl⟩ := okWide_slice Tryz.underlying33 (hval 2 33 v2 rfl rfl)
 have lt2 : ∀ x ∈ p2, x.block < W.heap.size := by obtain ⟨m, hm⟩ := h2; exact DataW.trod_lt m _ _ _ hm
 obtain ⟨l2, e2, c2, b2, x2_0⟩ := M.open_series hsz (j := 2) (t := 33) rfl rfl Tryz.underlying33 h2
 subst e2
 have lt3 : ∀ x ∈ p3, x.block < W.heap.size := by obtain ⟨m, hm⟩ := h3; exact DataW.trod_lt m _ _ _ hm
 obtain ⟨s3, rfl, x3⟩ := M.open_val (hval 3 25 v3 rfl rfl) h3
 clear hA0 hval0 hsz0 hsz
 obtain ⟨k, hk⟩ := (⟨0, rfl⟩ : ∃ k : Nat, k = 0)
 refine (A.rowJoins.calls a0 a1 a2 cap1 cap2 l1 l2 s3.f0 s3.f1 x1_0 x2_0 W c1 b1 c2 b2).mono fun e W' ⟨he, bel⟩ => ?_
 subst he
 exact ⟨_, rfl, _, _, _, [], _, [], hW', trodAll_mk1 (shut_bool Tryz.underlying4 _), (trodAll_cons_mk (shut_string Tryz.underlying9 y0) (trodAll_cons_mk (Below.trod laidOut (by kernel_rfl) (of_decide_eq_true (by kernel_rfl)) h1 bel lt1) (trodAll_cons_mk (Below.trod laidOut (by kernel_rfl) (of_decide_eq_true (by kernel_rfl)) h2 bel lt2) (trodAll_cons_mk (Below.trod laidOut (by kernel_rfl) (of_decide_eq_true (by kernel_rfl)) h3 bel lt3) trodAll_mk0)))), rfl, bel.frame _, fun h => by cases h⟩
theorem over : Rows.seriesJoinsRow.holds Tryz.pinned (OpenSpec.ofChange Rows.seriesJoinsSpec) :=
 OpenClaim.holds_of_wide 8 Tryz.f8 rfl rfl rfl rfl rfl rfl rfl ⟨rfl, rfl, rfl, rfl, rfl⟩ rfl rfl rfl rfl rfl (by kernel_rfl) Tryz.func8 (by kernel_rfl)
  (of_decide_eq_true (by kernel_rfl)) (by unfold Func.isWrapper; first | (rw [if_pos (by decide +kernel)]; kernel_rfl) | (rw [if_neg (by decide +kernel)]; exact ⟨rfl, rfl⟩))
  (fun os started H enc _ => lifted os started H enc)
theorem proved : Rows.SeriesJoinsSaid := over
end Go.Proofs.YtcmiehddjgfjaaaGreat.seriesJoins
namespace Go.Proofs.YtcmiehddjgfjaaaGreat
/-- The row, under a short name, for the claim. -/
theorem seriesJoins_holds : Rows.SeriesJoinsSaid := seriesJoins.proved
end Go.Proofs.YtcmiehddjgfjaaaGreat
