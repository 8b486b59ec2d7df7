/- What a row of jobs of the call's own reads as; its tail, cleared. -/
import Derived.Test.YtaonabfnagmogaaGDue1
import Derived.Laws.Rows
import Derived.Laws.IdiomCopy
namespace Go.Proofs.Ytaonabfnagmogaa.S
open Go.RowKit Go.Proofs.YtaonabfnagmogaaW.PrintWords Go.Proofs.YtaonabfnagmogaaW.PrintLast Go.Proofs.YtaonabfnagmogaaW.PrintMore
set_option linter.unusedVariables false
set_option linter.unusedSimpArgs false
theorem add_own (g k : Nat) : (⟨g, 0, none⟩ : Addr).add k = ⟨g, k, none⟩ := by
  unfold Addr.add
  split
  · rename_i h; subst h; rfl
  · simp
theorem at_own {w : World} {base : Nat} {ok : Nat → Prop} {g n c : Nat} {xs : List S27} (h : Kd.R k27 27 w base ok (.slice (some ⟨g, 0, none⟩) n c) xs) (j : Nat) (hj : j < xs.length) :
    w.cell? ⟨g, j * 7, none⟩ = some (.string (rd_T27 xs j).f0) ∧ w.cell? ⟨g, j * 7 + 1, none⟩ = some (.string (rd_T27 xs j).f1) ∧ w.cell? ⟨g, j * 7 + 2, none⟩ = some (.int .i64 (rd_T27 xs j).f2) ∧ w.cell? ⟨g, j * 7 + 3, none⟩ = some (.int .i64 (rd_T27 xs j).f3) ∧ w.cell? ⟨g, j * 7 + 4, none⟩ = some (.int .i64 (rd_T27 xs j).f4) ∧ w.cell? ⟨g, j * 7 + 5, none⟩ = some (.bool (rd_T27 xs j).f5) ∧ w.cell? ⟨g, j * 7 + 6, none⟩ = some (.int .i64 (rd_T27 xs j).f6) := by
  obtain ⟨ad0, e0, p⟩ := at_T27 (Kd.R_reads' h).2.2 (j : Int) (by omega) (by omega)
  injection e0 with e0
  subst e0
  rw [Int.toNat_natCast, add_own] at p
  exact p
theorem k27_flat {w w' : World} {b b' : Nat} {ok ok' : Nat → Prop} {x : S27} {cs : List Value} (h : k27.M w b ok x cs) : k27.M w' b' ok' x cs := by
  obtain rfl := k27_openM h
  exact k27_mkM _ _ _ _
def zJob : Array Value := #[.string ⟨#[]⟩, .string ⟨#[]⟩, .int .i64 0, .int .i64 0, .int .i64 0, .bool false, .int .i64 0]
theorem zJob_one (m : Nat) (h : m < 7) : (zJob[m]!).oneCell' = true := by
  match m, h with
  | 0, _ => rfl
  | 1, _ => rfl
  | 2, _ => rfl
  | 3, _ => rfl
  | 4, _ => rfl
  | 5, _ => rfl
  | 6, _ => rfl
/-- What a cleared tail leaves: the elements ahead of it. -/
theorem clear_own {w0 W : World} {g n c : Nat} {xs : List S27} (h : Kd.R k27 27 W w0.heap.size (fun _ => True) (.slice (some ⟨g, 0, none⟩) n c) xs) (hB : Below w0.heap.size w0 W) (i : Nat) (hi : i < n) :
    ∃ W1, (∀ ty, (Builtin.clear_ #[22] ty #[.slice (some ⟨g, i * 7, none⟩) (n - i) (c - i)]).run Try.prog W = .ok (.tuple #[]) W1) ∧ Kd.R k27 27 W1 w0.heap.size (fun _ => True) (.slice (some ⟨g, 0, none⟩) i c) (xs.take i) ∧ Below w0.heap.size w0 W1 := by
  have hn : n = xs.length := (Kd.R_reads' h).1
  have hnc : n ≤ c := (Kd.R_reads' h).2.1
  have h' := Kd.R_take h (m := i) (by omega)
  obtain ⟨h0, inner, hown, hr⟩ := h'
  rcases hown.2 with ⟨hv, _⟩ | ⟨g', cap', cur, hv, hb, hh, hic, hcm, hcs, htk⟩
  · cases hv
  injection hv with ha h2 h3
  injection ha with ha
  injection ha with hg'
  subst hg'; subst h3
  have hk7 : k27.sz = 7 := rfl
  rw [hk7] at hcs htk
  obtain ⟨zs, hzs⟩ : ∃ zs, zs = (Builtin.zeroCells zJob (n - i)).toList := ⟨_, rfl⟩
  have zl : zs.length = (n - i) * 7 := by rw [hzs]; simp [Builtin.zeroCells, zJob]
  have z1 : ∀ u ∈ zs, u.oneCell' = true := by
    intro u hu
    rw [hzs] at hu
    simp only [Builtin.zeroCells, Array.toList_map, List.mem_map] at hu
    obtain ⟨j, _, rfl⟩ := hu
    exact zJob_one _ (Nat.mod_lt _ (by decide))
  have hfit : i * 7 + zs.length ≤ cur.size := by rw [zl, hcs]; omega
  have hst := run_storeCells_cells (P := Try.prog) g (i * 7) zs 0 W (fun j hj => by
    rw [cell_of_row W g _ cur 27 (0, 0) hh]; simp; omega) (fun j _ => blk_frozen hh _) z1
  simp only [Nat.add_zero] at hst
  obtain ⟨cur', hh', hcs', hl'⟩ := setCells_row (e := 27) zs (i * 7) W cur hh hfit
  refine ⟨W.setCells g (i * 7) zs, fun ty => ?_, ⟨h0, inner, ⟨hown.1, .inr ⟨g, c, cur', by rw [← h2], hb, hh', hic, hcm, by rw [hcs', hcs, hk7], ?_⟩⟩, hr.imp_ (fun _ _ hp => k27_flat hp)⟩, ?_⟩
  · obtain ⟨m, hm⟩ : ∃ m, n - i = m + 1 := ⟨n - i - 1, by omega⟩
    rw [hm] at hzs
    rw [hm]
    have hzc : (Value.agg zJob).cells = zJob := by simp [Value.cells, zJob]
    have hz : (zeroValue 27).run Try.prog W = .ok (.agg zJob) W := Try.zeroValue27 W
    rw [hzs] at hst ⊢
    simp [Builtin.clear_, run_underlying Try.underlying22, hz, hzc, hst]
  · rw [hk7, ← h2, hl', List.append_assoc, List.take_append_of_le_length (by rw [List.length_take, Array.length_toList, hcs]; omega), List.take_take, Nat.min_self, ← htk, ← h2]
  · obtain ⟨s1, s2, s3, s4⟩ := setCells_same g zs (i * 7) W
    exact hB.trans ⟨s1, s2, s3, by rw [s4]; exact Nat.le_refl _, fun k hk => setCells_far zs _ k (by omega)⟩
theorem info27s : (Try.prog.info? 27).map (·.size) = some 7 := by kernel_rfl
abbrev jobL (x : S27) : List Value := [.string x.f0, .string x.f1, .int .i64 x.f2, .int .i64 x.f3, .int .i64 x.f4, .bool x.f5, .int .i64 x.f6]
/-- xs[i] = x, in a row of the call's own. -/
theorem store_job {ops : Array Oper} {rest : List Oper} {o : Oper} {a : Act} {Q : Exit → Act → World → Prop} {w0 W : World} (x' y' : Operand) (hN : o.dst = none) (hgd : o.guard = none) (ho : o.op = .store 27 x' y') {g n c o' : Nat} (i : Nat) (xs : List S27) (x : S27)
    (haddr : a.eval x' = .pointer (some ⟨g, o', none⟩)) (hoff : o' = i * 7) (hx : a.eval y' = job x)
    (HO : Kd.R k27 27 W w0.heap.size (fun _ => True) (.slice (some ⟨g, 0, none⟩) n c) xs) (hi : i < xs.length) (HB : Below w0.heap.size w0 W)
    (h : ∀ w1, Kd.R k27 27 w1 w0.heap.size (fun _ => True) (.slice (some ⟨g, 0, none⟩) n c) (xs.set i x) → Below w0.heap.size w0 w1 → W.grownBy w1 (some g) → wpList Try.prog ops Q rest a w1) : wpList Try.prog ops Q (o :: rest) a W := by
  obtain ⟨o0, o1, o2, o3, o4, o5, o6⟩ := at_own HO i hi
  have hn := (Kd.R_reads' HO).1
  refine Kd.R_store k27 (w0 := w0) w0.heap.size hN hgd 27 x' y' ho 27 (i : Int) 0 xs x (job x) (jobL x) (jobL (rd_T27 xs i)) (fun _ => True) (fun _ => False) haddr (by rw [hoff]; rfl) hx (by simp [Value.cells]) info27s ?_ HO (by omega) (by omega) rfl ?_ (Nat.le_refl 7) (k27_mkM _ _ _ _) (fun _ hk => hk.elim) HB (by rw [Int.toNat_natCast]; exact h)
  · intro q hq
    simp only [List.mem_cons, List.not_mem_nil, or_false] at hq
    rcases hq with rfl | rfl | rfl | rfl | rfl | rfl | rfl <;> rfl
  · intro m u hu
    rw [Int.toNat_natCast]
    match m, hu with
    | 0, hu => injection hu with hu; subst hu; exact o0
    | 1, hu => injection hu with hu; subst hu; exact o1
    | 2, hu => injection hu with hu; subst hu; exact o2
    | 3, hu => injection hu with hu; subst hu; exact o3
    | 4, hu => injection hu with hu; subst hu; exact o4
    | 5, hu => injection hu with hu; subst hu; exact o5
    | 6, hu => injection hu with hu; subst hu; exact o6
    | m + 7, hu => simp at hu
end Go.Proofs.Ytaonabfnagmogaa.S
