/- slices.DeleteFunc over jobs, in a row of the call's own. -/
import Derived.Test.YtaonabfnagmogaaGDue2a
namespace Go.Proofs.Ytaonabfnagmogaa.S
open Go.RowKit Go.Proofs.YtaonabfnagmogaaW.PrintWords Go.Proofs.YtaonabfnagmogaaW.PrintLast Go.Proofs.YtaonabfnagmogaaW.PrintMore
set_option linter.unusedVariables false
set_option linter.unusedSimpArgs false
theorem keep_step {p : S27 → Bool} {l xs : List S27} {i j : Nat} (hl : xs.length = l.length) (ht : xs.take i = (l.take j).filter p) (hd : xs.drop j = l.drop j) (hij : i < j) (hj : j < l.length) (hp : p l[j] = true) :
    (xs.set i l[j]).length = l.length ∧ (xs.set i l[j]).take (i + 1) = (l.take (j + 1)).filter p ∧ (xs.set i l[j]).drop (j + 1) = l.drop (j + 1) := by
  refine ⟨by rw [List.length_set, hl], ?_, ?_⟩
  · rw [List.take_add_one, List.take_set_of_le (Nat.le_refl _), ht, List.getElem?_set_self (by omega), List.take_add_one (i := j), List.getElem?_eq_getElem hj, List.filter_append]
    simp [hp]
  · rw [List.drop_set_of_lt (by omega), ← List.drop_drop, hd, List.drop_drop]
theorem drop_step {p : S27 → Bool} {l xs : List S27} {i j : Nat} (ht : xs.take i = (l.take j).filter p) (hd : xs.drop j = l.drop j) (hj : j < l.length) (hp : ¬ p l[j] = true) :
    xs.take i = (l.take (j + 1)).filter p ∧ xs.drop (j + 1) = l.drop (j + 1) := by
  refine ⟨?_, ?_⟩
  · rw [ht, List.take_add_one (i := j), List.getElem?_eq_getElem hj, List.filter_append]
    simp [hp]
  · rw [← List.drop_drop, hd, List.drop_drop]
theorem idxF_at (now : Int) : ∀ (l : List S27) (i : Nat), (idxF now l i = -1 ∧ l.filter (fun x => dueV x now) = l) ∨ ∃ k : Nat, idxF now l i = ((i + k : Nat) : Int) ∧ k < l.length ∧ (l.take (k + 1)).filter (fun x => dueV x now) = l.take k
  | [], i => .inl ⟨rfl, rfl⟩
  | x :: l, i => by
    rw [idxF]
    by_cases h : dueV x now = true
    · rw [if_pos h]
      rcases idxF_at now l (i + 1) with ⟨h1, h2⟩ | ⟨k, h1, h2, h3⟩
      · exact .inl ⟨h1, by rw [List.filter_cons_of_pos (by exact h), h2]⟩
      · refine .inr ⟨k + 1, by rw [h1]; congr 1; omega, by simp; omega, ?_⟩
        rw [List.take_succ_cons, List.filter_cons_of_pos (by exact h), h3, List.take_succ_cons]
    · rw [if_neg h]
      refine .inr ⟨0, rfl, by simp, ?_⟩
      rw [List.take_succ_cons, List.filter_cons_of_neg (by exact h)]
      simp
set_option maxHeartbeats 4000000 in
set_option maxRecDepth 100000 in
theorem delete_calls (l : List S27) (now : Int) (ad : Addr) (v : Value) (w0 w : World) (hv : Kd.R k27 27 w w0.heap.size (fun _ => True) v l) (hb : Below w0.heap.size w0 w) (hc : w0.cell? ad = some (.int .i64 now)) (h3 : ∀ x ∈ l, x.f3 ≠ 0) :
    Calls Try.prog 19 #[v, .func (Fn.func 21) #[] #[.pointer (some ad)]] w fun e w' => ∃ v0_ : Value, e = .returned v0_ ∧ Kd.R k27 27 w' w0.heap.size (fun _ => True) v0_ (l.filter fun x => dueV x now) ∧ Below w0.heap.size w0 w' := by
  have hu27 := Try.underlying27
  have HV := Aside0.mk hv
  have HC := Aside0.mk hc
  have H3 := Aside0.mk h3
  have HB := Aside0.mk hb
  obtain ⟨A, c, rfl, hlc, hC⟩ := Kd.R_reads hv
  have HR := Aside0.mk hC
  have hm : l.length ≤ 9223372036854775807 := Kd.C_max hC
  clear hv hb hc h3 hC
  go_enter Try.func19, Try.ntmps19
  go_wp2_with fail
  refine (index_calls A c l now ad _ HR.out H3.out (pw_cell_below HB.out HC.out)).mono ?_
  rintro e w1 ⟨rfl, hb1⟩
  have HV1 := Aside0.mk (Kd.R_below HV.out hb1)
  have HB1 := Aside0.mk (below_step HB.out hb1)
  clear hb1 HV HB HR
  rcases idxF_at now l 0 with ⟨hi, hf⟩ | ⟨k, hi, hk, hf⟩
  · rw [hi]
    go_wp2
    go_ret
    exact ⟨_, rfl, by rw [hf]; exact HV1.out, HB1.out⟩
  · rw [hi, Nat.zero_add]
    have HF := Aside0.mk hf
    have dn : ((k : Int) == -1) = false := by simp
    clear hi hf
    obtain ⟨ad1, c1, he⟩ := Kd.R_slice1 HV1.out (by omega)
    injection he with he1 he2 he3
    subst he1; subst he3
    obtain ⟨g, rfl⟩ := Kd.R_head HV1.out
    go_wp2_with fail
    go_loopg [5, 6, 7] (l.length - (k + 1)) (fun kq v5 v6 v7 w' => ∃ (i j : Nat) (xs : List S27), i < j ∧ j ≤ l.length ∧ v5 = .int .i64 i ∧ v6 = .int .i64 j ∧ Aside0 (kq = l.length - j) ∧ Aside0 (xs.length = l.length ∧ xs.take i = (l.take j).filter (fun x => dueV x now) ∧ xs.drop j = l.drop j) ∧ Aside0 (Kd.R k27 27 w' w0.heap.size (fun _ => True) (.slice (some ⟨g, 0, none⟩) l.length c) xs) ∧ Aside0 (Below w0.heap.size w0 w'))
    case atStart => exact ⟨k, k + 1, l, by omega, by omega, rfl, by go_num, ⟨rfl⟩, ⟨rfl, HF.out.symm, rfl⟩, HV1, HB1⟩
    case round =>
      obtain ⟨i, j, xs, hij, hj, rfl, rfl, HK, HX, HO, HB⟩ := hrel
      by_cases hlt : j < l.length
      · have hjx : j < xs.length := by rw [HX.out.1]; exact hlt
        obtain ⟨p0, p1, p2, p3, p4, p5, p6⟩ := at_own HO.out j hjx
        go_wp2_with fail
        have hj1 : rd_T27 xs j = l[j] := by
          have e : xs[j] = l[j] := by
            have h1 := List.drop_eq_getElem_cons hjx
            have h2 := List.drop_eq_getElem_cons hlt
            rw [HX.out.2.2, h2] at h1
            injection h1 with h1
            exact h1.symm
          rw [← e]; simp [rd_T27, List.getD_eq_getElem?_getD, List.getElem?_eq_getElem hjx]
        have hx3 : (rd_T27 xs j).f3 ≠ 0 := by rw [hj1]; exact H3.out _ (List.getElem_mem hlt)
        have hnew : ∀ (o : Array Value) (m : Nat), (wr.alloc (.cells o 27)).cell? ⟨wr.heap.size, m, none⟩ = o[m]? := fun o m => cell_of_row _ _ _ o 27 (0, 0) (blk_new wr _)
        refine (due_1_calls (rd_T27 xs j) now ad _ hx3 (pw_cell_below (below_alloc (Below.refl _ _) _) (pw_cell_below HB.out HC.out))).mono ?_
        rintro e w2 ⟨rfl, hb2⟩
        have q0 := pw_cell_below hb2 (hnew _ 0)
        have q1 := pw_cell_below hb2 (hnew _ 1)
        have q2 := pw_cell_below hb2 (hnew _ 2)
        have q3 := pw_cell_below hb2 (hnew _ 3)
        have q4 := pw_cell_below hb2 (hnew _ 4)
        have q5 := pw_cell_below hb2 (hnew _ 5)
        have q6 := pw_cell_below hb2 (hnew _ 6)
        have HO2 := Aside0.mk (Kd.R_below (Kd.R_alloc HO.out _) hb2)
        have HB2 := Aside0.mk (below_step (below_alloc HB.out _) hb2)
        obtain ⟨B, hBe⟩ : ∃ B, B = wr.heap.size := ⟨_, rfl⟩
        rw [← hBe] at q0 q1 q2 q3 q4 q5 q6 ⊢
        clear hnew hb2 p0 p1 p2 p3 p4 p5 p6 hx3 HO HB hBe
        have HJ := Aside0.mk hj1
        clear hj1
        have HD := Aside0.mk (rfl : dueV (rd_T27 xs j) now = dueV (rd_T27 xs j) now)
        generalize hd : dueV (rd_T27 xs j) now = b at ⊢
        cases b with
        | true =>
          have hil : i < xs.length := by rw [HX.out.1]; omega
          go_wp2_with (first | ((with_reducible refine gate_ (.store 27 (.tmp 33) (.tmp 32)) rfl ?_); refine store_job (w0 := w0) (.tmp 33) (.tmp 32) rfl rfl rfl i xs (rd_T27 xs j) rfl rfl rfl HO2.out hil HB2.out ?_; intro w3 ho hb hg_; have n0_ := Aside0.mk hb; have n1_ := Aside0.mk ho; clear HB2 HO2; have HB := n0_; have HO := n1_; clear n0_ n1_ hb ho hg_))
          have hp : dueV l[j] now = true := by rw [← HJ.out]; exact hd
          have HX2 := Aside0.mk (show (xs.set i (rd_T27 xs j)).length = l.length ∧ (xs.set i (rd_T27 xs j)).take (i + 1) = (l.take (j + 1)).filter (fun x => dueV x now) ∧ (xs.set i (rd_T27 xs j)).drop (j + 1) = l.drop (j + 1) from by
            rw [HJ.out]; exact keep_step HX.out.1 HX.out.2.1 HX.out.2.2 hij hlt hp)
          go_roundg (l.length - (j + 1))
          case measure => have := HK.out; omega
          case rel => exact ⟨i + 1, j + 1, xs.set i (rd_T27 xs j), by omega, by omega, by go_num, by go_num, ⟨rfl⟩, HX2, HO, HB⟩
        | false =>
          have hp : ¬ dueV l[j] now = true := by rw [← HJ.out, hd]; simp
          have HX2 := Aside0.mk (show xs.length = l.length ∧ xs.take i = (l.take (j + 1)).filter (fun x => dueV x now) ∧ xs.drop (j + 1) = l.drop (j + 1) from ⟨HX.out.1, drop_step HX.out.2.1 HX.out.2.2 hlt hp⟩)
          clear hp
          go_wp2
          go_roundg (l.length - (j + 1))
          case measure => have := HK.out; omega
          case rel => exact ⟨i, j + 1, xs, by omega, by omega, by go_num, by go_num, ⟨rfl⟩, HX2, HO2, HB2⟩
      · have hjl : j = l.length := by omega
        subst hjl
        obtain ⟨W1, hW1, HO1, HB1⟩ := clear_own HO.out HB.out i hij
        have HF1 := Aside0.mk (show xs.take i = l.filter (fun x => dueV x now) from by rw [HX.out.2.1, List.take_length])
        have HO2 := Aside0.mk HO1
        have HB2 := Aside0.mk HB1
        clear HO1 HB1 HX HO HB
        go_wp2
        go_ret
        exact ⟨_, rfl, by rw [← HF1.out]; exact HO2.out, HB2.out⟩
end Go.Proofs.Ytaonabfnagmogaa.S
