/- A part of the proof of LawSeriesScalar: contracts and plain laws, put together by a program of this session. -/
import Derived.Test.YtcmiehddjgfjaaaGreatCSca3
set_option linter.unusedVariables false
set_option linter.unusedSimpArgs false
set_option linter.unusedSectionVars false
set_option maxHeartbeats 8000000
set_option maxRecDepth 100000
namespace Go.Proofs.YtcmiehddjgfjaaaGreat.A
open Go.RowKit Go.Proofs.YtcmiehddjgfjaaaGreatW.PrintWords Go.Proofs.YtcmiehddjgfjaaaGreatW.PrintLast Go.Proofs.YtcmiehddjgfjaaaGreatW.PrintMore Go.Proofs.YtcmiehddjgfjaaaGreat.St Go.Proofs.YtcmiehddjgfjaaaGreat.Stable
/-- A row that is only read, behind whatever leaves the blocks below B. -/
theorem N_under {W0 W : World} {base B : Nat} {v : Value} {xs : List Ser} (h : Kd.N k37 37 W0 base (fun k => k < B) v xs) (hb : Below B W0 W) : Kd.N k37 37 W base (fun k => k < B) v xs := Kd.N_step h (fun k hk _ => hb.block k hk)
/-- Element i of a row that is only read. -/
theorem read_at {W : World} {base : Nat} {ok : Nat → Prop} {A : Option Addr} {n c : Nat} {xs : List Ser} (HO : Kd.N k37 37 W base ok (.slice A n c) xs) (i : Nat) (hi : i < xs.length) :
  ∃ g A0 c0, A = some ⟨g, 0, none⟩ ∧ W.cell? ⟨g, i * 3, none⟩ = some (.slice A0 (xs[i]).f0.length c0) ∧ W.cell? ⟨g, i * 3 + 1, none⟩ = some (.int .i64 (xs[i]).f1.f0) ∧ W.cell? ⟨g, i * 3 + 2, none⟩ = some (.int .i64 (xs[i]).f1.f1) ∧ Kd.F k62 W ok A0 (xs[i]).f0.length (xs[i]).f0 := by
 obtain ⟨g, cp, hv, _, _, _⟩ := Kd.N_form HO (by omega)
 injection hv with hA hB hC
 subst hA
 obtain ⟨A0, c0, o0, o1, o2, l0, g0, hK⟩ := own_at HO i hi
 refine ⟨g, A0, c0, rfl, o0, o1, o2, fun W' hW => ?_⟩
 obtain ⟨A1, c1, e, _, g1⟩ := k37_open (hK W' (fun k hk hlt => hW k hk.1 hlt))
 injection e with e _
 injection e with e _ _
 subst e
 exact g1
theorem FK_new {W : World} {ok : Nat → Prop} {A : Option Addr} {c : Nat} {x : List Lab} {k n : Int} (h : Kd.F k62 W ok A x.length x) (hc : x.length ≤ c) : Kd.FK k37 W ok (⟨x, ⟨k, n⟩⟩ : Ser) [.slice A x.length c, .int .i64 k, .int .i64 n] := fun W' hW => k37_mk W' (⟨x, ⟨k, n⟩⟩ : Ser) hc (h W' hW)
theorem own_ne {W : World} {v v1 : Value} {b : Nat} (hat : v1.ownBlock = v.ownBlock ∨ ∃ b, v1.ownBlock = some b ∧ W.heap.size ≤ b) (hne : some b ≠ v.ownBlock) (hb : b < W.heap.size) : some b ≠ v1.ownBlock := by
 rcases hat with h | ⟨b', h, hle⟩
 ·rw [h]; exact hne
 ·rw [h]
  intro e
  injection e with e
  omega
theorem sjoin_calls (op : ByteArray) (A B : Option Addr) (c d : Nat) (a b : List Ser) (ha : SersOk a) (hb : SersOk b) (w : World) (hA : Kd.C k37 w A a.length a) (hB : Kd.C k37 w B b.length b) :
  Calls Tryz.prog 19 #[.string op, .slice A a.length c, .slice B b.length d] w fun e w' => ∃ v : Value, e = .returned (.tuple #[v, .int .i64 (vJoin op a b).2]) ∧ Kd.N k37 37 w' w.heap.size (fun _ => True) v (vJoin op a b).1 ∧ Below w.heap.size w w' := by
 have HSa := Sd.mk (ssort_calls A c a ha w hA)
 have HSb := Sd.mk (fun (w1 : World) (h : Below w.heap.size w w1) => ssort_calls B d b hb w1 (Kd.C_below hB h))
 have HK := Sd.mk (fun w1 => knows2_calls op w1)
 have HMa := Sd.mk (fun (h : (vSort a).2 = 0) => And.intro (fun x hx => (vSort_ok h).1 x ((vSort_mem h).1 hx)) (vSort_len h))
 have HMb := Sd.mk (fun (h : (vSort b).2 = 0) => And.intro (fun x hx => (vSort_ok h).1 x ((vSort_mem h).1 hx)) (vSort_len h))
 unfold vJoin
 clear ha hb hA hB
 generalize vSort a = ra at HSa HMa ⊢
 generalize vSort b = rb at HSb HMb ⊢
 obtain ⟨p, e1⟩ := ra
 obtain ⟨q, e2⟩ := rb
 simp only at HSa HSb HMa HMb ⊢
 generalize (vDo op [(1, 0), (1, 0)]).2 = kn at HK ⊢
 have mixed : Tryz.prog.follows .mixedOrders = true := by kernel_rfl
 by_cases h1 : e1 = 0
 ·subst h1
  rw [if_pos rfl]
  by_cases h2 : e2 = 0
  ·subst h2
   rw [if_pos rfl]
   by_cases hk : kn = 0
   ·rw [if_pos hk]
    rw [decide_eq_true hk] at HK
    clear hk
    have hPs := (HMa.out rfl).1
    have hQs := (HMb.out rfl).1
    have lp := (HMa.out rfl).2
    have lq := (HMb.out rfl).2
    have HPs := Sd.mk hPs
    have HQs := Sd.mk hQs
    have HOK := Sd.mk (pairsJ_ok (op := op) hPs hQs lp lq)
    clear hPs hQs HMa HMb
    go_enter Tryz.func19, Tryz.ntmps19
    go_wp2_with fail
    refine HSa.out.mono ?_
    rintro e w1 ⟨va, rfl, hva, hb1⟩
    have HB1 := Sd.mk hb1
    have HSb1 := Sd.mk (HSb.out w1 hb1)
    obtain ⟨A3, c3, rfl, _, _⟩ := Kd.N_reads hva
    have HVa := Sd.mk hva
    clear hva hb1 HSb HSa
    go_wp2_with fail
    refine HSb1.out.mono ?_
    rintro e w2 ⟨vb, rfl, hvb, hb2⟩
    have HB2 := Sd.mk (HB1.out.trans (hb2.mono HB1.out.size))
    have HVa2 := Sd.mk (Kd.N_below HVa.out hb2)
    obtain ⟨B3, d3, rfl, _, _⟩ := Kd.N_reads hvb
    have HVb2 := Sd.mk (Kd.N_lower hvb HB1.out.size)
    clear hvb hb2 HB1 HVa HSb1
    go_wp2_with fail
    refine (HK.out w2).mono ?_
    rintro e w3 ⟨rfl, hb3⟩
    have HB3 := Sd.mk (HB2.out.trans (hb3.mono HB2.out.size))
    have HPa := Sd.mk (Kd.N_mono (Kd.N_bound (Kd.N_below HVa2.out hb3)) (ok' := fun k => k < w3.heap.size) (fun k hk => hk.2))
    have HPb := Sd.mk (Kd.N_mono (Kd.N_bound (Kd.N_below HVb2.out hb3)) (ok' := fun k => k < w3.heap.size) (fun k hk => hk.2))
    clear hb3 HVa2 HVb2 HB2
    go_wp2
    go_loopw [6, 39] (fun v6 v39 wr => ∃ i : Nat, i ≤ p.length ∧ v39 = .int .i64 i ∧ Sd (Kd.N k37 37 wr w3.heap.size (fun _ => True) v6 (pairsJ op (p.take i) q)) ∧ Sd (Below w3.heap.size w3 wr)) (fun _ v39 _ => p.length - (intOf v39).toNat)
    case atStart => exact ⟨0, Nat.zero_le _, rfl, ⟨Kd.N_nil _ _ _ _ _⟩, ⟨Below.refl _ _⟩⟩
    case round =>
     obtain ⟨i, hi, rfl, HO, HW⟩ := hrel
     rename World => wo
     by_cases hlt : i < p.length
     ·have b1 : (i : Int) < (p.length : Int) := by omega
      obtain ⟨ga, Ax, cx, hAe, x0, x1, x2, hFx⟩ := read_at (N_under HPa.out HW.out) i hlt
      subst hAe
      have HPst := Sd.mk (pairsJ_step op p q i hlt)
      have HxS := Sd.mk (HPs.out _ (List.getElem_mem hlt))
      have HFx := Sd.mk (Kd.F_bound hFx)
      have HoL := Sd.mk (Nat.le_trans (pairsJ_len op q (p.take i)) (Nat.mul_le_mul (by rw [List.length_take]; omega : (p.take i).length ≤ 200) lq))
      generalize p[i] = x at x0 x1 x2 hFx HPst HxS HFx
      clear hFx
      have HX := Sd.mk (blk_new wo (.cells #[.slice Ax x.f0.length cx, .int .i64 x.f1.f0, .int .i64 x.f1.f1] 37))
      have HWx := Sd.mk (bal HW.out (.cells #[.slice Ax x.f0.length cx, .int .i64 x.f1.f0, .int .i64 x.f1.f1] 37))
      have HOx := Sd.mk (Kd.N_alloc HO.out (.cells #[.slice Ax x.f0.length cx, .int .i64 x.f1.f0, .int .i64 x.f1.f1] 37))
      have HNx := Sd.mk (show some wo.heap.size ≠ u6.ownBlock from fun e => Nat.lt_irrefl _ (Kd.N_lt HO.out _ e.symm))
      have Hbx := Sd.mk (show w3.heap.size ≤ wo.heap.size from HW.out.size)
      go_wp2
      generalize hout : pairsJ op (p.take i) q = out0 at HO HPst HoL HOx
      clear hout
      go_loopw [6, 45] (fun v6 v45 wr2 => ∃ j : Nat, j ≤ q.length ∧ v45 = .int .i64 j ∧ Sd (Kd.N k37 37 wr2 w3.heap.size (fun _ => True) v6 (out0 ++ rowJ op x (q.take j))) ∧ Sd (Below w3.heap.size w3 wr2) ∧ Sd (wr2.heap[wo.heap.size]? = some (.cells #[.slice Ax x.f0.length cx, .int .i64 x.f1.f0, .int .i64 x.f1.f1] 37 (0, 0))) ∧ Sd (some wo.heap.size ≠ v6.ownBlock)) (fun _ v45 _ => q.length - (intOf v45).toNat)
      case atStart => exact ⟨0, Nat.zero_le _, rfl, ⟨by simpa [rowJ] using HOx.out⟩, HWx, HX, HNx⟩
      case round =>
       clear HOx HWx HX HNx
       obtain ⟨j, hj, rfl, HO2, HW2, HX2, HN2⟩ := hrel
       by_cases hlj : j < q.length
       ·have b2 : (j : Int) < (q.length : Int) := by omega
        obtain ⟨gb, Ay, cy, hBe, y0, y1, y2, hFy⟩ := read_at (N_under HPb.out HW2.out) j hlj
        subst hBe
        have HRs := Sd.mk (rowJ_step op x q j hlj)
        have HyS := Sd.mk (HQs.out _ (List.getElem_mem hlj))
        have HLen := Sd.mk (show ((out0 ++ rowJ op x (q.take j)).length + 1) * 40 ≤ 140737488355328 by
         have e1 := rowJ_len op x (q.take j)
         have e2 : (q.take j).length ≤ 200 := by rw [List.length_take]; omega
         have e3 := HoL.out
         have e4 : 200 * q.length ≤ 200 * 200 := Nat.mul_le_mul (Nat.le_refl _) lq
         rw [List.length_append]; omega)
        generalize q[j] = y at y0 y1 y2 hFy HRs HyS
        have HY := Sd.mk (below1 wr (.cells #[.slice Ay y.f0.length cy, .int .i64 y.f1.f0, .int .i64 y.f1.f1] 37))
        have HCy := Sd.mk (Kd.C_below (Kd.F_now hFy) HY.out)
        have HCx := Sd.mk (Kd.C_below (Kd.F_now (Kd.F_step HFx.out (fun k hk _ => (HW2.out.block k hk.1).trans (HW.out.block k hk.1).symm))) HY.out)
        have YB := blk_new wr (.cells #[.slice Ay y.f0.length cy, .int .i64 y.f1.f0, .int .i64 y.f1.f1] 37)
        have g0 := (blk_cell YB 0).trans rfl
        have g1 := (blk_cell YB 1).trans rfl
        have g2 := (blk_cell YB 2).trans rfl
        have c0 := (blk_cell (blk_below HX2.out HY.out) 0).trans rfl
        have c1 := (blk_cell (blk_below HX2.out HY.out) 1).trans rfl
        have c2 := (blk_cell (blk_below HX2.out HY.out) 2).trans rfl
        clear YB hFy
        have HOY := Sd.mk (Kd.N_below HO2.out HY.out)
        have HWY := Sd.mk (HW2.out.trans (HY.out.mono HW2.out.size))
        have HI1 := Sd.mk (fun (w5 : World) (h : Below (wr.alloc (.cells #[.slice Ay y.f0.length cy, .int .i64 y.f1.f0, .int .i64 y.f1.f1] 37)).heap.size (wr.alloc (.cells #[.slice Ay y.f0.length cy, .int .i64 y.f1.f0, .int .i64 y.f1.f1] 37)) w5) => within_calls Ax Ay cx cy x.f0 y.f0 w5 (Kd.C_below HCx.out h) (Kd.C_below HCy.out h))
        have HI2 := Sd.mk (fun (w5 : World) (h : Below (wr.alloc (.cells #[.slice Ay y.f0.length cy, .int .i64 y.f1.f0, .int .i64 y.f1.f1] 37)).heap.size (wr.alloc (.cells #[.slice Ay y.f0.length cy, .int .i64 y.f1.f0, .int .i64 y.f1.f1] 37)) w5) => within_calls Ay Ax cy cx y.f0 x.f0 w5 (Kd.C_below HCy.out h) (Kd.C_below HCx.out h))
        unfold fits at HRs
        generalize inC x.f0 y.f0 = k1 at HRs HI1
        generalize inC y.f0 x.f0 = k2 at HRs HI2
        cases k1 with
        | true =>
         have HRt := Sd.mk (HRs.out.trans (by rfl : (rowJ op x (List.take j q) ++ (if (true || k2) = true then [joinS op x y] else [])) = rowJ op x (List.take j q) ++ [joinS op x y]))
         go_wp2_with fail
         refine (HI1.out _ (Below.refl _ _)).mono ?_
         rintro e w6 ⟨rfl, hb6⟩
         have HB6 := Sd.mk hb6
         replace c0 := pw_cell_below hb6 c0
         replace c1 := pw_cell_below hb6 c1
         replace c2 := pw_cell_below hb6 c2
         replace g0 := pw_cell_below hb6 g0
         replace g1 := pw_cell_below hb6 g1
         replace g2 := pw_cell_below hb6 g2
         clear hb6 HI1 HI2 HRs
         have HO6 := Sd.mk (Kd.N_below HO2.out (HY.out.trans (HB6.out.mono HY.out.size)))
         go_wp2_with fail
         refine (ljoin_calls Ax Ay cx cy x.f0 y.f0 (set_ok HxS.out).1 (set_ok HyS.out).1 (by have := (set_ok HxS.out).2; have := (set_ok HyS.out).2; omega) w6 (Kd.C_below HCx.out HB6.out) (Kd.C_below HCy.out HB6.out)).mono ?_
         rintro e w7 ⟨vj, rfl, hvj, hb7⟩
         obtain ⟨Aj, cj, rfl, hcj, hrd⟩ := Kd.R_reads hvj
         clear hrd
         have HVj := Sd.mk (Kd.R_mono (Kd.R_bound hvj) (ok' := fun k => w6.heap.size ≤ k) (fun k hk => hk.2.1))
         have HB7 := Sd.mk (HB6.out.trans (hb7.mono HB6.out.size))
         have Hcj := Sd.mk hcj
         have HN6 := Sd.mk (fun k (hk : w6.heap.size ≤ k) => And.intro True.intro (fun (e : some k = u6.ownBlock) => Nat.lt_irrefl _ (Nat.lt_of_lt_of_le (Kd.N_lt HO6.out k e.symm) hk)))
         replace c0 := pw_cell_below hb7 c0
         replace c1 := pw_cell_below hb7 c1
         replace c2 := pw_cell_below hb7 c2
         replace g0 := pw_cell_below hb7 g0
         replace g1 := pw_cell_below hb7 g1
         replace g2 := pw_cell_below hb7 g2
         clear hvj hb7 hcj HO6
         have HR2 := Sd.mk (HRt.out.trans (congrArg (fun z => rowJ op x (List.take j q) ++ [z]) (show joinS op x y = ⟨(vJoinL x.f0 y.f0).1, ⟨(vDo op [(x.f1.f0, x.f1.f1), (y.f1.f0, y.f1.f1)]).1.1, (vDo op [(x.f1.f0, x.f1.f1), (y.f1.f0, y.f1.f1)]).1.2⟩⟩ from rfl)))
         rcases hdo : vDo op [(x.f1.f0, x.f1.f1), (y.f1.f0, y.f1.f1)] with ⟨⟨r1, r2⟩, r3⟩
         have HD := Sd.mk (do2_any op x.f1.f0 x.f1.f1 y.f1.f0 y.f1.f1 w7 hdo)
         rw [hdo] at HR2
         clear hdo
         generalize hjr : vJoinL x.f0 y.f0 = jr at HVj Hcj HR2 ⊢
         obtain ⟨jl, jb⟩ := jr
         simp only at HVj Hcj HR2 ⊢
         clear hjr
         go_wp2_with fail
         refine HD.out.mono ?_
         rintro e w8 ⟨rfl, hb8⟩
         have HB8 := Sd.mk (HB7.out.trans ((hb8.mono (Nat.le_refl _)).mono HB7.out.size))
         have hba := bal hb8 (.cells #[.int .i64 r1, .int .i64 r2] 25)
         have hbb := bal HB8.out (.cells #[.int .i64 r1, .int .i64 r2] 25)
         have HVW := Sd.mk (Kd.R_below HVj.out hba)
         have HOW := Sd.mk (Kd.N_below HO2.out (HY.out.trans (hbb.mono HY.out.size)))
         have HWW := Sd.mk (HW2.out.trans ((HY.out.trans (hbb.mono HY.out.size)).mono HW2.out.size))
         have HXW := Sd.mk (blk_below HX2.out (HY.out.trans (hbb.mono HY.out.size)))
         clear hb8 hba hbb c0 c1 c2 g0 g1 g2
         go_wp2_with ((with_reducible refine gate_builtin (b := .append) (xs := #[.tmp 81, .tmp 85]) rfl ?_); at_builtin; refine Kd.N_append k37 (w0 := w3) w3.heap.size rfl (.tmp 81) (.tmp 85) 33 37 (.agg #[(.slice none 0 0), (.int .i64 0), (.int .i64 0)]) 40 rfl Tryz.underlying33 info37 rfl (by decide) (by omega) u6 (out0 ++ rowJ op x (List.take j q)) (⟨jl, ⟨r1, r2⟩⟩ : Ser) [.slice Aj jl.length cj, .int .i64 r1, .int .i64 r2] (fun _ => True) (fun k => w6.heap.size ≤ k) rfl ?aX ?aP ?aK ?aF ?aO ?aB ?aS ?aL ?_; (case aX => first | rfl | (go_simp; done)); (case aP => exact FK_new (Kd.R_F HVW.out) Hcj.out); (case aK => exact HN6.out); (case aF => exact (fun _ _ => trivial)); (case aO => exact HOW.out); (case aB => exact HWW.out); (case aS => exact HWW.out.size); (case aL => exact HLen.out); intro v7 w9 ho hb9 hg9 hat9; have HO9 := Sd.mk ho; have HW9 := Sd.mk hb9; have HX9 := Sd.mk ((hg9.block _ (Array.getElem?_eq_some_iff.1 HXW.out).1 HN2.out).trans HXW.out); have HN9 := Sd.mk (own_ne hat9 HN2.out (Array.getElem?_eq_some_iff.1 HXW.out).1); clear ho hb9 hg9 hat9)
         go_roundw
         case rel => exact ⟨j + 1, by omega, by go_num, ⟨by rw [HR2.out, ← List.append_assoc]; exact HO9.out⟩, HW9, HX9, HN9⟩
         case measure => simp [intOf]; omega
        | false =>
         cases k2 with
         | true =>
          have HRt := Sd.mk (HRs.out.trans (by rfl : (rowJ op x (List.take j q) ++ (if (false || true) = true then [joinS op x y] else [])) = rowJ op x (List.take j q) ++ [joinS op x y]))
          go_wp2_with fail
          refine (HI1.out _ (Below.refl _ _)).mono ?_
          rintro e w5 ⟨rfl, hb5⟩
          have HB5 := Sd.mk hb5
          have HC5 := Sd.mk (HI2.out w5 hb5)
          replace c0 := pw_cell_below hb5 c0
          replace c1 := pw_cell_below hb5 c1
          replace c2 := pw_cell_below hb5 c2
          replace g0 := pw_cell_below hb5 g0
          replace g1 := pw_cell_below hb5 g1
          replace g2 := pw_cell_below hb5 g2
          clear hb5 HI1 HI2 HRs
          go_wp2_with fail
          refine HC5.out.mono ?_
          rintro e w6 ⟨rfl, hb6⟩
          have HB6 := Sd.mk (HB5.out.trans (hb6.mono HB5.out.size))
          replace c0 := pw_cell_below hb6 c0
          replace c1 := pw_cell_below hb6 c1
          replace c2 := pw_cell_below hb6 c2
          replace g0 := pw_cell_below hb6 g0
          replace g1 := pw_cell_below hb6 g1
          replace g2 := pw_cell_below hb6 g2
          clear hb6 HC5 HB5
          have HO6 := Sd.mk (Kd.N_below HO2.out (HY.out.trans (HB6.out.mono HY.out.size)))
          go_wp2_with fail
          refine (ljoin_calls Ax Ay cx cy x.f0 y.f0 (set_ok HxS.out).1 (set_ok HyS.out).1 (by have := (set_ok HxS.out).2; have := (set_ok HyS.out).2; omega) w6 (Kd.C_below HCx.out HB6.out) (Kd.C_below HCy.out HB6.out)).mono ?_
          rintro e w7 ⟨vj, rfl, hvj, hb7⟩
          obtain ⟨Aj, cj, rfl, hcj, hrd⟩ := Kd.R_reads hvj
          clear hrd
          have HVj := Sd.mk (Kd.R_mono (Kd.R_bound hvj) (ok' := fun k => w6.heap.size ≤ k) (fun k hk => hk.2.1))
          have HB7 := Sd.mk (HB6.out.trans (hb7.mono HB6.out.size))
          have Hcj := Sd.mk hcj
          have HN6 := Sd.mk (fun k (hk : w6.heap.size ≤ k) => And.intro True.intro (fun (e : some k = u6.ownBlock) => Nat.lt_irrefl _ (Nat.lt_of_lt_of_le (Kd.N_lt HO6.out k e.symm) hk)))
          replace c0 := pw_cell_below hb7 c0
          replace c1 := pw_cell_below hb7 c1
          replace c2 := pw_cell_below hb7 c2
          replace g0 := pw_cell_below hb7 g0
          replace g1 := pw_cell_below hb7 g1
          replace g2 := pw_cell_below hb7 g2
          clear hvj hb7 hcj HO6
          have HR2 := Sd.mk (HRt.out.trans (congrArg (fun z => rowJ op x (List.take j q) ++ [z]) (show joinS op x y = ⟨(vJoinL x.f0 y.f0).1, ⟨(vDo op [(x.f1.f0, x.f1.f1), (y.f1.f0, y.f1.f1)]).1.1, (vDo op [(x.f1.f0, x.f1.f1), (y.f1.f0, y.f1.f1)]).1.2⟩⟩ from rfl)))
          rcases hdo : vDo op [(x.f1.f0, x.f1.f1), (y.f1.f0, y.f1.f1)] with ⟨⟨r1, r2⟩, r3⟩
          have HD := Sd.mk (do2_any op x.f1.f0 x.f1.f1 y.f1.f0 y.f1.f1 w7 hdo)
          rw [hdo] at HR2
          clear hdo
          generalize hjr : vJoinL x.f0 y.f0 = jr at HVj Hcj HR2 ⊢
          obtain ⟨jl, jb⟩ := jr
          simp only at HVj Hcj HR2 ⊢
          clear hjr
          go_wp2_with fail
          refine HD.out.mono ?_
          rintro e w8 ⟨rfl, hb8⟩
          have HB8 := Sd.mk (HB7.out.trans ((hb8.mono (Nat.le_refl _)).mono HB7.out.size))
          have hba := bal hb8 (.cells #[.int .i64 r1, .int .i64 r2] 25)
          have hbb := bal HB8.out (.cells #[.int .i64 r1, .int .i64 r2] 25)
          have HVW := Sd.mk (Kd.R_below HVj.out hba)
          have HOW := Sd.mk (Kd.N_below HO2.out (HY.out.trans (hbb.mono HY.out.size)))
          have HWW := Sd.mk (HW2.out.trans ((HY.out.trans (hbb.mono HY.out.size)).mono HW2.out.size))
          have HXW := Sd.mk (blk_below HX2.out (HY.out.trans (hbb.mono HY.out.size)))
          clear hb8 hba hbb c0 c1 c2 g0 g1 g2
          go_wp2_with ((with_reducible refine gate_builtin (b := .append) (xs := #[.tmp 81, .tmp 85]) rfl ?_); at_builtin; refine Kd.N_append k37 (w0 := w3) w3.heap.size rfl (.tmp 81) (.tmp 85) 33 37 (.agg #[(.slice none 0 0), (.int .i64 0), (.int .i64 0)]) 40 rfl Tryz.underlying33 info37 rfl (by decide) (by omega) u6 (out0 ++ rowJ op x (List.take j q)) (⟨jl, ⟨r1, r2⟩⟩ : Ser) [.slice Aj jl.length cj, .int .i64 r1, .int .i64 r2] (fun _ => True) (fun k => w6.heap.size ≤ k) rfl ?aX ?aP ?aK ?aF ?aO ?aB ?aS ?aL ?_; (case aX => first | rfl | (go_simp; done)); (case aP => exact FK_new (Kd.R_F HVW.out) Hcj.out); (case aK => exact HN6.out); (case aF => exact (fun _ _ => trivial)); (case aO => exact HOW.out); (case aB => exact HWW.out); (case aS => exact HWW.out.size); (case aL => exact HLen.out); intro v7 w9 ho hb9 hg9 hat9; have HO9 := Sd.mk ho; have HW9 := Sd.mk hb9; have HX9 := Sd.mk ((hg9.block _ (Array.getElem?_eq_some_iff.1 HXW.out).1 HN2.out).trans HXW.out); have HN9 := Sd.mk (own_ne hat9 HN2.out (Array.getElem?_eq_some_iff.1 HXW.out).1); clear ho hb9 hg9 hat9)
          go_roundw
          case rel => exact ⟨j + 1, by omega, by go_num, ⟨by rw [HR2.out, ← List.append_assoc]; exact HO9.out⟩, HW9, HX9, HN9⟩
          case measure => simp [intOf]; omega
         | false =>
          have HRt := Sd.mk (HRs.out.trans (by exact List.append_nil _ : (rowJ op x (List.take j q) ++ (if (false || false) = true then [joinS op x y] else [])) = rowJ op x (List.take j q)))
          go_wp2_with fail
          refine (HI1.out _ (Below.refl _ _)).mono ?_
          rintro e w5 ⟨rfl, hb5⟩
          have HB5 := Sd.mk hb5
          have HC5 := Sd.mk (HI2.out w5 hb5)
          replace c0 := pw_cell_below hb5 c0
          replace c1 := pw_cell_below hb5 c1
          replace c2 := pw_cell_below hb5 c2
          replace g0 := pw_cell_below hb5 g0
          replace g1 := pw_cell_below hb5 g1
          replace g2 := pw_cell_below hb5 g2
          clear hb5 HI1 HI2 HRs
          go_wp2_with fail
          refine HC5.out.mono ?_
          rintro e w6 ⟨rfl, hb6⟩
          have hb7 := HY.out.trans ((HB5.out.trans (hb6.mono HB5.out.size)).mono HY.out.size)
          have HO6 := Sd.mk (Kd.N_below HO2.out hb7)
          have HW6 := Sd.mk (HW2.out.trans (hb7.mono HW2.out.size))
          have HX6 := Sd.mk (blk_below HX2.out hb7)
          clear hb6 hb7 HC5 HB5 c0 c1 c2 g0 g1 g2
          go_wp2
          go_roundw
          case rel => exact ⟨j + 1, by omega, by go_num, ⟨by rw [HRt.out]; exact HO6.out⟩, HW6, HX6, HN2⟩
          case measure => simp [intOf]; omega
       ·have m1 : decide ((j : Int) < (q.length : Int)) = false := decide_eq_false (by omega)
        have m2 : decide (j < q.length) = false := decide_eq_false hlj
        have hj' : j = q.length := by omega
        have HE := Sd.mk (show pairsJ op (p.take (i + 1)) q = out0 ++ rowJ op x (q.take j) by rw [HPst.out, hj', List.take_length])
        clear hj' hlj hj
        go_wp2
        go_roundw
        case rel => exact ⟨i + 1, by omega, by go_num, ⟨by rw [HE.out]; exact HO2.out⟩, HW2⟩
        case measure => simp [intOf]; omega
     ·have n1 : decide ((i : Int) < (p.length : Int)) = false := decide_eq_false (by omega)
      have n2 : decide (i < p.length) = false := decide_eq_false hlt
      have hi' : i = p.length := by omega
      have HE := Sd.mk (show pairsJ op (p.take i) q = pairsJ op p q by rw [hi', List.take_length])
      rw [HE.out] at HO
      obtain ⟨A6, c6, rfl, _, hC6⟩ := Kd.N_reads HO.out
      have HS := Sd.mk (ssort_calls A6 c6 (pairsJ op p q) HOK.out wo hC6)
      rcases hsr : vSort (pairsJ op p q) with ⟨sl, se⟩
      rw [hsr] at HS
      have HSR := Sd.mk hsr
      clear hsr
      clear hi' hlt hi hC6 HE HO
      go_wp2_with fail
      refine HS.out.mono ?_
      rintro e w9 ⟨v9, rfl, hv9, hb9⟩
      have hw3 := HB3.out.size
      have HV9 := Sd.mk (Kd.N_lower hv9 (Nat.le_trans hw3 HW.out.size))
      have HB9 := Sd.mk (HB3.out.trans ((HW.out.trans (hb9.mono HW.out.size)).mono hw3))
      clear hv9 hb9 hw3
      go_wp2
      go_ret2
      exact ⟨v9, by rw [HSR.out]; rfl, by rw [HSR.out]; exact HV9.out, HB9.out⟩
   ·rw [if_neg hk]
    rw [decide_eq_false hk] at HK
    clear hk HMa HMb
    go_enter Tryz.func19, Tryz.ntmps19
    go_wp2_with fail
    refine HSa.out.mono ?_
    rintro e w1 ⟨va, rfl, hva, hb1⟩
    have HB1 := Sd.mk hb1
    have HSb1 := Sd.mk (HSb.out w1 hb1)
    clear hva hb1 HSb HSa
    go_wp2_with fail
    refine HSb1.out.mono ?_
    rintro e w2 ⟨vb, rfl, hvb, hb2⟩
    have HB2 := Sd.mk (HB1.out.trans (hb2.mono HB1.out.size))
    clear hvb hb2 HB1 HSb1
    go_wp2_with fail
    refine (HK.out w2).mono ?_
    rintro e w3 ⟨rfl, hb3⟩
    have HB3 := Sd.mk (HB2.out.trans (hb3.mono HB2.out.size))
    clear hb3
    go_wp2
    go_ret2
    exact ⟨.slice none 0 0, rfl, Kd.N_nil _ _ _ _ _, HB3.out⟩
  ·rw [if_neg h2]
   have n0 : (e2 == 0) = false := by simpa using h2
   have n1 : (e2 != 0) = true := by simpa using h2
   clear h2 HMa HMb HK
   go_enter Tryz.func19, Tryz.ntmps19
   go_wp2_with fail
   refine HSa.out.mono ?_
   rintro e w1 ⟨va, rfl, hva, hb1⟩
   have HB1 := Sd.mk hb1
   have HSb1 := Sd.mk (HSb.out w1 hb1)
   clear hva hb1 HSb HSa
   go_wp2_with fail
   refine HSb1.out.mono ?_
   rintro e w2 ⟨vb, rfl, hvb, hb2⟩
   have HB2 := Sd.mk (HB1.out.trans (hb2.mono HB1.out.size))
   clear hvb hb2 HB1 HSb1
   go_wp2
   go_ret2
   exact ⟨.slice none 0 0, rfl, Kd.N_nil _ _ _ _ _, HB2.out⟩
 ·rw [if_neg h1]
  have n0 : (e1 == 0) = false := by simpa using h1
  have n1 : (e1 != 0) = true := by simpa using h1
  clear h1 HMa HMb HK HSb
  go_enter Tryz.func19, Tryz.ntmps19
  go_wp2_with fail
  refine HSa.out.mono ?_
  rintro e w1 ⟨va, rfl, hva, hb1⟩
  have HB1 := Sd.mk hb1
  clear hva hb1 HSa
  go_wp2
  go_ret2
  exact ⟨.slice none 0 0, rfl, Kd.N_nil _ _ _ _ _, HB1.out⟩
attribute [local go_sem] max2_int min2_int max_two min_two max_three min_three max_four min_four   -- for this text's walks alone
mutual
def r8_one.j0 : Nat → ByteArray → Int → Int → Option (Int × Int × Bool)
 | 0, _, _, _ => none
 | k + 1, x0, x243000, x243001 => if x243000 = 2 then (some (x243000, x243001, true)) else (if x0.toList = ([33] : List UInt8) then ((r8_True.f x243000 x243001).bind fun t255 => ((r8_Truth.f (!t255)).bind fun bt256 => (some (bt256.1, bt256.2, true)))) else (if x243000 = 3 then (some (x243000, x243001, true)) else (if x0.toList = ([45] : List UInt8) then (r8_one.j1 k x0 true x243000 x243001) else (if x0.toList = ([97, 98, 115] : List UInt8) then ((r8_sign.f k x243000 x243001).bind fun t258 => (r8_one.j1 k x0 (decide (t258 < 0)) x243000 x243001)) else (r8_one.j1 k x0 false x243000 x243001)))))
def r8_one.j1 : Nat → ByteArray → Bool → Int → Int → Option (Int × Int × Bool)
 | 0, _, _, _, _ => none
 | k + 1, x0, x58, x243000, x243001 => if x58 = true then ((r8_turned.f x243000 x243001).bind fun bt259 => (some (bt259.1, bt259.2, true))) else (if x0.toList = ([102, 108, 111, 111, 114] : List UInt8) then ((r8_num.f x243000 x243001).bind fun t261 => (r8_one.j2 k t261 x243000 x243001)) else (r8_one.j2 k false x243000 x243001))
def r8_one.j2 : Nat → Bool → Int → Int → Option (Int × Int × Bool)
 | 0, _, _, _ => none
 | k + 1, x72, x243000, x243001 => if x72 = true then (if (Int.tmod x243001 1000) < 0 then ((r8_Num.f (wrap64 (x243001 - (wrap64 ((Int.tmod x243001 1000) + 1000))))).bind fun bt262 => (some (bt262.1, bt262.2, true))) else ((r8_Num.f (wrap64 (x243001 - (Int.tmod x243001 1000)))).bind fun bt264 => (some (bt264.1, bt264.2, true)))) else (some (x243000, x243001, true))
end
def r8_one.f (k : Nat) (a0 : ByteArray) (a1_0 : Int) (a1_1 : Int) : Option (Int × Int × Bool) := if a0.toList = ([105, 115, 95, 110, 117, 108, 108] : List UInt8) then ((r8_Truth.f (a1_0 == 2)).bind fun bt244 => (some (bt244.1, bt244.2, true))) else (if a0.toList = ([105, 115, 95, 110, 97, 110] : List UInt8) then ((r8_Truth.f (a1_0 == 3)).bind fun bt246 => (some (bt246.1, bt246.2, true))) else (if a0.toList = ([105, 115, 95, 105, 110, 102] : List UInt8) then (if a1_0 = 4 then ((r8_Truth.f true).bind fun bt248 => (some (bt248.1, bt248.2, true))) else ((r8_Truth.f (a1_0 == 5)).bind fun bt250 => (some (bt250.1, bt250.2, true)))) else (if a0.toList = ([105, 115, 95, 110, 117, 109, 98, 101, 114] : List UInt8) then ((r8_num.f a1_0 a1_1).bind fun t252 => ((r8_Truth.f t252).bind fun bt253 => (some (bt253.1, bt253.2, true)))) else (if a0.toList = ([45] : List UInt8) then (r8_one.j0 k a0 a1_0 a1_1) else (if a0.toList = ([97, 98, 115] : List UInt8) then (r8_one.j0 k a0 a1_0 a1_1) else (if a0.toList = ([102, 108, 111, 111, 114] : List UInt8) then (r8_one.j0 k a0 a1_0 a1_1) else (if a0.toList = ([33] : List UInt8) then (r8_one.j0 k a0 a1_0 a1_1) else (some (0, 0, false)))))))))
theorem r8_one.calls (k : Nat) (a0 : ByteArray) (a1_0 : Int) (a1_1 : Int) (r1 : Int) (r2 : Int) (r3 : Bool) (w : World) (h : r8_one.f k a0 a1_0 a1_1 = some (r1, r2, r3)) :
  Calls Tryz.prog 60 #[.string a0, .agg #[.int .i64 a1_0, .int .i64 a1_1]] w fun e w' => e = .returned (.tuple #[.agg #[.int .i64 r1, .int .i64 r2], .bool r3]) ∧ Below w.heap.size w w' := by
 have hu25 := Tryz.underlying25
 have HB := Sd.mk (Below.refl w.heap.size w)
 have H : (if a0.toList = ([105, 115, 95, 110, 117, 108, 108] : List UInt8) then ((r8_Truth.f (a1_0 == 2)).bind fun bt244 => (some (bt244.1, bt244.2, true))) else (if a0.toList = ([105, 115, 95, 110, 97, 110] : List UInt8) then ((r8_Truth.f (a1_0 == 3)).bind fun bt246 => (some (bt246.1, bt246.2, true))) else (if a0.toList = ([105, 115, 95, 105, 110, 102] : List UInt8) then (if a1_0 = 4 then ((r8_Truth.f true).bind fun bt248 => (some (bt248.1, bt248.2, true))) else ((r8_Truth.f (a1_0 == 5)).bind fun bt250 => (some (bt250.1, bt250.2, true)))) else (if a0.toList = ([105, 115, 95, 110, 117, 109, 98, 101, 114] : List UInt8) then ((r8_num.f a1_0 a1_1).bind fun t252 => ((r8_Truth.f t252).bind fun bt253 => (some (bt253.1, bt253.2, true)))) else (if a0.toList = ([45] : List UInt8) then (r8_one.j0 k a0 a1_0 a1_1) else (if a0.toList = ([97, 98, 115] : List UInt8) then (r8_one.j0 k a0 a1_0 a1_1) else (if a0.toList = ([102, 108, 111, 111, 114] : List UInt8) then (r8_one.j0 k a0 a1_0 a1_1) else (if a0.toList = ([33] : List UInt8) then (r8_one.j0 k a0 a1_0 a1_1) else (some (0, 0, false)))))))))) = some (r1, r2, r3) := h
 clear h
 have HC3 := Sd.mk H
 clear H
 go_enter Tryz.func60, Tryz.ntmps60
 go_upto_block 0 with (first | ((with_reducible refine gate_dst (N := 3) rfl ?_); refine bxe (N := 3) (cs := #[.int .i64 a1_0, .int .i64 a1_1]) (t := 25) ?_; intro gb242 hg w4 hbox hb; have BK242 := Sd.mk hbox; have GW242 := bge w hg; have GE242 := bge w hg; replace HB := bsq w hb; clear hb hbox hg) | ((with_reducible refine gate_dst (N := 4) rfl ?_); refine bxe (N := 4) (cs := #[.int .i64 0, .int .i64 0]) (t := 25) ?_; intro gb243 hg w5 hbox hb; have BK243 := Sd.mk hbox; have GW243 := bge w hg; have GE243 := bge w hg; have NB242_243 := bnl BK242 hg; have NB243_242 := bng BK242 hg; replace BK242 := bkb BK242 hb; replace HB := bsq w hb; clear hb hbox hg))
 (try simp only [Act.put, List.setIfInBounds_toArray, List.set_cons_zero, List.set_cons_succ])
 go_cut [] (fun wc => ∃ (kq : Nat) (x244000_2 : Int) (x244001_2 : Int), Sd (r8_one.j0 kq a0 a1_0 a1_1 = some (r1, r2, r3)) ∧ Sd (kq ≤ k) ∧ Sd (wc.heap[gb242]? = some (.cells #[.int .i64 a1_0, .int .i64 a1_1] 25 (0, 0))) ∧ Sd (wc.heap[gb243]? = some (.cells #[.int .i64 x244000_2, .int .i64 x244001_2] 25 (0, 0))) ∧ Sd (Below w.heap.size w wc))
 case first =>
  have H := HC3.out
  clear HC3
  by_cases c6 : a0.toList = ([105, 115, 95, 110, 117, 108, 108] : List UInt8)
  ·rw [if_pos c6] at H
   have c6b0 : (a0.toList == ([105, 115, 95, 110, 117, 108, 108] : List UInt8)) = true := beq_iff_eq.mpr c6
   have c6b1 : (a0.toList != ([105, 115, 95, 110, 117, 108, 108] : List UInt8)) = false := bne_eq_false_iff_eq.mpr c6
   clear c6
   (first | rw [c6b0] | (simp only [i64_w, i32_w]; rw [c6b0]) | skip)
   obtain ⟨⟨t244, t245⟩, A7, H⟩ := bnd H
   replace H : (some (t244, t245, true)) = some (r1, r2, r3) := H
   simp only [Option.some.injEq, Prod.mk.injEq] at H
   obtain ⟨rfl, rfl, rfl⟩ := H
   have hnb8 := NB242_243.out
   have hnc8 := NB243_242.out
   obtain ⟨hcz9_0, hcz9_1, hfz9_0, hfz9_1⟩ := bz BK242
   go_wp2_with (first | ((with_reducible refine gate_callee (f := 95) rfl ?_); refine goesL_ (some 14) rfl rfl Tryz.func95 (by kernel_rfl) rfl #[.bool (a1_0 == 2)] rfl ma ?_; (with_reducible refine (r8_Truth.calls (a1_0 == 2) t244 t245 _ A7.out).mono ?_); rintro e w10 ⟨rfl, hb⟩; refine ⟨_, rfl, ?_⟩; replace BK242 := bkb BK242 hb; replace BK243 := bkb BK243 hb; replace HB := bsq w hb; (try clear hb); have hcz11_0 := bz0 BK243; have hcz11_1 := bz1 BK243; have hfz11_0 := blk_frozen BK243.out 0; have hfz11_1 := blk_frozen BK243.out 1))
   refine bodyPost_ret (results_ct rfl _ _ gb243 25 #[.int .i64 t244, .int .i64 t245] (0, 0) _ rfl (by (repeat refine dw ?_); refine blk_put (cs := #[.int .i64 t244, .int .i64 0]) ?_ 1 _ rfl; (repeat refine dw ?_); refine blk_put (cs := #[.int .i64 0, .int .i64 0]) ?_ 0 _ rfl; (repeat refine dw ?_); exact BK243.out) Tryz.underlying25 rfl (by kernel_rfl)) rfl ?_
   exact ⟨fe, bbl⟩
  ·rw [if_neg c6] at H
   have c6b0 : (a0.toList == ([105, 115, 95, 110, 117, 108, 108] : List UInt8)) = false := beq_eq_false_iff_ne.mpr c6
   have c6b1 : (a0.toList != ([105, 115, 95, 110, 117, 108, 108] : List UInt8)) = true := bne_iff_ne.mpr c6
   (first | rw [c6b0] | (simp only [i64_w, i32_w]; rw [c6b0]) | skip)
   by_cases c12 : a0.toList = ([105, 115, 95, 110, 97, 110] : List UInt8)
   ·rw [if_pos c12] at H
    have c12b0 : (a0.toList == ([105, 115, 95, 110, 97, 110] : List UInt8)) = true := beq_iff_eq.mpr c12
    have c12b1 : (a0.toList != ([105, 115, 95, 110, 97, 110] : List UInt8)) = false := bne_eq_false_iff_eq.mpr c12
    clear c12
    obtain ⟨⟨t246, t247⟩, A13, H⟩ := bnd H
    replace H : (some (t246, t247, true)) = some (r1, r2, r3) := H
    simp only [Option.some.injEq, Prod.mk.injEq] at H
    obtain ⟨rfl, rfl, rfl⟩ := H
    have hnb14 := NB242_243.out
    have hnc14 := NB243_242.out
    obtain ⟨hcz15_0, hcz15_1, hfz15_0, hfz15_1⟩ := bz BK242
    go_wp2_with (first | ((with_reducible refine gate_callee (f := 95) rfl ?_); refine goesL_ (some 20) rfl rfl Tryz.func95 (by kernel_rfl) rfl #[.bool (a1_0 == 3)] rfl ma ?_; (with_reducible refine (r8_Truth.calls (a1_0 == 3) t246 t247 _ A13.out).mono ?_); rintro e w16 ⟨rfl, hb⟩; refine ⟨_, rfl, ?_⟩; replace BK242 := bkb BK242 hb; replace BK243 := bkb BK243 hb; replace HB := bsq w hb; (try clear hb); have hcz17_0 := bz0 BK243; have hcz17_1 := bz1 BK243; have hfz17_0 := blk_frozen BK243.out 0; have hfz17_1 := blk_frozen BK243.out 1))
    refine bodyPost_ret (results_ct rfl _ _ gb243 25 #[.int .i64 t246, .int .i64 t247] (0, 0) _ rfl (by (repeat refine dw ?_); refine blk_put (cs := #[.int .i64 t246, .int .i64 0]) ?_ 1 _ rfl; (repeat refine dw ?_); refine blk_put (cs := #[.int .i64 0, .int .i64 0]) ?_ 0 _ rfl; (repeat refine dw ?_); exact BK243.out) Tryz.underlying25 rfl (by kernel_rfl)) rfl ?_
    exact ⟨fe, bbl⟩
   ·rw [if_neg c12] at H
    have c12b0 : (a0.toList == ([105, 115, 95, 110, 97, 110] : List UInt8)) = false := beq_eq_false_iff_ne.mpr c12
    have c12b1 : (a0.toList != ([105, 115, 95, 110, 97, 110] : List UInt8)) = true := bne_iff_ne.mpr c12
    by_cases c18 : a0.toList = ([105, 115, 95, 105, 110, 102] : List UInt8)
    ·rw [if_pos c18] at H
     have c18b0 : (a0.toList == ([105, 115, 95, 105, 110, 102] : List UInt8)) = true := beq_iff_eq.mpr c18
     have c18b1 : (a0.toList != ([105, 115, 95, 105, 110, 102] : List UInt8)) = false := bne_eq_false_iff_eq.mpr c18
     clear c18
     by_cases c19 : a1_0 = 4
     ·rw [if_pos c19] at H
      have c19b0 := beq_iff_eq.mpr c19
      have c19b1 := bne_eq_false_iff_eq.mpr c19
      clear c19
      obtain ⟨⟨t248, t249⟩, A20, H⟩ := bnd H
      replace H : (some (t248, t249, true)) = some (r1, r2, r3) := H
      simp only [Option.some.injEq, Prod.mk.injEq] at H
      obtain ⟨rfl, rfl, rfl⟩ := H
      have hnb21 := NB242_243.out
      have hnc21 := NB243_242.out
      obtain ⟨hcz22_0, hcz22_1, hfz22_0, hfz22_1⟩ := bz BK242
      go_wp2_with (first | ((with_reducible refine gate_callee (f := 95) rfl ?_); refine goesL_ (some 31) rfl rfl Tryz.func95 (by kernel_rfl) rfl #[.bool true] rfl ma ?_; (with_reducible refine (r8_Truth.calls true t248 t249 _ A20.out).mono ?_); rintro e w23 ⟨rfl, hb⟩; refine ⟨_, rfl, ?_⟩; replace BK242 := bkb BK242 hb; replace BK243 := bkb BK243 hb; replace HB := bsq w hb; (try clear hb); have hcz24_0 := bz0 BK243; have hcz24_1 := bz1 BK243; have hfz24_0 := blk_frozen BK243.out 0; have hfz24_1 := blk_frozen BK243.out 1))
      refine bodyPost_ret (results_ct rfl _ _ gb243 25 #[.int .i64 t248, .int .i64 t249] (0, 0) _ rfl (by (repeat refine dw ?_); refine blk_put (cs := #[.int .i64 t248, .int .i64 0]) ?_ 1 _ rfl; (repeat refine dw ?_); refine blk_put (cs := #[.int .i64 0, .int .i64 0]) ?_ 0 _ rfl; (repeat refine dw ?_); exact BK243.out) Tryz.underlying25 rfl (by kernel_rfl)) rfl ?_
      exact ⟨fe, bbl⟩
     ·rw [if_neg c19] at H
      have c19b0 := beq_eq_false_iff_ne.mpr c19
      have c19b1 := bne_iff_ne.mpr c19
      obtain ⟨⟨t250, t251⟩, A25, H⟩ := bnd H
      replace H : (some (t250, t251, true)) = some (r1, r2, r3) := H
      simp only [Option.some.injEq, Prod.mk.injEq] at H
      obtain ⟨rfl, rfl, rfl⟩ := H
      have hnb26 := NB242_243.out
      have hnc26 := NB243_242.out
      obtain ⟨hcz27_0, hcz27_1, hfz27_0, hfz27_1⟩ := bz BK242
      go_wp2_with (first | ((with_reducible refine gate_callee (f := 95) rfl ?_); refine goesL_ (some 31) rfl rfl Tryz.func95 (by kernel_rfl) rfl #[.bool (a1_0 == 5)] rfl ma ?_; (with_reducible refine (r8_Truth.calls (a1_0 == 5) t250 t251 _ A25.out).mono ?_); rintro e w28 ⟨rfl, hb⟩; refine ⟨_, rfl, ?_⟩; replace BK242 := bkb BK242 hb; replace BK243 := bkb BK243 hb; replace HB := bsq w hb; (try clear hb); have hcz29_0 := bz0 BK243; have hcz29_1 := bz1 BK243; have hfz29_0 := blk_frozen BK243.out 0; have hfz29_1 := blk_frozen BK243.out 1))
      refine bodyPost_ret (results_ct rfl _ _ gb243 25 #[.int .i64 t250, .int .i64 t251] (0, 0) _ rfl (by (repeat refine dw ?_); refine blk_put (cs := #[.int .i64 t250, .int .i64 0]) ?_ 1 _ rfl; (repeat refine dw ?_); refine blk_put (cs := #[.int .i64 0, .int .i64 0]) ?_ 0 _ rfl; (repeat refine dw ?_); exact BK243.out) Tryz.underlying25 rfl (by kernel_rfl)) rfl ?_
      exact ⟨fe, bbl⟩
    ·rw [if_neg c18] at H
     have c18b0 : (a0.toList == ([105, 115, 95, 105, 110, 102] : List UInt8)) = false := beq_eq_false_iff_ne.mpr c18
     have c18b1 : (a0.toList != ([105, 115, 95, 105, 110, 102] : List UInt8)) = true := bne_iff_ne.mpr c18
     by_cases c30 : a0.toList = ([105, 115, 95, 110, 117, 109, 98, 101, 114] : List UInt8)
     ·rw [if_pos c30] at H
      have c30b0 : (a0.toList == ([105, 115, 95, 110, 117, 109, 98, 101, 114] : List UInt8)) = true := beq_iff_eq.mpr c30
      have c30b1 : (a0.toList != ([105, 115, 95, 110, 117, 109, 98, 101, 114] : List UInt8)) = false := bne_eq_false_iff_eq.mpr c30
      clear c30
      obtain ⟨t252, A31, H⟩ := bnd H
      obtain ⟨⟨t253, t254⟩, A32, H⟩ := bnd H
      replace H : (some (t253, t254, true)) = some (r1, r2, r3) := H
      simp only [Option.some.injEq, Prod.mk.injEq] at H
      obtain ⟨rfl, rfl, rfl⟩ := H
      have hnb33 := NB242_243.out
      have hnc33 := NB243_242.out
      obtain ⟨hcz34_0, hcz34_1, hfz34_0, hfz34_1⟩ := bz BK242
      go_wp2_with (first | ((with_reducible refine gate_callee (f := 84) rfl ?_); refine goesL_ (some 35) rfl rfl Tryz.func84 (by kernel_rfl) rfl #[.agg #[.int .i64 a1_0, .int .i64 a1_1]] rfl ma ?_; (with_reducible refine (r8_num.calls a1_0 a1_1 t252 _ A31.out).mono ?_); rintro e w35 ⟨rfl, hb⟩; refine ⟨_, rfl, ?_⟩; replace BK242 := bkb BK242 hb; replace BK243 := bkb BK243 hb; replace HB := bsq w hb; (try clear hb)) | ((with_reducible refine gate_callee (f := 95) rfl ?_); refine goesL_ (some 36) rfl rfl Tryz.func95 (by kernel_rfl) rfl #[.bool t252] rfl ma ?_; (with_reducible refine (r8_Truth.calls t252 t253 t254 _ A32.out).mono ?_); rintro e w36 ⟨rfl, hb⟩; refine ⟨_, rfl, ?_⟩; replace BK242 := bkb BK242 hb; replace BK243 := bkb BK243 hb; replace HB := bsq w hb; (try clear hb); have hcz37_0 := bz0 BK243; have hcz37_1 := bz1 BK243; have hfz37_0 := blk_frozen BK243.out 0; have hfz37_1 := blk_frozen BK243.out 1))
      refine bodyPost_ret (results_ct rfl _ _ gb243 25 #[.int .i64 t253, .int .i64 t254] (0, 0) _ rfl (by (repeat refine dw ?_); refine blk_put (cs := #[.int .i64 t253, .int .i64 0]) ?_ 1 _ rfl; (repeat refine dw ?_); refine blk_put (cs := #[.int .i64 0, .int .i64 0]) ?_ 0 _ rfl; (repeat refine dw ?_); exact BK243.out) Tryz.underlying25 rfl (by kernel_rfl)) rfl ?_
      exact ⟨fe, bbl⟩
     ·rw [if_neg c30] at H
      have c30b0 : (a0.toList == ([105, 115, 95, 110, 117, 109, 98, 101, 114] : List UInt8)) = false := beq_eq_false_iff_ne.mpr c30
      have c30b1 : (a0.toList != ([105, 115, 95, 110, 117, 109, 98, 101, 114] : List UInt8)) = true := bne_iff_ne.mpr c30
      by_cases c38 : a0.toList = ([45] : List UInt8)
      ·rw [if_pos c38] at H
       have c38b0 : (a0.toList == ([45] : List UInt8)) = true := beq_iff_eq.mpr c38
       have c38b1 : (a0.toList != ([45] : List UInt8)) = false := bne_eq_false_iff_eq.mpr c38
       clear c38
       have H' := Sd.mk H
       clear H
       go_wp2
       go_meet
       case rel => exact ⟨_, (0), (0), H', ⟨by first | omega | exact Nat.le_refl _⟩, fwK BK242, fwK BK243, ⟨bbl⟩⟩
      ·rw [if_neg c38] at H
       have c38b0 : (a0.toList == ([45] : List UInt8)) = false := beq_eq_false_iff_ne.mpr c38
       have c38b1 : (a0.toList != ([45] : List UInt8)) = true := bne_iff_ne.mpr c38
       by_cases c39 : a0.toList = ([97, 98, 115] : List UInt8)
       ·rw [if_pos c39] at H
        have c39b0 : (a0.toList == ([97, 98, 115] : List UInt8)) = true := beq_iff_eq.mpr c39
        have c39b1 : (a0.toList != ([97, 98, 115] : List UInt8)) = false := bne_eq_false_iff_eq.mpr c39
        clear c39
        have H' := Sd.mk H
        clear H
        go_wp2
        go_meet
        case rel => exact ⟨_, (0), (0), H', ⟨by first | omega | exact Nat.le_refl _⟩, fwK BK242, fwK BK243, ⟨bbl⟩⟩
       ·rw [if_neg c39] at H
        have c39b0 : (a0.toList == ([97, 98, 115] : List UInt8)) = false := beq_eq_false_iff_ne.mpr c39
        have c39b1 : (a0.toList != ([97, 98, 115] : List UInt8)) = true := bne_iff_ne.mpr c39
        by_cases c40 : a0.toList = ([102, 108, 111, 111, 114] : List UInt8)
        ·rw [if_pos c40] at H
         have c40b0 : (a0.toList == ([102, 108, 111, 111, 114] : List UInt8)) = true := beq_iff_eq.mpr c40
         have c40b1 : (a0.toList != ([102, 108, 111, 111, 114] : List UInt8)) = false := bne_eq_false_iff_eq.mpr c40
         clear c40
         have H' := Sd.mk H
         clear H
         go_wp2
         go_meet
         case rel => exact ⟨_, (0), (0), H', ⟨by first | omega | exact Nat.le_refl _⟩, fwK BK242, fwK BK243, ⟨bbl⟩⟩
        ·rw [if_neg c40] at H
         have c40b0 : (a0.toList == ([102, 108, 111, 111, 114] : List UInt8)) = false := beq_eq_false_iff_ne.mpr c40
         have c40b1 : (a0.toList != ([102, 108, 111, 111, 114] : List UInt8)) = true := bne_iff_ne.mpr c40
         by_cases c41 : a0.toList = ([33] : List UInt8)
         ·rw [if_pos c41] at H
          have c41b0 : (a0.toList == ([33] : List UInt8)) = true := beq_iff_eq.mpr c41
          have c41b1 : (a0.toList != ([33] : List UInt8)) = false := bne_eq_false_iff_eq.mpr c41
          clear c41
          have H' := Sd.mk H
          clear H
          go_wp2
          go_meet
          case rel => exact ⟨_, (0), (0), H', ⟨by first | omega | exact Nat.le_refl _⟩, fwK BK242, fwK BK243, ⟨bbl⟩⟩
         ·rw [if_neg c41] at H
          have c41b0 : (a0.toList == ([33] : List UInt8)) = false := beq_eq_false_iff_ne.mpr c41
          have c41b1 : (a0.toList != ([33] : List UInt8)) = true := bne_iff_ne.mpr c41
          simp only [Option.some.injEq, Prod.mk.injEq] at H
          obtain ⟨rfl, rfl, rfl⟩ := H
          have hnb42 := NB243_242.out
          have hnc42 := NB242_243.out
          obtain ⟨hcz43_0, hcz43_1, hfz43_0, hfz43_1⟩ := bz BK243
          go_wp2
          refine bodyPost_ret (results_ct rfl _ _ gb243 25 #[.int .i64 0, .int .i64 0] (0, 0) _ rfl (by (repeat refine dw ?_); refine blk_put (cs := #[.int .i64 0, .int .i64 0]) ?_ 1 _ rfl; (repeat refine dw ?_); refine blk_put (cs := #[.int .i64 0, .int .i64 0]) ?_ 0 _ rfl; (repeat refine dw ?_); exact BK243.out) Tryz.underlying25 rfl (by kernel_rfl)) rfl ?_
          exact ⟨fe, bbl⟩
 case rest =>
  clear HC3
  obtain ⟨kq, x244000_2, x244001_2, HA, HJ2, BK242, BK243, HB⟩ := hcut
  cases kq with
  | zero => exact absurd HA.out (by simp [r8_one.j0])
  | succ kj2 =>
   have H := HA.out
   clear HA
   simp only [r8_one.j0] at H
   by_cases c44 : a1_0 = 2
   ·rw [if_pos c44] at H
    have c44b0 := beq_iff_eq.mpr c44
    have c44b1 := bne_eq_false_iff_eq.mpr c44
    clear c44
    simp only [Option.some.injEq, Prod.mk.injEq] at H
    obtain ⟨rfl, rfl, rfl⟩ := H
    have hnb45 := NB242_243.out
    have hnc45 := NB243_242.out
    obtain ⟨hcz46_0, hcz46_1, hfz46_0, hfz46_1⟩ := bz BK242
    obtain ⟨hcz47_0, hcz47_1, hfz47_0, hfz47_1⟩ := bz BK243
    go_wp2
    refine bodyPost_ret (results_ct rfl _ _ gb243 25 #[.int .i64 a1_0, .int .i64 a1_1] (0, 0) _ rfl (by (repeat refine dw ?_); refine blk_put (cs := #[.int .i64 a1_0, .int .i64 x244001_2]) ?_ 1 _ rfl; (repeat refine dw ?_); refine blk_put (cs := #[.int .i64 x244000_2, .int .i64 x244001_2]) ?_ 0 _ rfl; (repeat refine dw ?_); exact BK243.out) Tryz.underlying25 rfl (by kernel_rfl)) rfl ?_
    exact ⟨fe, bbl⟩
   ·rw [if_neg c44] at H
    have c44b0 := beq_eq_false_iff_ne.mpr c44
    have c44b1 := bne_iff_ne.mpr c44
    by_cases c48 : a0.toList = ([33] : List UInt8)
    ·rw [if_pos c48] at H
     have c48b0 : (a0.toList == ([33] : List UInt8)) = true := beq_iff_eq.mpr c48
     have c48b1 : (a0.toList != ([33] : List UInt8)) = false := bne_eq_false_iff_eq.mpr c48
     clear c48
     obtain ⟨t255, A49, H⟩ := bnd H
     obtain ⟨⟨t256, t257⟩, A50, H⟩ := bnd H
     replace H : (some (t256, t257, true)) = some (r1, r2, r3) := H
     simp only [Option.some.injEq, Prod.mk.injEq] at H
     obtain ⟨rfl, rfl, rfl⟩ := H
     have hnb51 := NB242_243.out
     have hnc51 := NB243_242.out
     obtain ⟨hcz52_0, hcz52_1, hfz52_0, hfz52_1⟩ := bz BK242
     go_wp2_with (first | ((with_reducible refine gate_callee (f := 65) rfl ?_); refine goesL_ (some 50) rfl rfl Tryz.func65 (by kernel_rfl) rfl #[.agg #[.int .i64 a1_0, .int .i64 a1_1]] rfl ma ?_; (with_reducible refine (r8_True.calls a1_0 a1_1 t255 _ A49.out).mono ?_); rintro e w53 ⟨rfl, hb⟩; refine ⟨_, rfl, ?_⟩; replace BK242 := bkb BK242 hb; replace BK243 := bkb BK243 hb; replace HB := bsq w hb; (try clear hb)) | ((with_reducible refine gate_callee (f := 95) rfl ?_); refine goesL_ (some 52) rfl rfl Tryz.func95 (by kernel_rfl) rfl #[.bool (!t255)] rfl ma ?_; (with_reducible refine (r8_Truth.calls (!t255) t256 t257 _ A50.out).mono ?_); rintro e w54 ⟨rfl, hb⟩; refine ⟨_, rfl, ?_⟩; replace BK242 := bkb BK242 hb; replace BK243 := bkb BK243 hb; replace HB := bsq w hb; (try clear hb); have hcz55_0 := bz0 BK243; have hcz55_1 := bz1 BK243; have hfz55_0 := blk_frozen BK243.out 0; have hfz55_1 := blk_frozen BK243.out 1))
     refine bodyPost_ret (results_ct rfl _ _ gb243 25 #[.int .i64 t256, .int .i64 t257] (0, 0) _ rfl (by (repeat refine dw ?_); refine blk_put (cs := #[.int .i64 t256, .int .i64 x244001_2]) ?_ 1 _ rfl; (repeat refine dw ?_); refine blk_put (cs := #[.int .i64 x244000_2, .int .i64 x244001_2]) ?_ 0 _ rfl; (repeat refine dw ?_); exact BK243.out) Tryz.underlying25 rfl (by kernel_rfl)) rfl ?_
     exact ⟨fe, bbl⟩
    ·rw [if_neg c48] at H
     have c48b0 : (a0.toList == ([33] : List UInt8)) = false := beq_eq_false_iff_ne.mpr c48
     have c48b1 : (a0.toList != ([33] : List UInt8)) = true := bne_iff_ne.mpr c48
     by_cases c56 : a1_0 = 3
     ·rw [if_pos c56] at H
      have c56b0 := beq_iff_eq.mpr c56
      have c56b1 := bne_eq_false_iff_eq.mpr c56
      clear c56
      simp only [Option.some.injEq, Prod.mk.injEq] at H
      obtain ⟨rfl, rfl, rfl⟩ := H
      have hnb57 := NB242_243.out
      have hnc57 := NB243_242.out
      obtain ⟨hcz58_0, hcz58_1, hfz58_0, hfz58_1⟩ := bz BK242
      obtain ⟨hcz59_0, hcz59_1, hfz59_0, hfz59_1⟩ := bz BK243
      go_wp2
      refine bodyPost_ret (results_ct rfl _ _ gb243 25 #[.int .i64 a1_0, .int .i64 a1_1] (0, 0) _ rfl (by (repeat refine dw ?_); refine blk_put (cs := #[.int .i64 a1_0, .int .i64 x244001_2]) ?_ 1 _ rfl; (repeat refine dw ?_); refine blk_put (cs := #[.int .i64 x244000_2, .int .i64 x244001_2]) ?_ 0 _ rfl; (repeat refine dw ?_); exact BK243.out) Tryz.underlying25 rfl (by kernel_rfl)) rfl ?_
      exact ⟨fe, bbl⟩
     ·rw [if_neg c56] at H
      have c56b0 := beq_eq_false_iff_ne.mpr c56
      have c56b1 := bne_iff_ne.mpr c56
      have HC60 := Sd.mk H
      clear H
      have hnb61 := NB242_243.out
      have hnc61 := NB243_242.out
      obtain ⟨hcz62_0, hcz62_1, hfz62_0, hfz62_1⟩ := bz BK242
      go_upto_region 21 with (fail)
      go_cut [58] (fun v58 wc => ∃ (kq : Nat) (x58_59 : Bool), v58 = .bool x58_59 ∧ Sd (r8_one.j1 kq a0 x58_59 a1_0 a1_1 = some (r1, r2, r3)) ∧ Sd (kq ≤ kj2) ∧ Sd (wc.heap[gb242]? = some (.cells #[.int .i64 a1_0, .int .i64 a1_1] 25 (0, 0))) ∧ Sd (wc.heap[gb243]? = some (.cells #[.int .i64 x244000_2, .int .i64 x244001_2] 25 (0, 0))) ∧ Sd (Below w.heap.size w wc))
      case first =>
       have H := HC60.out
       clear HC60
       by_cases c63 : a0.toList = ([45] : List UInt8)
       ·rw [if_pos c63] at H
        have c63b0 : (a0.toList == ([45] : List UInt8)) = true := beq_iff_eq.mpr c63
        have c63b1 : (a0.toList != ([45] : List UInt8)) = false := bne_eq_false_iff_eq.mpr c63
        clear c63
        (first | rw [c63b0] | (simp only [i64_w, i32_w]; rw [c63b0]) | skip)
        have H' := Sd.mk H
        clear H
        go_wp2
        go_meet
        case rel => exact ⟨_, (true), ae, H', ⟨by have := HJ2.out; first | omega | exact Nat.le_refl _⟩, fwK BK242, fwK BK243, ⟨bbl⟩⟩
       ·rw [if_neg c63] at H
        have c63b0 : (a0.toList == ([45] : List UInt8)) = false := beq_eq_false_iff_ne.mpr c63
        have c63b1 : (a0.toList != ([45] : List UInt8)) = true := bne_iff_ne.mpr c63
        (first | rw [c63b0] | (simp only [i64_w, i32_w]; rw [c63b0]) | skip)
        by_cases c64 : a0.toList = ([97, 98, 115] : List UInt8)
        ·rw [if_pos c64] at H
         have c64b0 : (a0.toList == ([97, 98, 115] : List UInt8)) = true := beq_iff_eq.mpr c64
         have c64b1 : (a0.toList != ([97, 98, 115] : List UInt8)) = false := bne_eq_false_iff_eq.mpr c64
         clear c64
         obtain ⟨t258, A65, H⟩ := bnd H
         have H' := Sd.mk H
         clear H
         have hnb66 := NB242_243.out
         have hnc66 := NB243_242.out
         obtain ⟨hcz67_0, hcz67_1, hfz67_0, hfz67_1⟩ := bz BK242
         go_wp2_with (first | (go_at_call 96; (with_reducible refine (r8_sign.calls kj2 a1_0 a1_1 t258 _ A65.out).mono ?_); rintro e w68 ⟨rfl, hb⟩; replace BK242 := bkb BK242 hb; replace BK243 := bkb BK243 hb; replace HB := bsq w hb; (try clear hb)))
         go_meet
         case rel => exact ⟨_, (decide (t258 < 0)), ae, H', ⟨by have := HJ2.out; first | omega | exact Nat.le_refl _⟩, fwK BK242, fwK BK243, ⟨bbl⟩⟩
        ·rw [if_neg c64] at H
         have c64b0 : (a0.toList == ([97, 98, 115] : List UInt8)) = false := beq_eq_false_iff_ne.mpr c64
         have c64b1 : (a0.toList != ([97, 98, 115] : List UInt8)) = true := bne_iff_ne.mpr c64
         have H' := Sd.mk H
         clear H
         go_wp2
         go_meet
         case rel => exact ⟨_, (false), ae, H', ⟨by have := HJ2.out; first | omega | exact Nat.le_refl _⟩, fwK BK242, fwK BK243, ⟨bbl⟩⟩
      case rest =>
       clear HC60
       obtain ⟨kq, x58_59, rfl, HA, HJ59, BK242, BK243, HB⟩ := hcut
       cases kq with
       | zero => exact absurd HA.out (by simp [r8_one.j1])
       | succ kj59 =>
        have H := HA.out
        clear HA
        simp only [r8_one.j1] at H
        by_cases c69 : x58_59 = true
        ·subst c69
         replace H := iT H
         obtain ⟨⟨t259, t260⟩, A70, H⟩ := bnd H
         replace H : (some (t259, t260, true)) = some (r1, r2, r3) := H
         simp only [Option.some.injEq, Prod.mk.injEq] at H
         obtain ⟨rfl, rfl, rfl⟩ := H
         have hnb71 := NB242_243.out
         have hnc71 := NB243_242.out
         obtain ⟨hcz72_0, hcz72_1, hfz72_0, hfz72_1⟩ := bz BK242
         go_wp2_with (first | ((with_reducible refine gate_callee (f := 97) rfl ?_); refine goesL_ (some 71) rfl rfl Tryz.func97 (by kernel_rfl) rfl #[.agg #[.int .i64 a1_0, .int .i64 a1_1]] rfl ma ?_; (with_reducible refine (r8_turned.calls a1_0 a1_1 t259 t260 _ A70.out).mono ?_); rintro e w73 ⟨rfl, hb⟩; refine ⟨_, rfl, ?_⟩; replace BK242 := bkb BK242 hb; replace BK243 := bkb BK243 hb; replace HB := bsq w hb; (try clear hb); have hcz74_0 := bz0 BK243; have hcz74_1 := bz1 BK243; have hfz74_0 := blk_frozen BK243.out 0; have hfz74_1 := blk_frozen BK243.out 1))
         refine bodyPost_ret (results_ct rfl _ _ gb243 25 #[.int .i64 t259, .int .i64 t260] (0, 0) _ rfl (by (repeat refine dw ?_); refine blk_put (cs := #[.int .i64 t259, .int .i64 x244001_2]) ?_ 1 _ rfl; (repeat refine dw ?_); refine blk_put (cs := #[.int .i64 x244000_2, .int .i64 x244001_2]) ?_ 0 _ rfl; (repeat refine dw ?_); exact BK243.out) Tryz.underlying25 rfl (by kernel_rfl)) rfl ?_
         exact ⟨fe, bbl⟩
        ·replace c69 := Bool.eq_false_iff.mpr c69
         subst c69
         replace H := iF H
         have HC75 := Sd.mk H
         clear H
         go_upto_region 23 with (fail)
         go_cut [72] (fun v72 wc => ∃ (kq : Nat) (x72_74 : Bool), v72 = .bool x72_74 ∧ Sd (r8_one.j2 kq x72_74 a1_0 a1_1 = some (r1, r2, r3)) ∧ Sd (kq ≤ kj59) ∧ Sd (wc.heap[gb242]? = some (.cells #[.int .i64 a1_0, .int .i64 a1_1] 25 (0, 0))) ∧ Sd (wc.heap[gb243]? = some (.cells #[.int .i64 x244000_2, .int .i64 x244001_2] 25 (0, 0))) ∧ Sd (Below w.heap.size w wc))
         case first =>
          have H := HC75.out
          clear HC75
          by_cases c76 : a0.toList = ([102, 108, 111, 111, 114] : List UInt8)
          ·rw [if_pos c76] at H
           have c76b0 : (a0.toList == ([102, 108, 111, 111, 114] : List UInt8)) = true := beq_iff_eq.mpr c76
           have c76b1 : (a0.toList != ([102, 108, 111, 111, 114] : List UInt8)) = false := bne_eq_false_iff_eq.mpr c76
           clear c76
           (first | rw [c76b0] | (simp only [i64_w, i32_w]; rw [c76b0]) | skip)
           obtain ⟨t261, A77, H⟩ := bnd H
           have H' := Sd.mk H
           clear H
           have hnb78 := NB242_243.out
           have hnc78 := NB243_242.out
           obtain ⟨hcz79_0, hcz79_1, hfz79_0, hfz79_1⟩ := bz BK242
           go_wp2_with (first | (go_at_call 84; (with_reducible refine (r8_num.calls a1_0 a1_1 t261 _ A77.out).mono ?_); rintro e w80 ⟨rfl, hb⟩; replace BK242 := bkb BK242 hb; replace BK243 := bkb BK243 hb; replace HB := bsq w hb; (try clear hb)))
           go_meet
           case rel => exact ⟨_, (t261), ae, H', ⟨by have := HJ2.out; have := HJ59.out; first | omega | exact Nat.le_refl _⟩, fwK BK242, fwK BK243, ⟨bbl⟩⟩
          ·rw [if_neg c76] at H
           have c76b0 : (a0.toList == ([102, 108, 111, 111, 114] : List UInt8)) = false := beq_eq_false_iff_ne.mpr c76
           have c76b1 : (a0.toList != ([102, 108, 111, 111, 114] : List UInt8)) = true := bne_iff_ne.mpr c76
           (first | rw [c76b0] | (simp only [i64_w, i32_w]; rw [c76b0]) | skip)
           have H' := Sd.mk H
           clear H
           go_wp2
           go_meet
           case rel => exact ⟨_, (false), ae, H', ⟨by have := HJ2.out; have := HJ59.out; first | omega | exact Nat.le_refl _⟩, fwK BK242, fwK BK243, ⟨bbl⟩⟩
         case rest =>
          clear HC75
          obtain ⟨kq, x72_74, rfl, HA, HJ74, BK242, BK243, HB⟩ := hcut
          cases kq with
          | zero => exact absurd HA.out (by simp [r8_one.j2])
          | succ kj74 =>
           have H := HA.out
           clear HA
           simp only [r8_one.j2] at H
           by_cases c81 : x72_74 = true
           ·subst c81
            replace H := iT H
            by_cases c82 : (Int.tmod a1_1 1000) < 0
            ·rw [if_pos c82] at H
             have c82b0 : decide ((Int.tmod a1_1 1000) < 0) = true := decide_eq_true c82
             clear c82
             obtain ⟨⟨t262, t263⟩, A83, H⟩ := bnd H
             replace H : (some (t262, t263, true)) = some (r1, r2, r3) := H
             simp only [Option.some.injEq, Prod.mk.injEq] at H
             obtain ⟨rfl, rfl, rfl⟩ := H
             have hnb84 := NB242_243.out
             have hnc84 := NB243_242.out
             obtain ⟨hcz85_0, hcz85_1, hfz85_0, hfz85_1⟩ := bz BK242
             go_wp2_with (first | ((with_reducible refine gate_callee (f := 27) rfl ?_); refine goesL_ (some 90) rfl rfl Tryz.func27 (by kernel_rfl) rfl #[.int .i64 (wrap64 (a1_1 - (wrap64 ((Int.tmod a1_1 1000) + 1000))))] rfl ma ?_; (with_reducible refine (r8_Num.calls (wrap64 (a1_1 - (wrap64 ((Int.tmod a1_1 1000) + 1000)))) t262 t263 _ A83.out).mono ?_); rintro e w86 ⟨rfl, hb⟩; refine ⟨_, rfl, ?_⟩; replace BK242 := bkb BK242 hb; replace BK243 := bkb BK243 hb; replace HB := bsq w hb; (try clear hb); have hcz87_0 := bz0 BK243; have hcz87_1 := bz1 BK243; have hfz87_0 := blk_frozen BK243.out 0; have hfz87_1 := blk_frozen BK243.out 1))
             refine bodyPost_ret (results_ct rfl _ _ gb243 25 #[.int .i64 t262, .int .i64 t263] (0, 0) _ rfl (by (repeat refine dw ?_); refine blk_put (cs := #[.int .i64 t262, .int .i64 x244001_2]) ?_ 1 _ rfl; (repeat refine dw ?_); refine blk_put (cs := #[.int .i64 x244000_2, .int .i64 x244001_2]) ?_ 0 _ rfl; (repeat refine dw ?_); exact BK243.out) Tryz.underlying25 rfl (by kernel_rfl)) rfl ?_
             exact ⟨fe, bbl⟩
            ·rw [if_neg c82] at H
             have c82b0 : decide ((Int.tmod a1_1 1000) < 0) = false := decide_eq_false c82
             clear c82
             obtain ⟨⟨t264, t265⟩, A88, H⟩ := bnd H
             replace H : (some (t264, t265, true)) = some (r1, r2, r3) := H
             simp only [Option.some.injEq, Prod.mk.injEq] at H
             obtain ⟨rfl, rfl, rfl⟩ := H
             have hnb89 := NB242_243.out
             have hnc89 := NB243_242.out
             obtain ⟨hcz90_0, hcz90_1, hfz90_0, hfz90_1⟩ := bz BK242
             go_wp2_with (first | ((with_reducible refine gate_callee (f := 27) rfl ?_); refine goesL_ (some 90) rfl rfl Tryz.func27 (by kernel_rfl) rfl #[.int .i64 (wrap64 (a1_1 - (Int.tmod a1_1 1000)))] rfl ma ?_; (with_reducible refine (r8_Num.calls (wrap64 (a1_1 - (Int.tmod a1_1 1000))) t264 t265 _ A88.out).mono ?_); rintro e w91 ⟨rfl, hb⟩; refine ⟨_, rfl, ?_⟩; replace BK242 := bkb BK242 hb; replace BK243 := bkb BK243 hb; replace HB := bsq w hb; (try clear hb); have hcz92_0 := bz0 BK243; have hcz92_1 := bz1 BK243; have hfz92_0 := blk_frozen BK243.out 0; have hfz92_1 := blk_frozen BK243.out 1))
             refine bodyPost_ret (results_ct rfl _ _ gb243 25 #[.int .i64 t264, .int .i64 t265] (0, 0) _ rfl (by (repeat refine dw ?_); refine blk_put (cs := #[.int .i64 t264, .int .i64 x244001_2]) ?_ 1 _ rfl; (repeat refine dw ?_); refine blk_put (cs := #[.int .i64 x244000_2, .int .i64 x244001_2]) ?_ 0 _ rfl; (repeat refine dw ?_); exact BK243.out) Tryz.underlying25 rfl (by kernel_rfl)) rfl ?_
             exact ⟨fe, bbl⟩
           ·replace c81 := Bool.eq_false_iff.mpr c81
            subst c81
            replace H := iF H
            simp only [Option.some.injEq, Prod.mk.injEq] at H
            obtain ⟨rfl, rfl, rfl⟩ := H
            have hnb93 := NB242_243.out
            have hnc93 := NB243_242.out
            obtain ⟨hcz94_0, hcz94_1, hfz94_0, hfz94_1⟩ := bz BK242
            obtain ⟨hcz95_0, hcz95_1, hfz95_0, hfz95_1⟩ := bz BK243
            go_wp2
            refine bodyPost_ret (results_ct rfl _ _ gb243 25 #[.int .i64 a1_0, .int .i64 a1_1] (0, 0) _ rfl (by (repeat refine dw ?_); refine blk_put (cs := #[.int .i64 a1_0, .int .i64 x244001_2]) ?_ 1 _ rfl; (repeat refine dw ?_); refine blk_put (cs := #[.int .i64 x244000_2, .int .i64 x244001_2]) ?_ 0 _ rfl; (repeat refine dw ?_); exact BK243.out) Tryz.underlying25 rfl (by kernel_rfl)) rfl ?_
            exact ⟨fe, bbl⟩
def r8_Null.f  : Option (Int × Int) := some (2, 0)
theorem r8_Null.calls  (r1 : Int) (r2 : Int) (w : World) (h : r8_Null.f  = some (r1, r2)) :
  Calls Tryz.prog 28 #[] w fun e w' => e = .returned (.agg #[.int .i64 r1, .int .i64 r2]) ∧ Below w.heap.size w w' := by
 have hu25 := Tryz.underlying25
 have HB := Sd.mk (Below.refl w.heap.size w)
 have H : (some (2, 0)) = some (r1, r2) := h
 clear h
 simp only [Option.some.injEq, Prod.mk.injEq] at H
 obtain ⟨rfl, rfl⟩ := H
 go_enter Tryz.func28, Tryz.ntmps28
 go_wp2_with (first | ((with_reducible refine gate_dst (N := 0) rfl ?_); refine bxe (N := 0) (cs := #[.int .i64 0, .int .i64 0]) (t := 25) ?_; intro gb266 hg w1 hbox hb; have BK266 := Sd.mk hbox; have GW266 := bge w hg; have GE266 := bge w hg; replace HB := bsq w hb; clear hb hbox hg; have hcz2_0 := bz0 BK266; have hcz2_1 := bz1 BK266; have hfz2_0 := blk_frozen BK266.out 0; have hfz2_1 := blk_frozen BK266.out 1))
 refine bodyPost_ret (results_cell_row rfl _ _ gb266 25 #[.int .i64 2, .int .i64 0] (0, 0) _ rfl (by (repeat refine dw ?_); refine blk_put (cs := #[.int .i64 2, .int .i64 0]) ?_ 1 _ rfl; (repeat refine dw ?_); refine blk_put (cs := #[.int .i64 0, .int .i64 0]) ?_ 0 _ rfl; (repeat refine dw ?_); exact BK266.out) Tryz.underlying25 rfl (by kernel_rfl)) rfl ?_
 exact ⟨fe, bbl⟩
def r8_NaN.f  : Option (Int × Int) := some (3, 0)
theorem r8_NaN.calls  (r1 : Int) (r2 : Int) (w : World) (h : r8_NaN.f  = some (r1, r2)) :
  Calls Tryz.prog 29 #[] w fun e w' => e = .returned (.agg #[.int .i64 r1, .int .i64 r2]) ∧ Below w.heap.size w w' := by
 have hu25 := Tryz.underlying25
 have HB := Sd.mk (Below.refl w.heap.size w)
 have H : (some (3, 0)) = some (r1, r2) := h
 clear h
 simp only [Option.some.injEq, Prod.mk.injEq] at H
 obtain ⟨rfl, rfl⟩ := H
 go_enter Tryz.func29, Tryz.ntmps29
 go_wp2_with (first | ((with_reducible refine gate_dst (N := 0) rfl ?_); refine bxe (N := 0) (cs := #[.int .i64 0, .int .i64 0]) (t := 25) ?_; intro gb267 hg w1 hbox hb; have BK267 := Sd.mk hbox; have GW267 := bge w hg; have GE267 := bge w hg; replace HB := bsq w hb; clear hb hbox hg; have hcz2_0 := bz0 BK267; have hcz2_1 := bz1 BK267; have hfz2_0 := blk_frozen BK267.out 0; have hfz2_1 := blk_frozen BK267.out 1))
 refine bodyPost_ret (results_cell_row rfl _ _ gb267 25 #[.int .i64 3, .int .i64 0] (0, 0) _ rfl (by (repeat refine dw ?_); refine blk_put (cs := #[.int .i64 3, .int .i64 0]) ?_ 1 _ rfl; (repeat refine dw ?_); refine blk_put (cs := #[.int .i64 0, .int .i64 0]) ?_ 0 _ rfl; (repeat refine dw ?_); exact BK267.out) Tryz.underlying25 rfl (by kernel_rfl)) rfl ?_
 exact ⟨fe, bbl⟩
/-- Blocks that stand: what each holds, of what type. -/
structure Bk (w : World) (L : List (Nat × Array Value × TypeId)) (w1 : World) : Prop where
 b : Below w.heap.size w w1
 r : ∀ x ∈ L, w1.heap[x.1]? = some (.cells x.2.1 x.2.2 (0, 0))
theorem Bk.start (w : World) : Bk w [] w := ⟨Below.refl _ _, fun x h => by cases h⟩
theorem Bk.below {w w1 w2 : World} {L : List (Nat × Array Value × TypeId)} (h : Bk w L w1) (hb : Below w1.heap.size w1 w2) : Bk w L w2 :=
 ⟨h.b.trans (hb.mono h.b.size), fun x hx => blk_below (h.r x hx) hb⟩
theorem Bk.push {w w1 : World} {L : List (Nat × Array Value × TypeId)} (h : Bk w L w1) (cs : Array Value) (t : TypeId) : Bk w ((w1.heap.size, cs, t) :: L) (w1.alloc (.cells cs t)) :=
 ⟨(h.below (below1 w1 _)).b, fun x hx => by
  rcases List.mem_cons.1 hx with rfl | hx
  ·exact blk_new w1 _
  ·exact (h.below (below1 w1 _)).r x hx⟩
theorem Bk.get {w w1 : World} {L : List (Nat × Array Value × TypeId)} (h : Bk w L w1) {n : Nat} {cs : Array Value} {t : TypeId} (hx : (n, cs, t) ∈ L) : w1.heap[n]? = some (.cells cs t (0, 0)) := h.r _ hx
theorem Bk.cell {w w1 : World} {L : List (Nat × Array Value × TypeId)} (h : Bk w L w1) {n : Nat} {cs : Array Value} {t : TypeId} (hx : (n, cs, t) ∈ L) {i : Nat} {u : Value} (hu : cs[i]? = some u) : w1.cell? ⟨n, i, none⟩ = some u := (blk_cell (h.r _ hx) i).trans hu
theorem flat_get {α : Type} (sz : Nat) : ∀ (xs : List (α × List Value)) (j : Nat) (p : α × List Value), (∀ q ∈ xs, q.2.length = sz) → xs[j]? = some p → ∀ i u, p.2[i]? = some u → (xs.flatMap (·.2))[j * sz + i]? = some u
 | [], j, p, _, h, _, _, _ => by simp at h
 | q :: xs, 0, p, hs, h, i, u, hu => by
  simp only [List.getElem?_cons_zero, Option.some.injEq] at h
  subst h
  rw [List.flatMap_cons, Nat.zero_mul, Nat.zero_add, List.getElem?_append_left (List.getElem?_eq_some_iff.1 hu).1]
  exact hu
 | q :: xs, j + 1, p, hs, h, i, u, hu => by
  simp only [List.getElem?_cons_succ] at h
  have ih := flat_get sz xs j p (fun r hr => hs r (List.mem_cons_of_mem _ hr)) h i u hu
  have hl := hs q List.mem_cons_self
  rw [List.flatMap_cons, List.getElem?_append_right (by rw [hl, Nat.add_mul]; omega)]
  rw [show (j + 1) * sz + i - q.2.length = j * sz + i by rw [hl, Nat.add_mul]; omega]
  exact ih
/-- A row whose cells stand in a block: what they read as. -/
theorem row_of {α : Type} (d : Kd α) {W : World} {g : Nat} {t : TypeId} (xs : List (α × List Value)) (hk : ∀ q ∈ xs, d.K W q.1 q.2) (hm : xs.length ≤ 9223372036854775807) (h : W.heap[g]? = some (.cells (xs.flatMap (·.2)).toArray t (0, 0))) : Kd.C d W (some ⟨g, 0, none⟩) xs.length (xs.map (·.1)) := by
 refine ⟨by simp, hm, fun _ => ⟨_, rfl, fun j p hp => ?_⟩⟩
 rw [List.getElem?_map] at hp
 obtain ⟨q, hq, rfl⟩ := Option.map_eq_some_iff.1 hp
 have hmem := List.mem_of_getElem? hq
 refine ⟨q.2, d.K_len (hk q hmem), hk q hmem, fun i u hu => ?_⟩
 rw [add_at, Nat.zero_add, blk_cell h]
 rw [List.getElem?_toArray]
 exact flat_get d.sz xs j q (fun r hr => d.K_len (hk r hr)) hq i u hu
theorem rnum_calls (n : Int) (h0 : -1000000000000000 ≤ n) (h1 : n ≤ 1000000000000000) (w : World) : Calls Tryz.prog 27 #[.int .i64 n] w fun e w' => e = .returned (.agg #[.int .i64 1, .int .i64 n]) ∧ Below w.heap.size w w' :=
 r8_Num.calls n 1 n w (by unfold r8_Num.f; rw [if_neg (by omega), if_neg (by omega)])
theorem rnull_calls (w : World) : Calls Tryz.prog 28 #[] w fun e w' => e = .returned (.agg #[.int .i64 2, .int .i64 0]) ∧ Below w.heap.size w w' := r8_Null.calls 2 0 w rfl
theorem rnan_calls (w : World) : Calls Tryz.prog 29 #[] w fun e w' => e = .returned (.agg #[.int .i64 3, .int .i64 0]) ∧ Below w.heap.size w w' := r8_NaN.calls 3 0 w rfl
/-- The document's 'same' of two that are. -/
theorem same_calls (A B : Option Addr) (c d : Nat) (l : List Ser) (hl : SersOk l) (w : World) (hA : Kd.C k37 w A l.length l) (hc : l.length ≤ c) (hB : Kd.C k37 w B l.length l) (hd : l.length ≤ d) :
  Calls Tryz.prog 16 #[.slice A l.length c, .slice B l.length d] w fun e w' => e = .returned (.bool true) ∧ Below w.heap.size w w' := by
 obtain ⟨k, hk⟩ := (sameS_ev l hl).rounds
 refine (r10_Same.calls k A c l B d l true w hA hc hB hd hk).mono fun e w' ⟨he, hw⟩ => ⟨he, ?_⟩
 obtain ⟨n, rfl⟩ := hw
 exact pbd (Below.refl _ _) n
theorem redH_calls (how : ByteArray) (strict : Bool) (A : Option Addr) (n c : Nat) (hk : howOk how = false) (w : World) :
  Calls Tryz.prog 10 #[.string how, .bool strict, .slice A n c] w fun e w' => e = .returned (.tuple #[.agg #[.int .i64 0, .int .i64 0], .int .i64 100]) ∧ Below w.heap.size w w' := by
 have hb0 := below1 w (.cells #[.int .i64 0, .int .i64 0] 25)
 have X0 := Sd.mk (blk_new w (.cells #[.int .i64 0, .int .i64 0] 25))
 have HB0 := Sd.mk hb0
 have HH := Sd.mk (howOk_calls how (w.alloc (.cells #[.int .i64 0, .int .i64 0] 25)))
 simp only [World.size_alloc] at HH
 rw [hk] at HH
 have mixed : Tryz.prog.follows .mixedOrders = true := by kernel_rfl
 clear hb0
 go_enter Tryz.func10, Tryz.ntmps10
 go_wp2_with fail
 refine HH.out.mono ?_
 rintro e w1 ⟨rfl, hb0⟩
 have hb1 : Below (w.alloc (.cells #[.int .i64 0, .int .i64 0] 25)).heap.size (w.alloc (.cells #[.int .i64 0, .int .i64 0] 25)) w1 := hb0.mono (by simp)
 have HB1 := Sd.mk (HB0.out.trans (hb1.mono HB0.out.size))
 have K1 := Sd.mk (blk_below X0.out hb1)
 clear hb0 hb1
 have d0 := (blk_cell K1.out 0).trans rfl
 have d1 := (blk_cell K1.out 1).trans rfl
 have f0 := blk_frozen K1.out 0
 have f1 := blk_frozen K1.out 1
 go_wp2
 exact bodyPost_ret (v := .tuple #[.agg #[.int .i64 0, .int .i64 0], .int .i64 100]) (by simp [results, Tryz.results10, go_sem, d0, d1]) rfl ⟨rfl, (HB1.out.setCell (by simp) _).setCell (by simp) _⟩
theorem redN_calls (how : ByteArray) (hm : how.toList = hMean) (hk : howOk how = true) (A : Option Addr) (c : Nat) (l : List Pt) (hl : l.length * 24 ≤ 140737488355328) (h2 : l.length ≤ 2000) (hn : ((l.length : Int) == 0) = false) (hbad : l.any badP = false) (hod : l.any oddP = true) (w : World) (hr : Kd.C k39 w A l.length l) (hc : l.length ≤ c) :
  Calls Tryz.prog 10 #[.string how, .bool true, .slice A l.length c] w fun e w' => e = .returned (.tuple #[.agg #[.int .i64 3, .int .i64 0], .int .i64 0]) ∧ Below w.heap.size w w' := by
 have hb0 := below1 w (.cells #[.int .i64 0, .int .i64 0] 25)
 have X0 := Sd.mk (blk_new w (.cells #[.int .i64 0, .int .i64 0] 25))
 have HB0 := Sd.mk hb0
 have HH := Sd.mk (howOk_calls how (w.alloc (.cells #[.int .i64 0, .int .i64 0] 25)))
 simp only [World.size_alloc] at HH
 rw [hk] at HH
 have mixed : Tryz.prog.follows .mixedOrders = true := by kernel_rfl
 have HR := Sd.mk hr
 have HC := Sd.mk hc
 have HL := Sd.mk hl
 have eg1 : ∀ args w, (callFunc 32 args).run Tryz.prog w = .ok (.enter 32 args) w := enters_of Tryz.func32 (by kernel_rfl) rfl
 have eg3 : ∀ args w, (callFunc 41 args).run Tryz.prog w = .ok (.enter 41 args) w := enters_of Tryz.func41 (by kernel_rfl) rfl
 have HBad := Sd.mk (fun (w1 : World) (hb : Below w.heap.size w w1) => containsPoint badP 32 #[] eg1 A c l w1 (Kd.C_below hr hb) (fun x hx w1 cs _ hK => by obtain rfl := k39_open hK; exact red1_calls x w1))
 have HOdd := Sd.mk (fun (p : List Pt) (A1 : Option Addr) (c1 : Nat) (w1 : World) (h : Kd.C k39 w1 A1 p.length p) => containsPoint oddP 41 #[] eg3 A1 c1 p w1 h (fun x hx w1 cs _ hK => by obtain rfl := k39_open hK; exact odd3_calls x w1))
 rw [hbad] at HBad
 have b1 : decide ((l.length : Int) > 2000) = false := decide_eq_false (by omega)
 have b2 : decide (2000 < l.length) = false := decide_eq_false (by omega)
 have hq1 : (how.toList == [99, 111, 117, 110, 116]) = false := by rw [hm]; rfl
 have hq3 : (how.toList == [108, 97, 115, 116]) = false := by rw [hm]; rfl
 have hq4 : (how.toList == [109, 105, 110]) = false := by rw [hm]; rfl
 have hq5 : (how.toList == [109, 97, 120]) = false := by rw [hm]; rfl
 have hq6 : (how.toList == [115, 117, 109]) = false := by rw [hm]; rfl
 clear hb0 hr hl hc eg1 eg3 hbad hm h2
 go_enter Tryz.func10, Tryz.ntmps10
 go_wp2_with fail
 refine HH.out.mono ?_
 rintro e w1 ⟨rfl, hb0⟩
 have hb1 : Below (w.alloc (.cells #[.int .i64 0, .int .i64 0] 25)).heap.size (w.alloc (.cells #[.int .i64 0, .int .i64 0] 25)) w1 := hb0.mono (by simp)
 have HB1 := Sd.mk (HB0.out.trans (hb1.mono HB0.out.size))
 have K1 := Sd.mk (blk_below X0.out hb1)
 clear hb0 hb1
 have HC1 := Sd.mk (HBad.out w1 HB1.out)
 go_wp2_with fail
 refine HC1.out.mono ?_
 rintro e w2 ⟨rfl, hb2⟩
 have HB2 := Sd.mk (HB1.out.trans (hb2.mono HB1.out.size))
 have K2 := Sd.mk (blk_below K1.out hb2)
 clear hb2 HC1 HH HBad
 have HOd := Sd.mk (HOdd.out l A c w2 (Kd.C_below HR.out HB2.out))
 rw [hod] at HOd
 go_wp2_with fail
 refine HOd.out.mono ?_
 rintro e w8 ⟨rfl, hb8⟩
 have K8 := Sd.mk (blk_below K2.out hb8)
 have HB8 := Sd.mk (HB2.out.trans (hb8.mono HB2.out.size))
 clear hb8
 go_wp2_with fail
 refine (v_NaN.calls 3 0 _ rfl).mono ?_
 rintro e w9 ⟨rfl, hb9⟩
 have KX := Sd.mk (blk_below K8.out hb9)
 have HWX := Sd.mk (HB8.out.trans (hb9.mono HB8.out.size))
 clear hb9
 have d0 := (blk_cell KX.out 0).trans rfl
 have d1 := (blk_cell KX.out 1).trans rfl
 have f0 := blk_frozen KX.out 0
 have f1 := blk_frozen KX.out 1
 go_wp2
 exact bodyPost_ret (v := .tuple #[.agg #[.int .i64 3, .int .i64 0], .int .i64 0]) (by simp [results, Tryz.results10, go_sem, d0, d1]) rfl ⟨rfl, (HWX.out.setCell (by simp) _).setCell (by simp) _⟩
theorem redM_calls (how : ByteArray) (hm : how.toList = hMean) (hk : howOk how = true) (A : Option Addr) (c : Nat) (l : List Pt) (hl : l.length * 24 ≤ 140737488355328) (h2 : l.length ≤ 2000) (hbad : l.any badP = false) {x : Pt} {p' p : List Pt} (hpe : l.filter (fun x => !oddP x) = p) (hp : p = x :: p') (hpn : ((p.length : Int) == 0) = false) (hod : p.any oddP = false) {r1 r2 r3 : Int} (hdo : ∀ t n, totalGo (valP x) p' = t → vNum (1000 * (p.length : Int)) = n → vDo ⟨#[47]⟩ [t, n] = ((r1, r2), r3)) (w : World) (hr : Kd.C k39 w A l.length l) (hc : l.length ≤ c) :
  Calls Tryz.prog 10 #[.string how, .bool false, .slice A l.length c] w fun e w' => e = .returned (.tuple #[.agg #[.int .i64 r1, .int .i64 r2], .int .i64 r3]) ∧ Below w.heap.size w w' := by
 have hb0 := below1 w (.cells #[.int .i64 0, .int .i64 0] 25)
 have X0 := Sd.mk (blk_new w (.cells #[.int .i64 0, .int .i64 0] 25))
 have HB0 := Sd.mk hb0
 have HH := Sd.mk (howOk_calls how (w.alloc (.cells #[.int .i64 0, .int .i64 0] 25)))
 simp only [World.size_alloc] at HH
 rw [hk] at HH
 have mixed : Tryz.prog.follows .mixedOrders = true := by kernel_rfl
 have HR := Sd.mk hr
 have HC := Sd.mk hc
 have HL := Sd.mk hl
 have eg1 : ∀ args w, (callFunc 32 args).run Tryz.prog w = .ok (.enter 32 args) w := enters_of Tryz.func32 (by kernel_rfl) rfl
 have eg3 : ∀ args w, (callFunc 41 args).run Tryz.prog w = .ok (.enter 41 args) w := enters_of Tryz.func41 (by kernel_rfl) rfl
 have HBad := Sd.mk (fun (w1 : World) (hb : Below w.heap.size w w1) => containsPoint badP 32 #[] eg1 A c l w1 (Kd.C_below hr hb) (fun x hx w1 cs _ hK => by obtain rfl := k39_open hK; exact red1_calls x w1))
 have HOdd := Sd.mk (fun (p : List Pt) (A1 : Option Addr) (c1 : Nat) (w1 : World) (h : Kd.C k39 w1 A1 p.length p) => containsPoint oddP 41 #[] eg3 A1 c1 p w1 h (fun x hx w1 cs _ hK => by obtain rfl := k39_open hK; exact odd3_calls x w1))
 rw [hbad] at HBad
 have b1 : decide ((l.length : Int) > 2000) = false := decide_eq_false (by omega)
 have b2 : decide (2000 < l.length) = false := decide_eq_false (by omega)
 have hq1 : (how.toList == [99, 111, 117, 110, 116]) = false := by rw [hm]; rfl
 have hq3 : (how.toList == [108, 97, 115, 116]) = false := by rw [hm]; rfl
 have hq4 : (how.toList == [109, 105, 110]) = false := by rw [hm]; rfl
 have hq5 : (how.toList == [109, 97, 120]) = false := by rw [hm]; rfl
 have hq6 : (how.toList == [115, 117, 109]) = false := by rw [hm]; rfl
 have hpl : p.length ≤ l.length := by rw [← hpe]; exact List.length_filter_le _ _
 have hp4 : p.length < 9223372036854775 := by omega
 have HP := Sd.mk hp
 have HPE := Sd.mk hpe
 have HDO := Sd.mk hdo
 clear hb0 hr hl hc eg1 eg3 hbad hm h2 hp hpe hdo
 go_enter Tryz.func10, Tryz.ntmps10
 go_wp2_with fail
 refine HH.out.mono ?_
 rintro e w1 ⟨rfl, hb0⟩
 have hb1 : Below (w.alloc (.cells #[.int .i64 0, .int .i64 0] 25)).heap.size (w.alloc (.cells #[.int .i64 0, .int .i64 0] 25)) w1 := hb0.mono (by simp)
 have HB1 := Sd.mk (HB0.out.trans (hb1.mono HB0.out.size))
 have K1 := Sd.mk (blk_below X0.out hb1)
 clear hb0 hb1
 have HC1 := Sd.mk (HBad.out w1 HB1.out)
 go_wp2_with fail
 refine HC1.out.mono ?_
 rintro e w2 ⟨rfl, hb2⟩
 have HB2 := Sd.mk (HB1.out.trans (hb2.mono HB1.out.size))
 have K2 := Sd.mk (blk_below K1.out hb2)
 clear hb2 HC1 HH HBad
 go_wp2_with fail
 refine (clonePoint A c l w2 (Kd.C_below HR.out HB2.out) HL.out).mono ?_
 rintro e w3 ⟨v3, rfl, hv3, hb3⟩
 have HDl := Sd.mk (deleteP_calls l v3 w2 w3 hv3 hb3)
 clear hv3 hb3
 go_wp2_with fail
 refine HDl.out.mono ?_
 rintro e w4 ⟨v4, rfl, hv4, hb4⟩
 have HB4 := Sd.mk (HB2.out.trans (hb4.mono HB2.out.size))
 have K4 := Sd.mk (blk_below K2.out hb4)
 rw [HPE.out] at hv4
 obtain ⟨A4, c4, rfl, hc4, hC4⟩ := Kd.R_reads hv4
 have HCp := Sd.mk hC4
 have Hcp := Sd.mk hc4
 clear hv4 hb4 hC4 hc4 HDl K2
 have HOd := Sd.mk (HOdd.out p A4 c4 w4 HCp.out)
 rw [hod] at HOd
 go_wp2_with fail
 refine HOd.out.mono ?_
 rintro e w8 ⟨rfl, hb8⟩
 have HCp8 := Sd.mk (Kd.C_below HCp.out hb8)
 have K8 := Sd.mk (blk_below K4.out hb8)
 have HB8 := Sd.mk (HB4.out.trans (hb8.mono HB4.out.size))
 clear hb8
 have HMy := Sd.mk (total_at A4 c4 HP.out w8 HCp8.out Hcp.out)
 have HMn := Sd.mk (fun (w9 : World) (h : Below w8.heap.size w8 w9) => many_calls A4 c4 p w9 (Kd.C_below HCp8.out h) Hcp.out hp4)
 have HZ5 := Sd.mk (HDO.out _ _ rfl rfl)
 generalize totalGo (valP x) p' = nm at HMy HZ5
 generalize vNum (1000 * (p.length : Int)) = nn at HMn HZ5
 obtain ⟨t1, t2⟩ := nm
 obtain ⟨n1, n2⟩ := nn
 simp only at HMy HMn
 have HD := Sd.mk (fun w1 => do2_any ⟨#[47]⟩ t1 t2 n1 n2 w1 HZ5.out)
 go_wp2_with fail
 refine HMy.out.mono ?_
 rintro e w9 ⟨rfl, hb9⟩
 have K9 := Sd.mk (blk_below K8.out hb9)
 have HB9 := Sd.mk (HB8.out.trans (hb9.mono HB8.out.size))
 have HM9 := Sd.mk (HMn.out w9 hb9)
 clear hb9 HMn
 go_wp2_with fail
 refine HM9.out.mono ?_
 rintro e w10 ⟨rfl, hb10⟩
 have K10 := Sd.mk (blk_below K9.out hb10)
 have HB10 := Sd.mk (HB9.out.trans (hb10.mono HB9.out.size))
 clear hb10
 go_wp2_with fail
 refine (HD.out w10).mono ?_
 rintro e w11 ⟨rfl, hb11⟩
 have KX := Sd.mk (blk_below K10.out hb11)
 have HWX := Sd.mk (HB10.out.trans (hb11.mono HB10.out.size))
 clear hb11
 have d0 := (blk_cell KX.out 0).trans rfl
 have d1 := (blk_cell KX.out 1).trans rfl
 have f0 := blk_frozen KX.out 0
 have f1 := blk_frozen KX.out 1
 go_wp2
 exact bodyPost_ret (v := .tuple #[.agg #[.int .i64 r1, .int .i64 r2], .int .i64 r3]) (by simp [results, Tryz.results10, go_sem, d0, d1]) rfl ⟨rfl, (HWX.out.setCell (by simp) _).setCell (by simp) _⟩
abbrev liveP : List Pt := [⟨0, ⟨1, 1000⟩⟩, ⟨0, ⟨1, 2000⟩⟩, ⟨0, ⟨2, 0⟩⟩]
abbrev lx : List Lab := [⟨⟨#[97]⟩, ⟨#[49]⟩⟩]
abbrev ly : List Lab := [⟨⟨#[97]⟩, ⟨#[49]⟩⟩, ⟨⟨#[98]⟩, ⟨#[49]⟩⟩]
abbrev lz : List Lab := [⟨⟨#[97]⟩, ⟨#[50]⟩⟩]
abbrev sx : Ser := ⟨lx, ⟨1, 1⟩⟩
abbrev sz : Ser := ⟨lz, ⟨1, 2⟩⟩
abbrev sy : Ser := ⟨ly, ⟨1, 10⟩⟩
abbrev sj : Ser := ⟨ly, ⟨1, 11⟩⟩
theorem set_lx : isSet lx = true := by kernel_rfl
theorem set_ly : isSet ly = true := by kernel_rfl
theorem set_lz : isSet lz = true := by kernel_rfl
theorem isV_small (n : Int) (h0 : 0 ≤ n) (h1 : n ≤ 100) : isV ((1 : Int), n) := .inl ⟨rfl, by show (-1000000000000000 : Int) ≤ n; omega, by show n ≤ (1000000000000000 : Int); omega⟩
theorem live_s1 : vSort [sx, sz] = ([sx, sz], 0) := vSort_strict (fun x hx => by
 rcases List.mem_cons.1 hx with rfl | hx
 ·exact set_lx
 ·rw [List.mem_singleton.1 hx]; exact set_lz) (fun x hx => by
 rcases List.mem_cons.1 hx with rfl | hx
 ·exact isV_small 1 (by omega) (by omega)
 ·rw [List.mem_singleton.1 hx]; exact isV_small 2 (by omega) (by omega)) (by
 refine List.pairwise_cons.2 ⟨fun y hy => ?_, List.pairwise_singleton _ _⟩
 rw [List.mem_singleton.1 hy]
 have e : cmpSer sx sz = -1 := by kernel_rfl
 omega) (by decide)
theorem live_s2 : vSort [sy] = ([sy], 0) := vSort_strict (fun x hx => by rw [List.mem_singleton.1 hx]; exact set_ly) (fun x hx => by rw [List.mem_singleton.1 hx]; exact isV_small 10 (by omega) (by omega)) (List.pairwise_singleton _ _) (by decide)
theorem live_s3 : vSort [sj] = ([sj], 0) := vSort_strict (fun x hx => by rw [List.mem_singleton.1 hx]; exact set_ly) (fun x hx => by rw [List.mem_singleton.1 hx]; exact isV_small 11 (by omega) (by omega)) (List.pairwise_singleton _ _) (by decide)
theorem live_j : vJoin ⟨#[43]⟩ [sx, sz] [sy] = ([sj], 0) := by
 have e1 : (vDo ⟨#[43]⟩ [(1, 0), (1, 0)]).2 = 0 := by kernel_rfl
 have f1 : fits sx sy = true := by kernel_rfl
 have f2 : fits sz sy = false := by kernel_rfl
 have hd : vDo ⟨#[43]⟩ [((1 : Int), (1 : Int)), (1, 10)] = ((1, 11), 0) := by kernel_rfl
 have hp : pairsJ ⟨#[43]⟩ [sx, sz] [sy] = [sj] := by
  have r1 : rowJ ⟨#[43]⟩ sx [sy] = [sj] := by
   unfold rowJ
   rw [List.filter_cons_of_pos f1, List.filter_nil, List.map_cons, List.map_nil]
   have h0 := joinS_labels (op := ⟨#[43]⟩) (x := sx) (y := sy) set_lx set_ly f1
   rw [if_pos (by decide)] at h0
   have h1 : (joinS ⟨#[43]⟩ sx sy).f1 = ⟨1, 11⟩ := by unfold joinS; simp only [hd]
   have e : joinS ⟨#[43]⟩ sx sy = ⟨(joinS ⟨#[43]⟩ sx sy).f0, (joinS ⟨#[43]⟩ sx sy).f1⟩ := rfl
   rw [e, h0, h1]
  have r2 : rowJ ⟨#[43]⟩ sz [sy] = [] := by
   unfold rowJ
   rw [List.filter_cons_of_neg (by rw [f2]; simp), List.filter_nil, List.map_nil]
  unfold pairsJ
  rw [List.flatMap_cons, List.flatMap_cons, List.flatMap_nil, r1, r2]; rfl
 unfold vJoin
 rw [live_s1, live_s2]
 simp only [e1, if_true]
 rw [hp]; exact live_s3
theorem sok1 : SersOk [sx, sz] := ⟨by decide, fun x hx => by
 rcases List.mem_cons.1 hx with rfl | hx
 ·exact ⟨by decide, (set_ok set_lx).1⟩
 ·rw [List.mem_singleton.1 hx]; exact ⟨by decide, (set_ok set_lz).1⟩⟩
theorem sok2 : SersOk [sy] := ⟨by decide, fun x hx => by rw [List.mem_singleton.1 hx]; exact ⟨by decide, (set_ok set_ly).1⟩⟩
theorem sok3 : SersOk [sj] := ⟨by decide, fun x hx => by rw [List.mem_singleton.1 hx]; exact ⟨by decide, (set_ok set_ly).1⟩⟩
theorem red1 (A : Option Addr) (c : Nat) (hc : 3 ≤ c) (w : World) (hr : Kd.C k39 w A 3 liveP) : Calls Tryz.prog 10 #[.string ⟨#[109, 101, 97, 110]⟩, .bool false, .slice A 3 c] w fun e w' => e = .returned (.tuple #[.agg #[.int .i64 1, .int .i64 1500], .int .i64 0]) ∧ Below w.heap.size w w' := by
 exact redM_calls ⟨#[109, 101, 97, 110]⟩ (by rw [Lib.toList_data]; rfl) (by kernel_rfl) A c liveP (by decide) (by decide) (by kernel_rfl) (x := ⟨0, ⟨1, 1000⟩⟩) (p' := [⟨0, ⟨1, 2000⟩⟩]) (p := [⟨0, ⟨1, 1000⟩⟩, ⟨0, ⟨1, 2000⟩⟩]) (by kernel_rfl) rfl rfl (by kernel_rfl) (fun t n ht hn => by subst ht; subst hn; kernel_rfl) w hr hc
theorem red2 (A : Option Addr) (c : Nat) (hc : 3 ≤ c) (w : World) (hr : Kd.C k39 w A 3 liveP) : Calls Tryz.prog 10 #[.string ⟨#[109, 101, 97, 110]⟩, .bool true, .slice A 3 c] w fun e w' => e = .returned (.tuple #[.agg #[.int .i64 3, .int .i64 0], .int .i64 0]) ∧ Below w.heap.size w w' := by
 exact redN_calls ⟨#[109, 101, 97, 110]⟩ (by rw [Lib.toList_data]; rfl) (by kernel_rfl) A c liveP (by decide) (by decide) rfl (by kernel_rfl) (by kernel_rfl) w hr hc
theorem red3 (w : World) : Calls Tryz.prog 10 #[.string ⟨#[110, 111, 110, 101]⟩, .bool false, .slice none 0 0] w fun e w' => e = .returned (.tuple #[.agg #[.int .i64 0, .int .i64 0], .int .i64 100]) ∧ Below w.heap.size w w' := by
 exact redH_calls ⟨#[110, 111, 110, 101]⟩ false none 0 0 (by kernel_rfl) w
theorem joinl (A B : Option Addr) (w : World) (hA : Kd.C k37 w A 2 [sx, sz]) (hB : Kd.C k37 w B 1 [sy]) : Calls Tryz.prog 19 #[.string ⟨#[43]⟩, .slice A 2 2, .slice B 1 1] w fun e w' => ∃ v : Value, e = .returned (.tuple #[v, .int .i64 0]) ∧ Kd.N k37 37 w' w.heap.size (fun _ => True) v [sj] ∧ Below w.heap.size w w' := by
 have h := sjoin_calls ⟨#[43]⟩ A B 2 1 [sx, sz] [sy] sok1 sok2 w hA hB
 rw [live_j] at h
 exact h
/-- What stands while the answers are held against each other. -/
def LiveS (w : World) (N1 N2 Y : Nat) (Aj : Option Addr) (cj : Nat) (w' : World) : Prop := Below w.heap.size w w' ∧ w'.cell? ⟨N1, 0, none⟩ = some (.int .i64 1) ∧ w'.cell? ⟨N1, 1, none⟩ = some (.int .i64 1500) ∧ w'.cell? ⟨N2, 0, none⟩ = some (.int .i64 3) ∧ w'.cell? ⟨N2, 1, none⟩ = some (.int .i64 0) ∧ Sd (Kd.C k62 w' (some ⟨Y, 0, none⟩) 2 ly) ∧ Sd (Kd.C k37 w' Aj 1 [sj] ∧ 1 ≤ cj)
theorem LiveS.below {w w1 w2 : World} {N1 N2 Y : Nat} {Aj : Option Addr} {cj : Nat} (h : LiveS w N1 N2 Y Aj cj w1) (hb : Below w1.heap.size w1 w2) : LiveS w N1 N2 Y Aj cj w2 := by
 obtain ⟨h0, h1, h2, h3, h4, h5, h6⟩ := h
 exact ⟨h0.trans (hb.mono h0.size), pw_cell_below hb h1, pw_cell_below hb h2, pw_cell_below hb h3, pw_cell_below hb h4, ⟨Kd.C_below h5.out hb⟩, ⟨⟨Kd.C_below h6.out.1 hb, h6.out.2⟩⟩⟩
theorem LiveS.drew {w w1 : World} {N1 N2 Y : Nat} {Aj : Option Addr} {cj : Nat} (h : LiveS w N1 N2 Y Aj cj w1) : LiveS w N1 N2 Y Aj cj w1.drew := h.below (Below.refl _ _).drew
theorem LiveS.alloc {w w1 : World} {N1 N2 Y : Nat} {Aj : Option Addr} {cj : Nat} (h : LiveS w N1 N2 Y Aj cj w1) (o : Obj) : LiveS w N1 N2 Y Aj cj (w1.alloc o) := h.below (below1 w1 o)
/-- 'Same', at a list that is laid just now. -/
theorem same_fresh {w W : World} {N1 N2 Y : Nat} {Aj : Option Addr} {cj : Nat} (h : LiveS w N1 N2 Y Aj cj W) : Calls Tryz.prog 16 #[.slice Aj 1 cj, .slice (some ⟨W.heap.size, 0, none⟩) 1 1] (W.alloc (.cells #[.slice (some ⟨Y, 0, none⟩) 2 2, .int .i64 1, .int .i64 11] 37)) fun e w' => e = .returned (.bool true) ∧ Below W.heap.size W w' := by
 have hb := below1 W (.cells #[.slice (some ⟨Y, 0, none⟩) 2 2, .int .i64 1, .int .i64 11] 37)
 have h5 := Kd.C_below h.2.2.2.2.2.1.out hb
 have h6 := Kd.C_below h.2.2.2.2.2.2.out.1 hb
 have hC := row_of k37 (g := W.heap.size) [(sj, [.slice (some ⟨Y, 0, none⟩) 2 2, .int .i64 1, .int .i64 11])] (fun q hq => by
  rw [List.mem_singleton.1 hq]
  exact k37_mk _ sj (Nat.le_refl 2) h5) (by simp) (blk_new W _)
 exact (same_calls Aj _ cj 1 [sj] sok3 _ h6 h.2.2.2.2.2.2.out.2 hC (Nat.le_refl 1)).mono fun e w' ⟨he, hw⟩ => ⟨he, hb.trans (hw.mono hb.size)⟩
theorem num_calls10 (n : Int) (w : World) : Calls Tryz.prog 12 #[.int .i64 n] w fun e w' => e = .returned (.int .i64 n) ∧ Below w.heap.size w w' :=
 (l10_num.calls n n w rfl).mono fun e w' ⟨he, hw⟩ => ⟨he, by obtain ⟨m, rfl⟩ := hw; exact pbd (Below.refl _ _) m⟩
def l10_live.f : Option Bool := some true
abbrev cP : Array Value := #[.int .i64 0, .int .i64 1, .int .i64 1000, .int .i64 0, .int .i64 1, .int .i64 2000, .int .i64 0, .int .i64 2, .int .i64 0]
theorem liveP_C {W : World} {g : Nat} (h : W.heap[g]? = some (.cells cP 39 (0, 0))) : Kd.C k39 W (some ⟨g, 0, none⟩) 3 liveP :=
 row_of k39 [(⟨0, ⟨1, 1000⟩⟩, [.int .i64 0, .int .i64 1, .int .i64 1000]), (⟨0, ⟨1, 2000⟩⟩, [.int .i64 0, .int .i64 1, .int .i64 2000]), (⟨0, ⟨2, 0⟩⟩, [.int .i64 0, .int .i64 2, .int .i64 0])] (fun q hq => by
  simp only [List.mem_cons, List.not_mem_nil, or_false] at hq
  rcases hq with rfl | rfl | rfl <;> exact k39_mk _ _) (by simp) h
theorem lab1_C {W : World} {g : Nat} {a b : ByteArray} (h : W.heap[g]? = some (.cells #[.string a, .string b] 62 (0, 0))) : Kd.C k62 W (some ⟨g, 0, none⟩) 1 [⟨a, b⟩] :=
 row_of k62 [(⟨a, b⟩, [.string a, .string b])] (fun q hq => by rw [List.mem_singleton.1 hq]; exact k62_mk _ _) (by simp) h
theorem lab2_C {W : World} {g : Nat} {a b c d : ByteArray} (h : W.heap[g]? = some (.cells #[.string a, .string b, .string c, .string d] 62 (0, 0))) : Kd.C k62 W (some ⟨g, 0, none⟩) 2 [⟨a, b⟩, ⟨c, d⟩] :=
 row_of k62 [(⟨a, b⟩, [.string a, .string b]), (⟨c, d⟩, [.string c, .string d])] (fun q hq => by
  simp only [List.mem_cons, List.not_mem_nil, or_false] at hq
  rcases hq with rfl | rfl <;> exact k62_mk _ _) (by simp) h
theorem ser1_C {W : World} {g Y : Nat} {x : List Lab} {n k m : Nat} (h : W.heap[g]? = some (.cells #[.slice (some ⟨Y, 0, none⟩) n n, .int .i64 k, .int .i64 m] 37 (0, 0))) (hx : Kd.C k62 W (some ⟨Y, 0, none⟩) n x) (hn : n = x.length) : Kd.C k37 W (some ⟨g, 0, none⟩) 1 [⟨x, ⟨k, m⟩⟩] := by
 subst hn
 exact row_of k37 [((⟨x, ⟨k, m⟩⟩ : Ser), [.slice (some ⟨Y, 0, none⟩) x.length x.length, .int .i64 k, .int .i64 m])] (fun q hq => by rw [List.mem_singleton.1 hq]; exact k37_mk _ (⟨x, ⟨k, m⟩⟩ : Ser) (Nat.le_refl _) hx) (by simp) h
theorem ser2_C {W : World} {g Y Z : Nat} {x z : List Lab} {n n' : Nat} {k m k' m' : Int} (h : W.heap[g]? = some (.cells #[.slice (some ⟨Y, 0, none⟩) n n, .int .i64 k, .int .i64 m, .slice (some ⟨Z, 0, none⟩) n' n', .int .i64 k', .int .i64 m'] 37 (0, 0))) (hx : Kd.C k62 W (some ⟨Y, 0, none⟩) n x) (hn : n = x.length) (hz : Kd.C k62 W (some ⟨Z, 0, none⟩) n' z) (hn' : n' = z.length) : Kd.C k37 W (some ⟨g, 0, none⟩) 2 [⟨x, ⟨k, m⟩⟩, ⟨z, ⟨k', m'⟩⟩] := by
 subst hn; subst hn'
 exact row_of k37 [((⟨x, ⟨k, m⟩⟩ : Ser), [.slice (some ⟨Y, 0, none⟩) x.length x.length, .int .i64 k, .int .i64 m]), ((⟨z, ⟨k', m'⟩⟩ : Ser), [.slice (some ⟨Z, 0, none⟩) z.length z.length, .int .i64 k', .int .i64 m'])] (fun q hq => by
  simp only [List.mem_cons, List.not_mem_nil, or_false] at hq
  rcases hq with rfl | rfl
  ·exact k37_mk _ (⟨x, ⟨k, m⟩⟩ : Ser) (Nat.le_refl _) hx
  ·exact k37_mk _ (⟨z, ⟨k', m'⟩⟩ : Ser) (Nat.le_refl _) hz) (by simp) h
attribute [local go_sem high] eqA25
theorem l10_live.calls (r : Bool) (w : World) (h : l10_live.f = some r) : Calls Tryz.prog 9 #[] w fun e w' => e = .returned (.bool r) ∧ Below w.heap.size w w' := by
 injection h with h
 subst h
 have mixed : Tryz.prog.follows .mixedOrders = true := by kernel_rfl
 go_enter Tryz.func9, Tryz.ntmps9
 go_wp2_with fail
 refine (rnum_calls 1000 (by omega) (by omega) w).mono ?_
 rintro e w1 ⟨rfl, hb1⟩
 go_wp2_with fail
 refine (rnum_calls 2000 (by omega) (by omega) w1).mono ?_
 rintro e w2 ⟨rfl, hb2⟩
 go_wp2_with fail
 refine (rnull_calls w2).mono ?_
 rintro e w3 ⟨rfl, hb3⟩
 have HK := Sd.mk ((((Bk.start w).below hb1).below hb2).below hb3)
 clear hb1 hb2 hb3
 have HK3 := Sd.mk (HK.out.push cP 39)
 go_wp2_with fail
 refine (red1 _ 3 (Nat.le_refl 3) _ (liveP_C (HK3.out.get List.mem_cons_self))).mono ?_
 rintro e w4 ⟨rfl, hb4⟩
 have HK4 := Sd.mk (HK3.out.below hb4)
 have HK4b := Sd.mk (HK4.out.push #[.int .i64 1, .int .i64 1500] 25)
 obtain ⟨L, hL⟩ : ∃ L, w3.heap.size = L := ⟨_, rfl⟩
 obtain ⟨N1, hN1⟩ : ∃ L, w4.heap.size = L := ⟨_, rfl⟩
 rw [hL] at HK4b
 rw [hN1] at HK4b
 go_wp2_with fail
 clear hb4 HK HK3 HK4 hL
 refine (red2 _ 3 (Nat.le_refl 3) _ (liveP_C (HK4b.out.get (n := L) (by simp)))).mono ?_
 rintro e w5 ⟨rfl, hb5⟩
 have HK5 := Sd.mk (HK4b.out.below hb5)
 have HK5b := Sd.mk ((((HK5.out.push #[.int .i64 3, .int .i64 0] 25).push #[.string ⟨#[97]⟩, .string ⟨#[49]⟩] 62).push #[.string ⟨#[97]⟩, .string ⟨#[49]⟩, .string ⟨#[98]⟩, .string ⟨#[49]⟩] 62).push #[.string ⟨#[97]⟩, .string ⟨#[50]⟩] 62)
 simp only [World.size_alloc] at HK5b
 obtain ⟨N2, hN2⟩ : ∃ L, w5.heap.size = L := ⟨_, rfl⟩
 rw [hN2] at HK5b
 clear hb5 HK5 HK4b hN1
 go_wp2_with fail
 refine (rnum_calls 1 (by omega) (by omega) _).mono ?_
 rintro e w6 ⟨rfl, hb6⟩
 have HK6 := Sd.mk (HK5b.out.below hb6)
 clear hb6 HK5b hN2
 go_wp2_with fail
 refine (rnum_calls 2 (by omega) (by omega) w6).mono ?_
 rintro e w7 ⟨rfl, hb7⟩
 have HK7 := Sd.mk (HK6.out.below hb7)
 have HK7b := Sd.mk (HK7.out.push #[.slice (some ⟨N2 + 1, 0, none⟩) 1 1, .int .i64 1, .int .i64 1, .slice (some ⟨N2 + 1 + 1 + 1, 0, none⟩) 1 1, .int .i64 1, .int .i64 2] 37)
 obtain ⟨P, hP⟩ : ∃ L, w7.heap.size = L := ⟨_, rfl⟩
 rw [hP] at HK7b
 clear hb7 HK6 HK7
 go_wp2_with fail
 refine (rnum_calls 10 (by omega) (by omega) _).mono ?_
 rintro e w8 ⟨rfl, hb8⟩
 have HK8 := Sd.mk (HK7b.out.below hb8)
 have HK8b := Sd.mk (HK8.out.push #[.slice (some ⟨N2 + 1 + 1, 0, none⟩) 2 2, .int .i64 1, .int .i64 10] 37)
 obtain ⟨Q, hQ⟩ : ∃ L, w8.heap.size = L := ⟨_, rfl⟩
 rw [hQ] at HK8b
 clear hb8 HK7b HK8 hP
 go_wp2_with fail
 refine (joinl (some ⟨P, 0, none⟩) (some ⟨Q, 0, none⟩) _ (ser2_C (HK8b.out.get (n := P) (by simp)) (lab1_C (HK8b.out.get (n := N2 + 1) (by simp))) rfl (lab1_C (HK8b.out.get (n := N2 + 1 + 1 + 1) (by simp))) rfl) (ser1_C (HK8b.out.get (n := Q) (by simp)) (lab2_C (HK8b.out.get (n := N2 + 1 + 1) (by simp))) rfl)).mono ?_
 rintro e w9 ⟨v, rfl, hv, hb9⟩
 have HK9 := Sd.mk (HK8b.out.below hb9)
 obtain ⟨Aj, cj, rfl, hcj, hCj⟩ := Kd.N_reads hv
 have HJ := Sd.mk (And.intro hCj hcj)
 clear hb9 HK8b hQ hv hcj hCj
 go_wp2_with fail
 refine (red3 w9).mono ?_
 rintro e w10 ⟨rfl, hb10⟩
 have HK10 := Sd.mk (HK9.out.below hb10)
 have hba := below1 w10 (.cells #[.int .i64 0, .int .i64 0] 25)
 have HK11 := Sd.mk (HK10.out.below hba)
 have S0 : LiveS w N1 N2 (N2 + 1 + 1) Aj cj (w10.alloc (.cells #[.int .i64 0, .int .i64 0] 25)) := ⟨HK11.out.b, HK11.out.cell (n := N1) (cs := #[.int .i64 1, .int .i64 1500]) (t := 25) (i := 0) (by simp) rfl, HK11.out.cell (n := N1) (cs := #[.int .i64 1, .int .i64 1500]) (t := 25) (i := 1) (by simp) rfl, HK11.out.cell (n := N2) (cs := #[.int .i64 3, .int .i64 0]) (t := 25) (i := 0) (by simp) rfl, HK11.out.cell (n := N2) (cs := #[.int .i64 3, .int .i64 0]) (t := 25) (i := 1) (by simp) rfl, ⟨lab2_C (HK11.out.get (n := N2 + 1 + 1) (by simp))⟩, ⟨⟨Kd.C_below (Kd.C_below HJ.out.1 hb10) hba, HJ.out.2⟩⟩⟩
 clear hb10 hba HK9 HK10 HK11 HJ
 go_wp2_with fail
 generalize w10.alloc (.cells #[.int .i64 0, .int .i64 0] 25) = W at S0 ⊢
 have S1 : LiveS w N1 N2 (N2 + 1 + 1) Aj cj W := S0
 clear S0
 go_region_held3 (fun w' => Below w.heap.size w w' ∧ w'.cell? ⟨N1, 0, none⟩ = some (.int .i64 1) ∧ w'.cell? ⟨N1, 1, none⟩ = some (.int .i64 1500) ∧ w'.cell? ⟨N2, 0, none⟩ = some (.int .i64 3) ∧ w'.cell? ⟨N2, 1, none⟩ = some (.int .i64 0) ∧ Sd (Kd.C k62 w' (some ⟨N2 + 1 + 1, 0, none⟩) 2 ly) ∧ Sd (Kd.C k37 w' Aj 1 [sj] ∧ 1 ≤ cj)) (first | exact hS | exact LiveS.drew (by assumption) | exact LiveS.alloc (by assumption) _ | go_keep)
  (first
   | (go_at_call 12; (with_reducible refine (num_calls10 _ _).mono ?_); rintro e w2 ⟨rfl, hb1⟩; have hS : LiveS w N1 N2 (N2 + 1 + 1) Aj cj _ := LiveS.below (by assumption) hb1; clear hb1)
   | (go_at_call 27; (with_reducible refine (rnum_calls 1500 (by omega) (by omega) _).mono ?_); rintro e w2 ⟨rfl, hb1⟩; have hS : LiveS w N1 N2 (N2 + 1 + 1) Aj cj _ := LiveS.below (by assumption) hb1; clear hb1)
   | (go_at_call 27; (with_reducible refine (rnum_calls 11 (by omega) (by omega) _).mono ?_); rintro e w2 ⟨rfl, hb1⟩; have hS : LiveS w N1 N2 (N2 + 1 + 1) Aj cj _ := LiveS.below (by assumption) hb1; clear hb1)
   | (go_at_call 29; (with_reducible refine (rnan_calls _).mono ?_); rintro e w2 ⟨rfl, hb1⟩; have hS : LiveS w N1 N2 (N2 + 1 + 1) Aj cj _ := LiveS.below (by assumption) hb1; clear hb1)
   | (go_at_call 16; (refine (same_fresh (show LiveS w N1 N2 (N2 + 1 + 1) Aj cj _ by assumption)).mono ?_); rintro e w2 ⟨rfl, hb1⟩; have hS : LiveS w N1 N2 (N2 + 1 + 1) Aj cj _ := LiveS.below (by assumption) hb1; clear hb1))
 go_wp2
 go_ret
 exact ⟨by simp, (show LiveS w N1 N2 (N2 + 1 + 1) Aj cj _ by assumption).1⟩
theorem op2_add : tab2.lookup ⟨#[43]⟩ = some (vNumbers vAdd) := rfl
theorem op2_sub : tab2.lookup ⟨#[45]⟩ = some (vNumbers vSub) := rfl
theorem op2_mul : tab2.lookup ⟨#[42]⟩ = some (vNumbers vMul) := rfl
theorem op2_div : tab2.lookup ⟨#[47]⟩ = some (vNumbers vDiv) := rfl
theorem op2_eq : tab2.lookup ⟨#[61, 61]⟩ = some (vOrder false (fun m n => m == n)) := rfl
theorem op2_ne : tab2.lookup ⟨#[33, 61]⟩ = some (vOrder true (fun m n => m != n)) := rfl
theorem op2_lt : tab2.lookup ⟨#[60]⟩ = some (vOrder false (fun m n => decide (m < n))) := rfl
theorem op2_le : tab2.lookup ⟨#[60, 61]⟩ = some (vOrder false (fun m n => decide (m ≤ n))) := rfl
theorem op2_gt : tab2.lookup ⟨#[62]⟩ = some (vOrder false (fun m n => decide (m > n))) := rfl
theorem op2_ge : tab2.lookup ⟨#[62, 61]⟩ = some (vOrder false (fun m n => decide (m ≥ n))) := rfl
theorem op2_and : tab2.lookup ⟨#[38, 38]⟩ = some vAnd := rfl
theorem op2_or : tab2.lookup ⟨#[124, 124]⟩ = some vOr := rfl
/-- What an operation of two values comes to. -/
def vTwo (F : V → V → V) (a b : V) : V := if a.1 = 2 ∨ b.1 = 2 then (2, 0) else F a b
def r8_Less.j0 : Nat → Bool → Int → Int → Int → Int → Option (Bool)
 | 0, _, _, _, _, _ => none
 | k + 1, x5, x269000, x269001, x270000, x270001 => if x5 = true then (some (decide (x269001 < x270001))) else (if x269000 = x270000 then (some false) else (if x269000 = 5 then (some true) else (some (x270000 == 4))))
def r8_Less.f (k : Nat) (a0_0 : Int) (a0_1 : Int) (a1_0 : Int) (a1_1 : Int) : Option (Bool) := (r8_num.f a0_0 a0_1).bind fun t270 => (if t270 = true then ((r8_num.f a1_0 a1_1).bind fun t271 => (r8_Less.j0 k t271 a0_0 a0_1 a1_0 a1_1)) else (r8_Less.j0 k false a0_0 a0_1 a1_0 a1_1))
theorem r8_Less.calls (k : Nat) (a0_0 : Int) (a0_1 : Int) (a1_0 : Int) (a1_1 : Int) (r : Bool) (w : World) (h : r8_Less.f k a0_0 a0_1 a1_0 a1_1 = some r) :
  Calls Tryz.prog 48 #[.agg #[.int .i64 a0_0, .int .i64 a0_1], .agg #[.int .i64 a1_0, .int .i64 a1_1]] w fun e w' => e = .returned (.bool r) ∧ Below w.heap.size w w' := by
 have hu25 := Tryz.underlying25
 have HB := Sd.mk (Below.refl w.heap.size w)
 have H : ((r8_num.f a0_0 a0_1).bind fun t270 => (if t270 = true then ((r8_num.f a1_0 a1_1).bind fun t271 => (r8_Less.j0 k t271 a0_0 a0_1 a1_0 a1_1)) else (r8_Less.j0 k false a0_0 a0_1 a1_0 a1_1))) = some r := h
 clear h
 have HC3 := Sd.mk H
 clear H
 go_enter Tryz.func48, Tryz.ntmps48
 go_upto_region 1 with (first | ((with_reducible refine gate_dst (N := 2) rfl ?_); refine bxe (N := 2) (cs := #[.int .i64 a0_0, .int .i64 a0_1]) (t := 25) ?_; intro gb268 hg w4 hbox hb; have BK268 := Sd.mk hbox; have GW268 := bge w hg; have GE268 := bge w hg; replace HB := bsq w hb; clear hb hbox hg) | ((with_reducible refine gate_dst (N := 3) rfl ?_); refine bxe (N := 3) (cs := #[.int .i64 a1_0, .int .i64 a1_1]) (t := 25) ?_; intro gb269 hg w5 hbox hb; have BK269 := Sd.mk hbox; have GW269 := bge w hg; have GE269 := bge w hg; have NB268_269 := bnl BK268 hg; have NB269_268 := bng BK268 hg; replace BK268 := bkb BK268 hb; replace HB := bsq w hb; clear hb hbox hg))
 (try simp only [Act.put, List.setIfInBounds_toArray, List.set_cons_zero, List.set_cons_succ])
 go_cut [5] (fun v5 wc => ∃ (kq : Nat) (x5_2 : Bool), v5 = .bool x5_2 ∧ Sd (r8_Less.j0 kq x5_2 a0_0 a0_1 a1_0 a1_1 = some r) ∧ Sd (kq ≤ k) ∧ Sd (wc.heap[gb268]? = some (.cells #[.int .i64 a0_0, .int .i64 a0_1] 25 (0, 0))) ∧ Sd (wc.heap[gb269]? = some (.cells #[.int .i64 a1_0, .int .i64 a1_1] 25 (0, 0))) ∧ Sd (Below w.heap.size w wc))
 case first =>
  have H := HC3.out
  clear HC3
  obtain ⟨t270, A6, H⟩ := bnd H
  by_cases c7 : t270 = true
  ·subst c7
   replace H := iT H
   obtain ⟨t271, A8, H⟩ := bnd H
   have H' := Sd.mk H
   clear H
   have hnb9 := NB268_269.out
   have hnc9 := NB269_268.out
   obtain ⟨hcz10_0, hcz10_1, hfz10_0, hfz10_1⟩ := bz BK268
   go_wp2_with (first | ((with_reducible refine gate_callee (f := 84) rfl ?_); refine goesL_ (some 7) rfl rfl Tryz.func84 (by kernel_rfl) rfl #[.agg #[.int .i64 a0_0, .int .i64 a0_1]] rfl ma ?_; (with_reducible refine (r8_num.calls a0_0 a0_1 true _ A6.out).mono ?_); rintro e w11 ⟨rfl, hb⟩; refine ⟨_, rfl, ?_⟩; replace BK268 := bkb BK268 hb; replace BK269 := bkb BK269 hb; replace HB := bsq w hb; (try clear hb); have hcz12_0 := bz0 BK269; have hcz12_1 := bz1 BK269; have hfz12_0 := blk_frozen BK269.out 0; have hfz12_1 := blk_frozen BK269.out 1) | (go_at_call 84; (with_reducible refine (r8_num.calls a1_0 a1_1 t271 _ A8.out).mono ?_); rintro e w13 ⟨rfl, hb⟩; replace BK268 := bkb BK268 hb; replace BK269 := bkb BK269 hb; replace HB := bsq w hb; (try clear hb)))
   go_meet
   case rel => exact ⟨_, (t271), ae, H', ⟨by first | omega | exact Nat.le_refl _⟩, fwK BK268, fwK BK269, ⟨bbl⟩⟩
  ·replace c7 := Bool.eq_false_iff.mpr c7
   subst c7
   replace H := iF H
   have H' := Sd.mk H
   clear H
   have hnb14 := NB268_269.out
   have hnc14 := NB269_268.out
   obtain ⟨hcz15_0, hcz15_1, hfz15_0, hfz15_1⟩ := bz BK268
   go_wp2_with (first | ((with_reducible refine gate_callee (f := 84) rfl ?_); refine goesL_ (some 7) rfl rfl Tryz.func84 (by kernel_rfl) rfl #[.agg #[.int .i64 a0_0, .int .i64 a0_1]] rfl ma ?_; (with_reducible refine (r8_num.calls a0_0 a0_1 false _ A6.out).mono ?_); rintro e w16 ⟨rfl, hb⟩; refine ⟨_, rfl, ?_⟩; replace BK268 := bkb BK268 hb; replace BK269 := bkb BK269 hb; replace HB := bsq w hb; (try clear hb)))
   go_meet
   case rel => exact ⟨_, (false), ae, H', ⟨by first | omega | exact Nat.le_refl _⟩, fwK BK268, fwK BK269, ⟨bbl⟩⟩
 case rest =>
  clear HC3
  obtain ⟨kq, x5_2, rfl, HA, HJ2, BK268, BK269, HB⟩ := hcut
  cases kq with
  | zero => exact absurd HA.out (by simp [r8_Less.j0])
  | succ kj2 =>
   have H := HA.out
   clear HA
   simp only [r8_Less.j0] at H
   by_cases c17 : x5_2 = true
   ·subst c17
    replace H := iT H
    obtain rfl := Option.some.inj H
    have hnb18 := NB268_269.out
    have hnc18 := NB269_268.out
    obtain ⟨hcz19_0, hcz19_1, hfz19_0, hfz19_1⟩ := bz BK268
    obtain ⟨hcz20_0, hcz20_1, hfz20_0, hfz20_1⟩ := bz BK269
    go_wp2
    go_ret
    exact ⟨fe, bbl⟩
   ·replace c17 := Bool.eq_false_iff.mpr c17
    subst c17
    replace H := iF H
    by_cases c21 : a0_0 = a1_0
    ·rw [if_pos c21] at H
     have c21b0 := beq_iff_eq.mpr c21
     have c21b1 := bne_eq_false_iff_eq.mpr c21
     clear c21
     obtain rfl := Option.some.inj H
     have hnb22 := NB268_269.out
     have hnc22 := NB269_268.out
     obtain ⟨hcz23_0, hcz23_1, hfz23_0, hfz23_1⟩ := bz BK268
     obtain ⟨hcz24_0, hcz24_1, hfz24_0, hfz24_1⟩ := bz BK269
     go_wp2
     go_ret
     exact ⟨fe, bbl⟩
    ·rw [if_neg c21] at H
     have c21b0 := beq_eq_false_iff_ne.mpr c21
     have c21b1 := bne_iff_ne.mpr c21
     by_cases c25 : a0_0 = 5
     ·rw [if_pos c25] at H
      have c25b0 := beq_iff_eq.mpr c25
      have c25b1 := bne_eq_false_iff_eq.mpr c25
      clear c25
      obtain rfl := Option.some.inj H
      have hnb26 := NB268_269.out
      have hnc26 := NB269_268.out
      obtain ⟨hcz27_0, hcz27_1, hfz27_0, hfz27_1⟩ := bz BK268
      obtain ⟨hcz28_0, hcz28_1, hfz28_0, hfz28_1⟩ := bz BK269
      go_wp2
      go_ret
      exact ⟨fe, bbl⟩
     ·rw [if_neg c25] at H
      have c25b0 := beq_eq_false_iff_ne.mpr c25
      have c25b1 := bne_iff_ne.mpr c25
      obtain rfl := Option.some.inj H
      have hnb29 := NB268_269.out
      have hnc29 := NB269_268.out
      obtain ⟨hcz30_0, hcz30_1, hfz30_0, hfz30_1⟩ := bz BK268
      obtain ⟨hcz31_0, hcz31_1, hfz31_0, hfz31_1⟩ := bz BK269
      go_wp2
      go_ret
      exact ⟨fe, bbl⟩
def r8_add.j0 : Nat → Bool → Int → Int → Int → Int → Option (Int × Int)
 | 0, _, _, _, _, _ => none
 | k + 1, x5, x273000, x273001, x274000, x274001 => if x5 = true then ((r8_Num.f (wrap64 (x273001 + x274001))).bind fun bt277 => (some (bt277.1, bt277.2))) else ((r8_num.f x273000 x273001).bind fun t279 => (if t279 = true then (some (x274000, x274001)) else ((r8_num.f x274000 x274001).bind fun t280 => (if t280 = true then (some (x273000, x273001)) else (if (x273000 == x274000 && (x273001 == x274001)) = true then (some (x273000, x273001)) else ((r8_NaN.f).bind fun bt281 => (some (bt281.1, bt281.2))))))))
def r8_add.f (k : Nat) (a0_0 : Int) (a0_1 : Int) (a1_0 : Int) (a1_1 : Int) : Option (Int × Int) := (r8_num.f a0_0 a0_1).bind fun t275 => (if t275 = true then ((r8_num.f a1_0 a1_1).bind fun t276 => (r8_add.j0 k t276 a0_0 a0_1 a1_0 a1_1)) else (r8_add.j0 k false a0_0 a0_1 a1_0 a1_1))
theorem r8_add.calls (k : Nat) (a0_0 : Int) (a0_1 : Int) (a1_0 : Int) (a1_1 : Int) (r1 : Int) (r2 : Int) (w : World) (h : r8_add.f k a0_0 a0_1 a1_0 a1_1 = some (r1, r2)) :
  Calls Tryz.prog 98 #[.agg #[.int .i64 a0_0, .int .i64 a0_1], .agg #[.int .i64 a1_0, .int .i64 a1_1]] w fun e w' => e = .returned (.agg #[.int .i64 r1, .int .i64 r2]) ∧ Below w.heap.size w w' := by
 have hu25 := Tryz.underlying25
 have HB := Sd.mk (Below.refl w.heap.size w)
 have H : ((r8_num.f a0_0 a0_1).bind fun t275 => (if t275 = true then ((r8_num.f a1_0 a1_1).bind fun t276 => (r8_add.j0 k t276 a0_0 a0_1 a1_0 a1_1)) else (r8_add.j0 k false a0_0 a0_1 a1_0 a1_1))) = some (r1, r2) := h
 clear h
 have HC3 := Sd.mk H
 clear H
 go_enter Tryz.func98, Tryz.ntmps98
 go_upto_region 1 with (first | ((with_reducible refine gate_dst (N := 2) rfl ?_); refine bxe (N := 2) (cs := #[.int .i64 a0_0, .int .i64 a0_1]) (t := 25) ?_; intro gb272 hg w4 hbox hb; have BK272 := Sd.mk hbox; have GW272 := bge w hg; have GE272 := bge w hg; replace HB := bsq w hb; clear hb hbox hg) | ((with_reducible refine gate_dst (N := 3) rfl ?_); refine bxe (N := 3) (cs := #[.int .i64 a1_0, .int .i64 a1_1]) (t := 25) ?_; intro gb273 hg w5 hbox hb; have BK273 := Sd.mk hbox; have GW273 := bge w hg; have GE273 := bge w hg; have NB272_273 := bnl BK272 hg; have NB273_272 := bng BK272 hg; replace BK272 := bkb BK272 hb; replace HB := bsq w hb; clear hb hbox hg) | ((with_reducible refine gate_dst (N := 4) rfl ?_); refine bxe (N := 4) (cs := #[.int .i64 0, .int .i64 0]) (t := 25) ?_; intro gb274 hg w6 hbox hb; have BK274 := Sd.mk hbox; have GW274 := bge w hg; have GE274 := bge w hg; have NB272_274 := bnl BK272 hg; have NB274_272 := bng BK272 hg; have NB273_274 := bnl BK273 hg; have NB274_273 := bng BK273 hg; replace BK272 := bkb BK272 hb; replace BK273 := bkb BK273 hb; replace HB := bsq w hb; clear hb hbox hg))
 (try simp only [Act.put, List.setIfInBounds_toArray, List.set_cons_zero, List.set_cons_succ])
 go_cut [5] (fun v5 wc => ∃ (kq : Nat) (x5_2 : Bool), v5 = .bool x5_2 ∧ Sd (r8_add.j0 kq x5_2 a0_0 a0_1 a1_0 a1_1 = some (r1, r2)) ∧ Sd (kq ≤ k) ∧ Sd (wc.heap[gb272]? = some (.cells #[.int .i64 a0_0, .int .i64 a0_1] 25 (0, 0))) ∧ Sd (wc.heap[gb273]? = some (.cells #[.int .i64 a1_0, .int .i64 a1_1] 25 (0, 0))) ∧ Sd (wc.heap[gb274]? = some (.cells #[.int .i64 0, .int .i64 0] 25 (0, 0))) ∧ Sd (Below w.heap.size w wc))
 case first =>
  have H := HC3.out
  clear HC3
  obtain ⟨t275, A7, H⟩ := bnd H
  by_cases c8 : t275 = true
  ·subst c8
   replace H := iT H
   obtain ⟨t276, A9, H⟩ := bnd H
   have H' := Sd.mk H
   clear H
   have hnb10 := NB272_273.out
   have hnc10 := NB273_272.out
   have hnb11 := NB272_274.out
   have hnc11 := NB274_272.out
   obtain ⟨hcz12_0, hcz12_1, hfz12_0, hfz12_1⟩ := bz BK272
   go_wp2_with (first | ((with_reducible refine gate_callee (f := 84) rfl ?_); refine goesL_ (some 7) rfl rfl Tryz.func84 (by kernel_rfl) rfl #[.agg #[.int .i64 a0_0, .int .i64 a0_1]] rfl ma ?_; (with_reducible refine (r8_num.calls a0_0 a0_1 true _ A7.out).mono ?_); rintro e w13 ⟨rfl, hb⟩; refine ⟨_, rfl, ?_⟩; replace BK272 := bkb BK272 hb; replace BK273 := bkb BK273 hb; replace BK274 := bkb BK274 hb; replace HB := bsq w hb; (try clear hb); have hnb14 := NB273_274.out; have hnc14 := NB274_273.out; have hcz15_0 := bz0 BK273; have hcz15_1 := bz1 BK273; have hfz15_0 := blk_frozen BK273.out 0; have hfz15_1 := blk_frozen BK273.out 1) | (go_at_call 84; (with_reducible refine (r8_num.calls a1_0 a1_1 t276 _ A9.out).mono ?_); rintro e w16 ⟨rfl, hb⟩; replace BK272 := bkb BK272 hb; replace BK273 := bkb BK273 hb; replace BK274 := bkb BK274 hb; replace HB := bsq w hb; (try clear hb)))
   go_meet
   case rel => exact ⟨_, (t276), ae, H', ⟨by first | omega | exact Nat.le_refl _⟩, fwK BK272, fwK BK273, fwK BK274, ⟨bbl⟩⟩
  ·replace c8 := Bool.eq_false_iff.mpr c8
   subst c8
   replace H := iF H
   have H' := Sd.mk H
   clear H
   have hnb17 := NB272_273.out
   have hnc17 := NB273_272.out
   have hnb18 := NB272_274.out
   have hnc18 := NB274_272.out
   obtain ⟨hcz19_0, hcz19_1, hfz19_0, hfz19_1⟩ := bz BK272
   go_wp2_with (first | ((with_reducible refine gate_callee (f := 84) rfl ?_); refine goesL_ (some 7) rfl rfl Tryz.func84 (by kernel_rfl) rfl #[.agg #[.int .i64 a0_0, .int .i64 a0_1]] rfl ma ?_; (with_reducible refine (r8_num.calls a0_0 a0_1 false _ A7.out).mono ?_); rintro e w20 ⟨rfl, hb⟩; refine ⟨_, rfl, ?_⟩; replace BK272 := bkb BK272 hb; replace BK273 := bkb BK273 hb; replace BK274 := bkb BK274 hb; replace HB := bsq w hb; (try clear hb)))
   go_meet
   case rel => exact ⟨_, (false), ae, H', ⟨by first | omega | exact Nat.le_refl _⟩, fwK BK272, fwK BK273, fwK BK274, ⟨bbl⟩⟩
 case rest =>
  clear HC3
  obtain ⟨kq, x5_2, rfl, HA, HJ2, BK272, BK273, BK274, HB⟩ := hcut
  cases kq with
  | zero => exact absurd HA.out (by simp [r8_add.j0])
  | succ kj2 =>
   have H := HA.out
   clear HA
   simp only [r8_add.j0] at H
   by_cases c21 : x5_2 = true
   ·subst c21
    replace H := iT H
    obtain ⟨⟨t277, t278⟩, A22, H⟩ := bnd H
    replace H : (some (t277, t278)) = some (r1, r2) := H
    simp only [Option.some.injEq, Prod.mk.injEq] at H
    obtain ⟨rfl, rfl⟩ := H
    have hnb23 := NB272_273.out
    have hnc23 := NB273_272.out
    have hnb24 := NB272_274.out
    have hnc24 := NB274_272.out
    obtain ⟨hcz25_0, hcz25_1, hfz25_0, hfz25_1⟩ := bz BK272
    have hnb26 := NB273_274.out
    have hnc26 := NB274_273.out
    obtain ⟨hcz27_0, hcz27_1, hfz27_0, hfz27_1⟩ := bz BK273
    go_wp2_with (first | ((with_reducible refine gate_callee (f := 27) rfl ?_); refine goesL_ (some 17) rfl rfl Tryz.func27 (by kernel_rfl) rfl #[.int .i64 (wrap64 (a0_1 + a1_1))] rfl ma ?_; (with_reducible refine (r8_Num.calls (wrap64 (a0_1 + a1_1)) t277 t278 _ A22.out).mono ?_); rintro e w28 ⟨rfl, hb⟩; refine ⟨_, rfl, ?_⟩; replace BK272 := bkb BK272 hb; replace BK273 := bkb BK273 hb; replace BK274 := bkb BK274 hb; replace HB := bsq w hb; (try clear hb); have hcz29_0 := bz0 BK274; have hcz29_1 := bz1 BK274; have hfz29_0 := blk_frozen BK274.out 0; have hfz29_1 := blk_frozen BK274.out 1))
    refine bodyPost_ret (results_cell_row rfl _ _ gb274 25 #[.int .i64 t277, .int .i64 t278] (0, 0) _ rfl (by (repeat refine dw ?_); refine blk_put (cs := #[.int .i64 t277, .int .i64 0]) ?_ 1 _ rfl; (repeat refine dw ?_); refine blk_put (cs := #[.int .i64 0, .int .i64 0]) ?_ 0 _ rfl; (repeat refine dw ?_); exact BK274.out) Tryz.underlying25 rfl (by kernel_rfl)) rfl ?_
    exact ⟨fe, bbl⟩
   ·replace c21 := Bool.eq_false_iff.mpr c21
    subst c21
    replace H := iF H
    obtain ⟨t279, A30, H⟩ := bnd H
    by_cases c31 : t279 = true
    ·subst c31
     replace H := iT H
     simp only [Option.some.injEq, Prod.mk.injEq] at H
     obtain ⟨rfl, rfl⟩ := H
     have hnb32 := NB272_273.out
     have hnc32 := NB273_272.out
     have hnb33 := NB272_274.out
     have hnc33 := NB274_272.out
     obtain ⟨hcz34_0, hcz34_1, hfz34_0, hfz34_1⟩ := bz BK272
     go_wp2_with (first | ((with_reducible refine gate_callee (f := 84) rfl ?_); refine goesL_ (some 20) rfl rfl Tryz.func84 (by kernel_rfl) rfl #[.agg #[.int .i64 a0_0, .int .i64 a0_1]] rfl ma ?_; (with_reducible refine (r8_num.calls a0_0 a0_1 true _ A30.out).mono ?_); rintro e w35 ⟨rfl, hb⟩; refine ⟨_, rfl, ?_⟩; replace BK272 := bkb BK272 hb; replace BK273 := bkb BK273 hb; replace BK274 := bkb BK274 hb; replace HB := bsq w hb; (try clear hb); have hnb36 := NB273_274.out; have hnc36 := NB274_273.out; have hcz37_0 := bz0 BK273; have hcz37_1 := bz1 BK273; have hfz37_0 := blk_frozen BK273.out 0; have hfz37_1 := blk_frozen BK273.out 1; have hcz38_0 := bz0 BK274; have hcz38_1 := bz1 BK274; have hfz38_0 := blk_frozen BK274.out 0; have hfz38_1 := blk_frozen BK274.out 1))
     refine bodyPost_ret (results_cell_row rfl _ _ gb274 25 #[.int .i64 a1_0, .int .i64 a1_1] (0, 0) _ rfl (by (repeat refine dw ?_); refine blk_put (cs := #[.int .i64 a1_0, .int .i64 0]) ?_ 1 _ rfl; (repeat refine dw ?_); refine blk_put (cs := #[.int .i64 0, .int .i64 0]) ?_ 0 _ rfl; (repeat refine dw ?_); exact BK274.out) Tryz.underlying25 rfl (by kernel_rfl)) rfl ?_
     exact ⟨fe, bbl⟩
    ·replace c31 := Bool.eq_false_iff.mpr c31
     subst c31
     replace H := iF H
     obtain ⟨t280, A39, H⟩ := bnd H
     by_cases c40 : t280 = true
     ·subst c40
      replace H := iT H
      simp only [Option.some.injEq, Prod.mk.injEq] at H
      obtain ⟨rfl, rfl⟩ := H
      have hnb41 := NB272_273.out
      have hnc41 := NB273_272.out
      have hnb42 := NB272_274.out
      have hnc42 := NB274_272.out
      obtain ⟨hcz43_0, hcz43_1, hfz43_0, hfz43_1⟩ := bz BK272
      go_wp2_with (first | ((with_reducible refine gate_callee (f := 84) rfl ?_); refine goesL_ (some 20) rfl rfl Tryz.func84 (by kernel_rfl) rfl #[.agg #[.int .i64 a0_0, .int .i64 a0_1]] rfl ma ?_; (with_reducible refine (r8_num.calls a0_0 a0_1 false _ A30.out).mono ?_); rintro e w44 ⟨rfl, hb⟩; refine ⟨_, rfl, ?_⟩; replace BK272 := bkb BK272 hb; replace BK273 := bkb BK273 hb; replace BK274 := bkb BK274 hb; replace HB := bsq w hb; (try clear hb); have hnb45 := NB273_274.out; have hnc45 := NB274_273.out; have hcz46_0 := bz0 BK273; have hcz46_1 := bz1 BK273; have hfz46_0 := blk_frozen BK273.out 0; have hfz46_1 := blk_frozen BK273.out 1) | ((with_reducible refine gate_callee (f := 84) rfl ?_); refine goesL_ (some 24) rfl rfl Tryz.func84 (by kernel_rfl) rfl #[.agg #[.int .i64 a1_0, .int .i64 a1_1]] rfl ma ?_; (with_reducible refine (r8_num.calls a1_0 a1_1 true _ A39.out).mono ?_); rintro e w47 ⟨rfl, hb⟩; refine ⟨_, rfl, ?_⟩; replace BK272 := bkb BK272 hb; replace BK273 := bkb BK273 hb; replace BK274 := bkb BK274 hb; replace HB := bsq w hb; (try clear hb); have hcz48_0 := bz0 BK272; have hcz48_1 := bz1 BK272; have hfz48_0 := blk_frozen BK272.out 0; have hfz48_1 := blk_frozen BK272.out 1; have hcz49_0 := bz0 BK274; have hcz49_1 := bz1 BK274; have hfz49_0 := blk_frozen BK274.out 0; have hfz49_1 := blk_frozen BK274.out 1))
      refine bodyPost_ret (results_cell_row rfl _ _ gb274 25 #[.int .i64 a0_0, .int .i64 a0_1] (0, 0) _ rfl (by (repeat refine dw ?_); refine blk_put (cs := #[.int .i64 a0_0, .int .i64 0]) ?_ 1 _ rfl; (repeat refine dw ?_); refine blk_put (cs := #[.int .i64 0, .int .i64 0]) ?_ 0 _ rfl; (repeat refine dw ?_); exact BK274.out) Tryz.underlying25 rfl (by kernel_rfl)) rfl ?_
      exact ⟨fe, bbl⟩
     ·replace c40 := Bool.eq_false_iff.mpr c40
      subst c40
      replace H := iF H
      by_cases c50 : (a0_0 == a1_0 && (a0_1 == a1_1)) = true
      ·rw [if_pos c50] at H
       have c50b0 : (a0_0 == a1_0 && (a0_1 == a1_1)) = true := c50
       (try (have c50b1 : decide (a0_0 = a1_0 && (a0_1 == a1_1)) = true := by simpa using c50))
       (try (have c50b2 : (a0_0 == a1_0 && (a0_1 == a1_1)) = true := by simpa using c50))
       clear c50
       simp only [Option.some.injEq, Prod.mk.injEq] at H
       obtain ⟨rfl, rfl⟩ := H
       have hnb51 := NB272_273.out
       have hnc51 := NB273_272.out
       have hnb52 := NB272_274.out
       have hnc52 := NB274_272.out
       obtain ⟨hcz53_0, hcz53_1, hfz53_0, hfz53_1⟩ := bz BK272
       go_wp2_with (first | ((with_reducible refine gate_callee (f := 84) rfl ?_); refine goesL_ (some 20) rfl rfl Tryz.func84 (by kernel_rfl) rfl #[.agg #[.int .i64 a0_0, .int .i64 a0_1]] rfl ma ?_; (with_reducible refine (r8_num.calls a0_0 a0_1 false _ A30.out).mono ?_); rintro e w54 ⟨rfl, hb⟩; refine ⟨_, rfl, ?_⟩; replace BK272 := bkb BK272 hb; replace BK273 := bkb BK273 hb; replace BK274 := bkb BK274 hb; replace HB := bsq w hb; (try clear hb); have hnb55 := NB273_274.out; have hnc55 := NB274_273.out; have hcz56_0 := bz0 BK273; have hcz56_1 := bz1 BK273; have hfz56_0 := blk_frozen BK273.out 0; have hfz56_1 := blk_frozen BK273.out 1) | ((with_reducible refine gate_callee (f := 84) rfl ?_); refine goesL_ (some 24) rfl rfl Tryz.func84 (by kernel_rfl) rfl #[.agg #[.int .i64 a1_0, .int .i64 a1_1]] rfl ma ?_; (with_reducible refine (r8_num.calls a1_0 a1_1 false _ A39.out).mono ?_); rintro e w57 ⟨rfl, hb⟩; refine ⟨_, rfl, ?_⟩; replace BK272 := bkb BK272 hb; replace BK273 := bkb BK273 hb; replace BK274 := bkb BK274 hb; replace HB := bsq w hb; (try clear hb); have hcz58_0 := bz0 BK272; have hcz58_1 := bz1 BK272; have hfz58_0 := blk_frozen BK272.out 0; have hfz58_1 := blk_frozen BK272.out 1; have hcz59_0 := bz0 BK273; have hcz59_1 := bz1 BK273; have hfz59_0 := blk_frozen BK273.out 0; have hfz59_1 := blk_frozen BK273.out 1; have hcz60_0 := bz0 BK274; have hcz60_1 := bz1 BK274; have hfz60_0 := blk_frozen BK274.out 0; have hfz60_1 := blk_frozen BK274.out 1))
       refine bodyPost_ret (results_cell_row rfl _ _ gb274 25 #[.int .i64 a0_0, .int .i64 a0_1] (0, 0) _ rfl (by (repeat refine dw ?_); refine blk_put (cs := #[.int .i64 a0_0, .int .i64 0]) ?_ 1 _ rfl; (repeat refine dw ?_); refine blk_put (cs := #[.int .i64 0, .int .i64 0]) ?_ 0 _ rfl; (repeat refine dw ?_); exact BK274.out) Tryz.underlying25 rfl (by kernel_rfl)) rfl ?_
       exact ⟨fe, bbl⟩
      ·rw [if_neg c50] at H
       have c50b0 : (a0_0 == a1_0 && (a0_1 == a1_1)) = false := by simpa using c50
       (try (have c50b1 : decide (a0_0 = a1_0 && (a0_1 == a1_1)) = false := by simpa using c50))
       (try (have c50b2 : (a0_0 == a1_0 && (a0_1 == a1_1)) = false := by simpa using c50))
       (try (have c50b3 : ¬ (a0_0 = a1_0 && (a0_1 == a1_1)) := by simpa using c50))
       clear c50
       obtain ⟨⟨t281, t282⟩, A61, H⟩ := bnd H
       replace H : (some (t281, t282)) = some (r1, r2) := H
       simp only [Option.some.injEq, Prod.mk.injEq] at H
       obtain ⟨rfl, rfl⟩ := H
       have hnb62 := NB272_273.out
       have hnc62 := NB273_272.out
       have hnb63 := NB272_274.out
       have hnc63 := NB274_272.out
       obtain ⟨hcz64_0, hcz64_1, hfz64_0, hfz64_1⟩ := bz BK272
       go_wp2_with (first | ((with_reducible refine gate_callee (f := 84) rfl ?_); refine goesL_ (some 20) rfl rfl Tryz.func84 (by kernel_rfl) rfl #[.agg #[.int .i64 a0_0, .int .i64 a0_1]] rfl ma ?_; (with_reducible refine (r8_num.calls a0_0 a0_1 false _ A30.out).mono ?_); rintro e w65 ⟨rfl, hb⟩; refine ⟨_, rfl, ?_⟩; replace BK272 := bkb BK272 hb; replace BK273 := bkb BK273 hb; replace BK274 := bkb BK274 hb; replace HB := bsq w hb; (try clear hb); have hnb66 := NB273_274.out; have hnc66 := NB274_273.out; have hcz67_0 := bz0 BK273; have hcz67_1 := bz1 BK273; have hfz67_0 := blk_frozen BK273.out 0; have hfz67_1 := blk_frozen BK273.out 1) | ((with_reducible refine gate_callee (f := 84) rfl ?_); refine goesL_ (some 24) rfl rfl Tryz.func84 (by kernel_rfl) rfl #[.agg #[.int .i64 a1_0, .int .i64 a1_1]] rfl ma ?_; (with_reducible refine (r8_num.calls a1_0 a1_1 false _ A39.out).mono ?_); rintro e w68 ⟨rfl, hb⟩; refine ⟨_, rfl, ?_⟩; replace BK272 := bkb BK272 hb; replace BK273 := bkb BK273 hb; replace BK274 := bkb BK274 hb; replace HB := bsq w hb; (try clear hb); have hcz69_0 := bz0 BK272; have hcz69_1 := bz1 BK272; have hfz69_0 := blk_frozen BK272.out 0; have hfz69_1 := blk_frozen BK272.out 1; have hcz70_0 := bz0 BK273; have hcz70_1 := bz1 BK273; have hfz70_0 := blk_frozen BK273.out 0; have hfz70_1 := blk_frozen BK273.out 1) | ((with_reducible refine gate_callee (f := 29) rfl ?_); refine goesL_ (some 31) rfl rfl Tryz.func29 (by kernel_rfl) rfl #[] rfl ma ?_; (with_reducible refine (r8_NaN.calls  t281 t282 _ A61.out).mono ?_); rintro e w71 ⟨rfl, hb⟩; refine ⟨_, rfl, ?_⟩; replace BK272 := bkb BK272 hb; replace BK273 := bkb BK273 hb; replace BK274 := bkb BK274 hb; replace HB := bsq w hb; (try clear hb); have hcz72_0 := bz0 BK274; have hcz72_1 := bz1 BK274; have hfz72_0 := blk_frozen BK274.out 0; have hfz72_1 := blk_frozen BK274.out 1))
       refine bodyPost_ret (results_cell_row rfl _ _ gb274 25 #[.int .i64 t281, .int .i64 t282] (0, 0) _ rfl (by (repeat refine dw ?_); refine blk_put (cs := #[.int .i64 t281, .int .i64 0]) ?_ 1 _ rfl; (repeat refine dw ?_); refine blk_put (cs := #[.int .i64 0, .int .i64 0]) ?_ 0 _ rfl; (repeat refine dw ?_); exact BK274.out) Tryz.underlying25 rfl (by kernel_rfl)) rfl ?_
       exact ⟨fe, bbl⟩
def r8_beyond.f (a0 : Int) : Option (Int × Int) := if a0 > 0 then ((r8_Plus.f).bind fun bt284 => (some (bt284.1, bt284.2))) else (if a0 < 0 then ((r8_Minus.f).bind fun bt286 => (some (bt286.1, bt286.2))) else ((r8_NaN.f).bind fun bt288 => (some (bt288.1, bt288.2))))
theorem r8_beyond.calls (a0 : Int) (r1 : Int) (r2 : Int) (w : World) (h : r8_beyond.f a0 = some (r1, r2)) :
  Calls Tryz.prog 148 #[.int .i64 a0] w fun e w' => e = .returned (.agg #[.int .i64 r1, .int .i64 r2]) ∧ Below w.heap.size w w' := by
 have hu25 := Tryz.underlying25
 have HB := Sd.mk (Below.refl w.heap.size w)
 have H : (if a0 > 0 then ((r8_Plus.f).bind fun bt284 => (some (bt284.1, bt284.2))) else (if a0 < 0 then ((r8_Minus.f).bind fun bt286 => (some (bt286.1, bt286.2))) else ((r8_NaN.f).bind fun bt288 => (some (bt288.1, bt288.2))))) = some (r1, r2) := h
 clear h
 by_cases c2 : a0 > 0
 ·rw [if_pos c2] at H
  have c2b0 : decide (0 < a0) = true := decide_eq_true c2
  clear c2
  obtain ⟨⟨t284, t285⟩, A3, H⟩ := bnd H
  replace H : (some (t284, t285)) = some (r1, r2) := H
  simp only [Option.some.injEq, Prod.mk.injEq] at H
  obtain ⟨rfl, rfl⟩ := H
  go_enter Tryz.func148, Tryz.ntmps148
  go_wp2_with (first | ((with_reducible refine gate_dst (N := 2) rfl ?_); refine bxe (N := 2) (cs := #[.int .i64 0, .int .i64 0]) (t := 25) ?_; intro gb283 hg w4 hbox hb; have BK283 := Sd.mk hbox; have GW283 := bge w hg; have GE283 := bge w hg; replace HB := bsq w hb; clear hb hbox hg) | ((with_reducible refine gate_callee (f := 69) rfl ?_); refine goesL_ (some 6) rfl rfl Tryz.func69 (by kernel_rfl) rfl #[] rfl ma ?_; (with_reducible refine (r8_Plus.calls  t284 t285 _ A3.out).mono ?_); rintro e w5 ⟨rfl, hb⟩; refine ⟨_, rfl, ?_⟩; replace BK283 := bkb BK283 hb; replace HB := bsq w hb; (try clear hb); have hcz6_0 := bz0 BK283; have hcz6_1 := bz1 BK283; have hfz6_0 := blk_frozen BK283.out 0; have hfz6_1 := blk_frozen BK283.out 1))
  refine bodyPost_ret (results_cell_row rfl _ _ gb283 25 #[.int .i64 t284, .int .i64 t285] (0, 0) _ rfl (by (repeat refine dw ?_); refine blk_put (cs := #[.int .i64 t284, .int .i64 0]) ?_ 1 _ rfl; (repeat refine dw ?_); refine blk_put (cs := #[.int .i64 0, .int .i64 0]) ?_ 0 _ rfl; (repeat refine dw ?_); exact BK283.out) Tryz.underlying25 rfl (by kernel_rfl)) rfl ?_
  exact ⟨fe, bbl⟩
 ·rw [if_neg c2] at H
  have c2b0 : decide (0 < a0) = false := decide_eq_false c2
  clear c2
  by_cases c7 : a0 < 0
  ·rw [if_pos c7] at H
   have c7b0 : decide (a0 < 0) = true := decide_eq_true c7
   clear c7
   obtain ⟨⟨t286, t287⟩, A8, H⟩ := bnd H
   replace H : (some (t286, t287)) = some (r1, r2) := H
   simp only [Option.some.injEq, Prod.mk.injEq] at H
   obtain ⟨rfl, rfl⟩ := H
   go_enter Tryz.func148, Tryz.ntmps148
   go_wp2_with (first | ((with_reducible refine gate_dst (N := 2) rfl ?_); refine bxe (N := 2) (cs := #[.int .i64 0, .int .i64 0]) (t := 25) ?_; intro gb283 hg w9 hbox hb; have BK283 := Sd.mk hbox; have GW283 := bge w hg; have GE283 := bge w hg; replace HB := bsq w hb; clear hb hbox hg) | ((with_reducible refine gate_callee (f := 70) rfl ?_); refine goesL_ (some 10) rfl rfl Tryz.func70 (by kernel_rfl) rfl #[] rfl ma ?_; (with_reducible refine (r8_Minus.calls  t286 t287 _ A8.out).mono ?_); rintro e w10 ⟨rfl, hb⟩; refine ⟨_, rfl, ?_⟩; replace BK283 := bkb BK283 hb; replace HB := bsq w hb; (try clear hb); have hcz11_0 := bz0 BK283; have hcz11_1 := bz1 BK283; have hfz11_0 := blk_frozen BK283.out 0; have hfz11_1 := blk_frozen BK283.out 1))
   refine bodyPost_ret (results_cell_row rfl _ _ gb283 25 #[.int .i64 t286, .int .i64 t287] (0, 0) _ rfl (by (repeat refine dw ?_); refine blk_put (cs := #[.int .i64 t286, .int .i64 0]) ?_ 1 _ rfl; (repeat refine dw ?_); refine blk_put (cs := #[.int .i64 0, .int .i64 0]) ?_ 0 _ rfl; (repeat refine dw ?_); exact BK283.out) Tryz.underlying25 rfl (by kernel_rfl)) rfl ?_
   exact ⟨fe, bbl⟩
  ·rw [if_neg c7] at H
   have c7b0 : decide (a0 < 0) = false := decide_eq_false c7
   clear c7
   obtain ⟨⟨t288, t289⟩, A12, H⟩ := bnd H
   replace H : (some (t288, t289)) = some (r1, r2) := H
   simp only [Option.some.injEq, Prod.mk.injEq] at H
   obtain ⟨rfl, rfl⟩ := H
   go_enter Tryz.func148, Tryz.ntmps148
   go_wp2_with (first | ((with_reducible refine gate_dst (N := 2) rfl ?_); refine bxe (N := 2) (cs := #[.int .i64 0, .int .i64 0]) (t := 25) ?_; intro gb283 hg w13 hbox hb; have BK283 := Sd.mk hbox; have GW283 := bge w hg; have GE283 := bge w hg; replace HB := bsq w hb; clear hb hbox hg) | ((with_reducible refine gate_callee (f := 29) rfl ?_); refine goesL_ (some 11) rfl rfl Tryz.func29 (by kernel_rfl) rfl #[] rfl ma ?_; (with_reducible refine (r8_NaN.calls  t288 t289 _ A12.out).mono ?_); rintro e w14 ⟨rfl, hb⟩; refine ⟨_, rfl, ?_⟩; replace BK283 := bkb BK283 hb; replace HB := bsq w hb; (try clear hb); have hcz15_0 := bz0 BK283; have hcz15_1 := bz1 BK283; have hfz15_0 := blk_frozen BK283.out 0; have hfz15_1 := blk_frozen BK283.out 1))
   refine bodyPost_ret (results_cell_row rfl _ _ gb283 25 #[.int .i64 t288, .int .i64 t289] (0, 0) _ rfl (by (repeat refine dw ?_); refine blk_put (cs := #[.int .i64 t288, .int .i64 0]) ?_ 1 _ rfl; (repeat refine dw ?_); refine blk_put (cs := #[.int .i64 0, .int .i64 0]) ?_ 0 _ rfl; (repeat refine dw ?_); exact BK283.out) Tryz.underlying25 rfl (by kernel_rfl)) rfl ?_
   exact ⟨fe, bbl⟩
def r8_size.f (a0 : Int) : Option (Int) := if a0 < 0 then (some (wrap64 (-a0))) else (some a0)
theorem r8_size.calls (a0 : Int) (r : Int) (w : World) (h : r8_size.f a0 = some r) :
  Calls Tryz.prog 149 #[.int .i64 a0] w fun e w' => e = .returned (.int .i64 r) ∧ Drawn0 w w' := by
 have H : (if a0 < 0 then (some (wrap64 (-a0))) else (some a0)) = some r := h
 clear h
 by_cases c2 : a0 < 0
 ·rw [if_pos c2] at H
  have c2b0 : decide (a0 < 0) = true := decide_eq_true c2
  clear c2
  obtain rfl := Option.some.inj H
  go_enter Tryz.func149, Tryz.ntmps149
  go_wp2
  go_ret
  exact ⟨ae, by repeat (first | exact Drawn0.refl _ | apply Drawn0.step)⟩
 ·rw [if_neg c2] at H
  have c2b0 : decide (a0 < 0) = false := decide_eq_false c2
  clear c2
  obtain rfl := Option.some.inj H
  go_enter Tryz.func149, Tryz.ntmps149
  go_wp2
  go_ret
  exact ⟨ae, by repeat (first | exact Drawn0.refl _ | apply Drawn0.step)⟩
mutual
def r8_times.j0 : Nat → Int → Bool → Int → Int → Int → Int → Option (Int × Int)
 | 0, _, _, _, _, _, _ => none
 | k + 1, x5, x22, x291000, x291001, x292000, x292001 => if x22 = true then ((r8_beyond.f x5).bind fun bt297 => (some (bt297.1, bt297.2))) else ((r8_size.f x291001).bind fun t299 => ((r8_size.f x292001).bind fun t300 => (if (wrap64 (Int.tdiv t299 1000)) > 0 then (if (wrap64 (Int.tdiv t299 1000)) = 0 then (none) else (r8_times.j1 k x5 t300 (wrap64 (Int.tdiv t299 1000)) (Int.tmod t299 1000) (decide (t300 > (wrap64 ((1000000000000000 : Int) / (wrap64 (Int.tdiv t299 1000)))))))) else (r8_times.j1 k x5 t300 (wrap64 (Int.tdiv t299 1000)) (Int.tmod t299 1000) false))))
def r8_times.j1 : Nat → Int → Int → Int → Int → Bool → Option (Int × Int)
 | 0, _, _, _, _, _ => none
 | k + 1, x5, x7, x8, x9, x42 => if x42 = true then ((r8_beyond.f x5).bind fun bt301 => (some (bt301.1, bt301.2))) else ((r8_Num.f (wrap64 (x5 * (wrap64 ((wrap64 (x8 * x7)) + (wrap64 (Int.tdiv (wrap64 (x9 * x7)) 1000))))))).bind fun bt303 => (some (bt303.1, bt303.2)))
end
def r8_times.f (k : Nat) (a0_0 : Int) (a0_1 : Int) (a1_0 : Int) (a1_1 : Int) : Option (Int × Int) := (r8_sign.f k a0_0 a0_1).bind fun t293 => ((r8_sign.f k a1_0 a1_1).bind fun t294 => ((r8_num.f a0_0 a0_1).bind fun t295 => (if t295 = true then ((r8_num.f a1_0 a1_1).bind fun t296 => (r8_times.j0 k (wrap64 (t293 * t294)) (!t296) a0_0 a0_1 a1_0 a1_1)) else (r8_times.j0 k (wrap64 (t293 * t294)) true a0_0 a0_1 a1_0 a1_1))))
def r8_times.T4 : Bool × List (List Nat × List Nat) := (true, [([], []), ([0], [0]), ([1], [1]), ([], []), ([3], [3]), ([4, 2], [4]), ([2, 5, 0, 1, 2], [2]), ([5, 6, 0, 1, 2, 3, 4, 5, 6], [5])])
def r8_times.B4 : List Nat := [0, 1, 3, 0, 8, 31, 63, 127]
theorem r8_times.tab4 : rtab .any (opsOf Tryz.f99 4) = r8_times.T4 := by kernel_rfl
theorem r8_times.bits4 : waitsOk r8_times.T4.2 r8_times.B4 = true := by kernel_rfl
theorem r8_times.calls (k : Nat) (a0_0 : Int) (a0_1 : Int) (a1_0 : Int) (a1_1 : Int) (r1 : Int) (r2 : Int) (w : World) (h : r8_times.f k a0_0 a0_1 a1_0 a1_1 = some (r1, r2)) :
  Calls Tryz.prog 99 #[.agg #[.int .i64 a0_0, .int .i64 a0_1], .agg #[.int .i64 a1_0, .int .i64 a1_1]] w fun e w' => e = .returned (.agg #[.int .i64 r1, .int .i64 r2]) ∧ Below w.heap.size w w' := by
 have hu25 := Tryz.underlying25
 have HB := Sd.mk (Below.refl w.heap.size w)
 have H : ((r8_sign.f k a0_0 a0_1).bind fun t293 => ((r8_sign.f k a1_0 a1_1).bind fun t294 => ((r8_num.f a0_0 a0_1).bind fun t295 => (if t295 = true then ((r8_num.f a1_0 a1_1).bind fun t296 => (r8_times.j0 k (wrap64 (t293 * t294)) (!t296) a0_0 a0_1 a1_0 a1_1)) else (r8_times.j0 k (wrap64 (t293 * t294)) true a0_0 a0_1 a1_0 a1_1))))) = some (r1, r2) := h
 clear h
 obtain ⟨t293, A3, H⟩ := bnd H
 obtain ⟨t294, A4, H⟩ := bnd H
 have HC5 := Sd.mk H
 clear H
 go_enter Tryz.func99, Tryz.ntmps99
 try go_wp2_with (first | ((with_reducible refine gate_dst (N := 2) rfl ?_); refine bxe (N := 2) (cs := #[.int .i64 a0_0, .int .i64 a0_1]) (t := 25) ?_; intro gb290 hg w6 hbox hb; have BK290 := Sd.mk hbox; have GW290 := bge w hg; have GE290 := bge w hg; replace HB := bsq w hb; clear hb hbox hg) | ((with_reducible refine gate_dst (N := 3) rfl ?_); refine bxe (N := 3) (cs := #[.int .i64 a1_0, .int .i64 a1_1]) (t := 25) ?_; intro gb291 hg w7 hbox hb; have BK291 := Sd.mk hbox; have GW291 := bge w hg; have GE291 := bge w hg; have NB290_291 := bnl BK290 hg; have NB291_290 := bng BK290 hg; replace BK290 := bkb BK290 hb; replace HB := bsq w hb; clear hb hbox hg) | ((with_reducible refine gate_dst (N := 4) rfl ?_); refine bxe (N := 4) (cs := #[.int .i64 0, .int .i64 0]) (t := 25) ?_; intro gb292 hg w8 hbox hb; have BK292 := Sd.mk hbox; have GW292 := bge w hg; have GE292 := bge w hg; have NB290_292 := bnl BK290 hg; have NB292_290 := bng BK290 hg; have NB291_292 := bnl BK291 hg; have NB292_291 := bng BK291 hg; replace BK290 := bkb BK290 hb; replace BK291 := bkb BK291 hb; replace HB := bsq w hb; clear hb hbox hg))
 have n0_ := Sd.mk (blk_drew BK290.out)
 have n1_ := Sd.mk (blk_drew BK291.out)
 have n2_ := Sd.mk (blk_drew BK292.out)
 have n3_ := Sd.mk (bd1 HB.out)
 clear BK290 BK291 BK292 HB
 have BK290 := n0_
 have BK291 := n1_
 have BK292 := n2_
 have HB := n3_
 clear n0_ n1_ n2_ n3_
 refine start_ (n := 6) (S := fun w' => w'.cell? ⟨gb290, 0, none⟩ = some (.int .i64 a0_0) ∧ w'.cell? ⟨gb290, 1, none⟩ = some (.int .i64 a0_1) ∧ w'.cell? ⟨gb291, 0, none⟩ = some (.int .i64 a1_0) ∧ w'.cell? ⟨gb291, 1, none⟩ = some (.int .i64 a1_1)) (ds := []) #[false, false, false, false, false, false] (by kernel_rfl) rfl rfl ⟨(blk_cell BK290.out 0).trans rfl, (blk_cell BK290.out 1).trans rfl, (blk_cell BK291.out 0).trans rfl, (blk_cell BK291.out 1).trans rfl⟩ (fun hHeld => ?_)
 generalize w8.drew = w9 at BK290 BK291 BK292 HB hHeld ⊢
 refine take_ (i := 0) (N := some 10) (v := ?_) (a' := ?_) #[true, false, false, false, false, false] rfl rfl (by kernel_rfl) (fun _ _ _ h => h) (Or.inl ⟨by rfl, ?_⟩) hHeld ?_ ?_
 rotate_left
 ·rintro w' ⟨s0, s1, s2, s3⟩
  go_simp
  with_reducible rfl
 rotate_left
 ·simp only [Act.put, List.setIfInBounds_toArray, List.set_cons_zero, List.set_cons_succ, i64_w, i32_w]
  rfl
 refine take_ (i := 2) (N := some 12) (v := ?_) (a' := ?_) #[true, false, true, false, false, false] rfl rfl (by kernel_rfl) (fun _ _ _ h => h) (Or.inl ⟨by rfl, ?_⟩) hHeld ?_ ?_
 rotate_left
 ·rintro w' ⟨s0, s1, s2, s3⟩
  go_simp
  with_reducible rfl
 rotate_left
 ·simp only [Act.put, List.setIfInBounds_toArray, List.set_cons_zero, List.set_cons_succ, i64_w, i32_w]
  rfl
 refine one_ (i := 1) (N := some 11) #[true, true, true, false, false, false] rfl rfl (by kernel_rfl) (by decide) (fun K hK => ?_)
 refine goes_ Tryz.func96 (by kernel_rfl) rfl #[.agg #[.int .i64 a0_0, .int .i64 a0_1]] (by rfl) rfl rfl ma ?_
 with_reducible refine (r8_sign.calls k a0_0 a0_1 t293 _ A3.out).mono ?_
 rintro e w10 ⟨rfl, hb⟩
 refine ⟨_, rfl, ?_⟩
 have n0_ := bkb BK290 hb
 have n1_ := bkb BK291 hb
 have n2_ := bkb BK292 hb
 have n3_ := bsq w hb
 clear BK290 BK291 BK292 HB
 have BK290 := n0_
 have BK291 := n1_
 have BK292 := n2_
 have HB := n3_
 clear n0_ n1_ n2_ n3_
 (try clear hb)
 (try clear hb2)
 (try clear hk)
 (try clear hi)
 refine hK.out _ _ ⟨(blk_cell BK290.out 0).trans rfl, (blk_cell BK290.out 1).trans rfl, (blk_cell BK291.out 0).trans rfl, (blk_cell BK291.out 1).trans rfl⟩ (fun hHeld => ?_)
 clear hK K
 refine norm_ (a' := ?_) ?_ ?_
 rotate_left
 ·show Act.put _ (some 11) _ = _
  simp only [Act.put, List.setIfInBounds_toArray, List.set_cons_zero, List.set_cons_succ, i64_w, i32_w]
  rfl
 refine one_ (i := 3) (N := some 13) #[true, true, true, true, false, false] rfl rfl (by kernel_rfl) (by decide) (fun K hK => ?_)
 refine goes_ Tryz.func96 (by kernel_rfl) rfl #[.agg #[.int .i64 a1_0, .int .i64 a1_1]] (by rfl) rfl rfl ma ?_
 with_reducible refine (r8_sign.calls k a1_0 a1_1 t294 _ A4.out).mono ?_
 rintro e w11 ⟨rfl, hb⟩
 refine ⟨_, rfl, ?_⟩
 have n0_ := bkb BK290 hb
 have n1_ := bkb BK291 hb
 have n2_ := bkb BK292 hb
 have n3_ := bsq w hb
 clear BK290 BK291 BK292 HB
 have BK290 := n0_
 have BK291 := n1_
 have BK292 := n2_
 have HB := n3_
 clear n0_ n1_ n2_ n3_
 (try clear hb)
 (try clear hb2)
 (try clear hk)
 (try clear hi)
 refine hK.out _ _ ⟨(blk_cell BK290.out 0).trans rfl, (blk_cell BK290.out 1).trans rfl, (blk_cell BK291.out 0).trans rfl, (blk_cell BK291.out 1).trans rfl⟩ (fun hHeld => ?_)
 clear hK K
 refine norm_ (a' := ?_) ?_ ?_
 rotate_left
 ·show Act.put _ (some 13) _ = _
  simp only [Act.put, List.setIfInBounds_toArray, List.set_cons_zero, List.set_cons_succ, i64_w, i32_w]
  rfl
 refine pure_ (i := 4) (N := some 14) (v := ?_) (a' := ?_) #[true, true, true, true, true, false] rfl rfl (by kernel_rfl) (fun _ _ _ h => h) (Or.inl ⟨by rfl, ?_⟩) ?_ ?_
 rotate_left
 ·intro w'
  go_simp
  with_reducible rfl
 rotate_left
 ·simp only [Act.put, List.setIfInBounds_toArray, List.set_cons_zero, List.set_cons_succ, i64_w, i32_w]
  rfl
 refine pure_ (i := 5) (N := some 5) (v := ?_) (a' := ?_) #[true, true, true, true, true, true] rfl rfl (by kernel_rfl) (fun _ _ _ h => h) (Or.inl ⟨by rfl, ?_⟩) ?_ ?_
 rotate_left
 ·intro w'
  go_simp
  with_reducible rfl
 rotate_left
 ·simp only [Act.put, List.setIfInBounds_toArray, List.set_cons_zero, List.set_cons_succ, i64_w, i32_w]
  rfl
 refine done_ (by kernel_rfl) ?_
 go_upto_region 2 with (fail)
 go_cut [22] (fun v22 wc => ∃ (kq : Nat) (x22_4 : Bool), v22 = .bool x22_4 ∧ Sd (r8_times.j0 kq (wrap64 (t293 * t294)) x22_4 a0_0 a0_1 a1_0 a1_1 = some (r1, r2)) ∧ Sd (kq ≤ k) ∧ Sd (wc.heap[gb290]? = some (.cells #[.int .i64 a0_0, .int .i64 a0_1] 25 (0, 0))) ∧ Sd (wc.heap[gb291]? = some (.cells #[.int .i64 a1_0, .int .i64 a1_1] 25 (0, 0))) ∧ Sd (wc.heap[gb292]? = some (.cells #[.int .i64 0, .int .i64 0] 25 (0, 0))) ∧ Sd (Below w.heap.size w wc))
 case first =>
  have H := HC5.out
  clear HC5
  obtain ⟨t295, A12, H⟩ := bnd H
  by_cases c13 : t295 = true
  ·subst c13
   replace H := iT H
   obtain ⟨t296, A14, H⟩ := bnd H
   have H' := Sd.mk H
   clear H
   have hnb15 := NB290_291.out
   have hnc15 := NB291_290.out
   have hnb16 := NB290_292.out
   have hnc16 := NB292_290.out
   obtain ⟨hcz17_0, hcz17_1, hfz17_0, hfz17_1⟩ := bz BK290
   go_wp2_with (first | ((with_reducible refine gate_callee (f := 84) rfl ?_); refine goesL_ (some 16) rfl rfl Tryz.func84 (by kernel_rfl) rfl #[.agg #[.int .i64 a0_0, .int .i64 a0_1]] rfl ma ?_; (with_reducible refine (r8_num.calls a0_0 a0_1 true _ A12.out).mono ?_); rintro e w18 ⟨rfl, hb⟩; refine ⟨_, rfl, ?_⟩; replace BK290 := bkb BK290 hb; replace BK291 := bkb BK291 hb; replace BK292 := bkb BK292 hb; replace HB := bsq w hb; (try clear hb); have hnb19 := NB291_292.out; have hnc19 := NB292_291.out; have hcz20_0 := bz0 BK291; have hcz20_1 := bz1 BK291; have hfz20_0 := blk_frozen BK291.out 0; have hfz20_1 := blk_frozen BK291.out 1) | (go_at_call 84; (with_reducible refine (r8_num.calls a1_0 a1_1 t296 _ A14.out).mono ?_); rintro e w21 ⟨rfl, hb⟩; replace BK290 := bkb BK290 hb; replace BK291 := bkb BK291 hb; replace BK292 := bkb BK292 hb; replace HB := bsq w hb; (try clear hb)))
   go_meet
   case rel => exact ⟨_, (!t296), ae, H', ⟨by first | omega | exact Nat.le_refl _⟩, fwK BK290, fwK BK291, fwK BK292, ⟨bbl⟩⟩
  ·replace c13 := Bool.eq_false_iff.mpr c13
   subst c13
   replace H := iF H
   have H' := Sd.mk H
   clear H
   have hnb22 := NB290_291.out
   have hnc22 := NB291_290.out
   have hnb23 := NB290_292.out
   have hnc23 := NB292_290.out
   obtain ⟨hcz24_0, hcz24_1, hfz24_0, hfz24_1⟩ := bz BK290
   go_wp2_with (first | ((with_reducible refine gate_callee (f := 84) rfl ?_); refine goesL_ (some 16) rfl rfl Tryz.func84 (by kernel_rfl) rfl #[.agg #[.int .i64 a0_0, .int .i64 a0_1]] rfl ma ?_; (with_reducible refine (r8_num.calls a0_0 a0_1 false _ A12.out).mono ?_); rintro e w25 ⟨rfl, hb⟩; refine ⟨_, rfl, ?_⟩; replace BK290 := bkb BK290 hb; replace BK291 := bkb BK291 hb; replace BK292 := bkb BK292 hb; replace HB := bsq w hb; (try clear hb)))
   go_meet
   case rel => exact ⟨_, (true), ae, H', ⟨by first | omega | exact Nat.le_refl _⟩, fwK BK290, fwK BK291, fwK BK292, ⟨bbl⟩⟩
 case rest =>
  clear HC5
  obtain ⟨kq, x22_4, rfl, HA, HJ4, BK290, BK291, BK292, HB⟩ := hcut
  cases kq with
  | zero => exact absurd HA.out (by simp [r8_times.j0])
  | succ kj4 =>
   have H := HA.out
   clear HA
   simp only [r8_times.j0] at H
   by_cases c26 : x22_4 = true
   ·subst c26
    replace H := iT H
    obtain ⟨⟨t297, t298⟩, A27, H⟩ := bnd H
    replace H : (some (t297, t298)) = some (r1, r2) := H
    simp only [Option.some.injEq, Prod.mk.injEq] at H
    obtain ⟨rfl, rfl⟩ := H
    go_wp2_with (first | ((with_reducible refine gate_callee (f := 148) rfl ?_); refine goesL_ (some 24) rfl rfl Tryz.func148 (by kernel_rfl) rfl #[.int .i64 (wrap64 (t293 * t294))] rfl ma ?_; (with_reducible refine (r8_beyond.calls (wrap64 (t293 * t294)) t297 t298 _ A27.out).mono ?_); rintro e w28 ⟨rfl, hb⟩; refine ⟨_, rfl, ?_⟩; replace BK290 := bkb BK290 hb; replace BK291 := bkb BK291 hb; replace BK292 := bkb BK292 hb; replace HB := bsq w hb; (try clear hb); have hnb29 := NB292_290.out; have hnc29 := NB290_292.out; have hnb30 := NB292_291.out; have hnc30 := NB291_292.out; have hcz31_0 := bz0 BK292; have hcz31_1 := bz1 BK292; have hfz31_0 := blk_frozen BK292.out 0; have hfz31_1 := blk_frozen BK292.out 1))
    refine bodyPost_ret (results_cell_row rfl _ _ gb292 25 #[.int .i64 t297, .int .i64 t298] (0, 0) _ rfl (by (repeat refine dw ?_); refine blk_put (cs := #[.int .i64 t297, .int .i64 0]) ?_ 1 _ rfl; (repeat refine dw ?_); refine blk_put (cs := #[.int .i64 0, .int .i64 0]) ?_ 0 _ rfl; (repeat refine dw ?_); exact BK292.out) Tryz.underlying25 rfl (by kernel_rfl)) rfl ?_
    exact ⟨fe, bbl⟩
   ·replace c26 := Bool.eq_false_iff.mpr c26
    subst c26
    replace H := iF H
    obtain ⟨t299, A32, H⟩ := bnd H
    obtain ⟨t300, A33, H⟩ := bnd H
    have HC34 := Sd.mk H
    clear H
    try go_wp2
    have n0_ := Sd.mk (blk_drew BK290.out)
    have n1_ := Sd.mk (blk_drew BK291.out)
    have n2_ := Sd.mk (blk_drew BK292.out)
    have n3_ := Sd.mk (bd1 HB.out)
    clear BK290 BK291 BK292 HB
    have BK290 := n0_
    have BK291 := n1_
    have BK292 := n2_
    have HB := n3_
    clear n0_ n1_ n2_ n3_
    refine start_ (n := 8) (S := fun w' => w'.cell? ⟨gb290, 0, none⟩ = some (.int .i64 a0_0) ∧ w'.cell? ⟨gb290, 1, none⟩ = some (.int .i64 a0_1) ∧ w'.cell? ⟨gb291, 0, none⟩ = some (.int .i64 a1_0) ∧ w'.cell? ⟨gb291, 1, none⟩ = some (.int .i64 a1_1)) (ds := []) #[false, false, false, false, false, false, false, false] (by kernel_rfl) rfl rfl ⟨(blk_cell BK290.out 0).trans rfl, (blk_cell BK290.out 1).trans rfl, (blk_cell BK291.out 0).trans rfl, (blk_cell BK291.out 1).trans rfl⟩ (fun hHeld => ?_); refine with_tabW r8_times.tab4 r8_times.bits4 (fun HT_ HW_ => ?_)
    generalize wc.drew = w35 at BK290 BK291 BK292 HB hHeld ⊢
    refine pure_ (i := 0) (N := some 25) (v := ?_) (a' := ?_) #[true, false, false, false, false, false, false, false] rfl rfl (any_of HT_.out (by kernel_rfl)) (fun _ _ _ h => h) (Or.inl ⟨by rfl, ?_⟩) ?_ ?_
    rotate_left
    ·intro w'
     go_simp
     with_reducible rfl
    rotate_left
    ·simp only [Act.put, List.setIfInBounds_toArray, List.set_cons_zero, List.set_cons_succ, i64_w, i32_w]
     rfl
    refine pure_ (i := 3) (N := some 28) (v := ?_) (a' := ?_) #[true, false, false, true, false, false, false, false] rfl rfl (any_of HT_.out (by kernel_rfl)) (fun _ _ _ h => h) (Or.inl ⟨by rfl, ?_⟩) ?_ ?_
    rotate_left
    ·intro w'
     go_simp
     with_reducible rfl
    rotate_left
    ·simp only [Act.put, List.setIfInBounds_toArray, List.set_cons_zero, List.set_cons_succ, i64_w, i32_w]
     rfl
    refine take_ (i := 1) (N := some 26) (v := ?_) (a' := ?_) #[true, true, false, true, false, false, false, false] rfl rfl (take_ofW HT_.out HW_.out (by kernel_rfl)) (fun _ _ _ h => h) (Or.inl ⟨by rfl, ?_⟩) hHeld ?_ ?_
    rotate_left
    ·rintro w' ⟨s0, s1, s2, s3⟩
     go_simp
     with_reducible rfl
    rotate_left
    ·simp only [Act.put, List.setIfInBounds_toArray, List.set_cons_zero, List.set_cons_succ, i64_w, i32_w]
     rfl
    refine take_ (i := 4) (N := some 29) (v := ?_) (a' := ?_) #[true, true, false, true, true, false, false, false] rfl rfl (take_ofW HT_.out HW_.out (by kernel_rfl)) (fun _ _ _ h => h) (Or.inl ⟨by rfl, ?_⟩) hHeld ?_ ?_
    rotate_left
    ·rintro w' ⟨s0, s1, s2, s3⟩
     go_simp
     with_reducible rfl
    rotate_left
    ·simp only [Act.put, List.setIfInBounds_toArray, List.set_cons_zero, List.set_cons_succ, i64_w, i32_w]
     rfl
    refine one_ (i := 2) (N := some 27) #[true, true, true, true, true, false, false, false] rfl rfl (one_of HT_.out (by kernel_rfl)) (by decide) (fun K hK => ?_)
    refine goes_ Tryz.func149 (by kernel_rfl) rfl #[.int .i64 a0_1] (by rfl) rfl rfl ma ?_
    with_reducible refine (r8_size.calls a0_1 t299 _ A32.out).mono ?_
    rintro e w' ⟨rfl, ⟨nd, rfl⟩⟩
    refine ⟨_, rfl, ?_⟩
    refine hK.out _ _ ⟨(blk_cell BK290.out 0).trans rfl, (blk_cell BK290.out 1).trans rfl, (blk_cell BK291.out 0).trans rfl, (blk_cell BK291.out 1).trans rfl⟩ (fun hHeld => ?_)
    clear hK K
    refine norm_ (a' := ?_) ?_ ?_
    rotate_left
    ·show Act.put _ (some 27) _ = _
     simp only [Act.put, List.setIfInBounds_toArray, List.set_cons_zero, List.set_cons_succ, i64_w, i32_w]
     rfl
    refine one_ (i := 5) (N := some 30) #[true, true, true, true, true, true, false, false] rfl rfl (one_of HT_.out (by kernel_rfl)) (by decide) (fun K hK => ?_)
    refine goes_ Tryz.func149 (by kernel_rfl) rfl #[.int .i64 a1_1] (by rfl) rfl rfl ma ?_
    with_reducible refine (r8_size.calls a1_1 t300 _ A33.out).mono ?_
    rintro e w' ⟨rfl, ⟨nd, rfl⟩⟩
    refine ⟨_, rfl, ?_⟩
    refine hK.out _ _ ⟨(blk_cell BK290.out 0).trans rfl, (blk_cell BK290.out 1).trans rfl, (blk_cell BK291.out 0).trans rfl, (blk_cell BK291.out 1).trans rfl⟩ (fun hHeld => ?_)
    clear hK K
    refine norm_ (a' := ?_) ?_ ?_
    rotate_left
    ·show Act.put _ (some 30) _ = _
     simp only [Act.put, List.setIfInBounds_toArray, List.set_cons_zero, List.set_cons_succ, i64_w, i32_w]
     rfl
    refine pure_ (i := 6) (N := some 6) (v := ?_) (a' := ?_) #[true, true, true, true, true, true, true, false] rfl rfl (any_of HT_.out (by kernel_rfl)) (fun _ _ _ h => h) (Or.inl ⟨by rfl, ?_⟩) ?_ ?_
    rotate_left
    ·intro w'
     go_simp
     with_reducible rfl
    rotate_left
    ·simp only [Act.put, List.setIfInBounds_toArray, List.set_cons_zero, List.set_cons_succ, i64_w, i32_w]
     rfl
    refine pure_ (i := 7) (N := some 7) (v := ?_) (a' := ?_) #[true, true, true, true, true, true, true, true] rfl rfl (any_of HT_.out (by kernel_rfl)) (fun _ _ _ h => h) (Or.inl ⟨by rfl, ?_⟩) ?_ ?_
    rotate_left
    ·intro w'
     go_simp
     with_reducible rfl
    rotate_left
    ·simp only [Act.put, List.setIfInBounds_toArray, List.set_cons_zero, List.set_cons_succ, i64_w, i32_w]
     rfl
    refine done_ (done_of HT_.out (by kernel_rfl)) ?_
    go_upto_region 6 with (fail)
    go_cut [42] (fun v42 wc => ∃ (kq : Nat) (x42_33 : Bool), v42 = .bool x42_33 ∧ Sd (r8_times.j1 kq (wrap64 (t293 * t294)) t300 (wrap64 (Int.tdiv t299 1000)) (Int.tmod t299 1000) x42_33 = some (r1, r2)) ∧ Sd (kq ≤ kj4) ∧ Sd (wc.heap[gb290]? = some (.cells #[.int .i64 a0_0, .int .i64 a0_1] 25 (0, 0))) ∧ Sd (wc.heap[gb291]? = some (.cells #[.int .i64 a1_0, .int .i64 a1_1] 25 (0, 0))) ∧ Sd (wc.heap[gb292]? = some (.cells #[.int .i64 0, .int .i64 0] 25 (0, 0))) ∧ Sd (Below w.heap.size w wc))
    case first =>
     have H := HC34.out
     clear HC34
     by_cases c36 : (wrap64 (Int.tdiv t299 1000)) > 0
     ·rw [if_pos c36] at H
      have c36b0 : decide (0 < (wrap64 (Int.tdiv t299 1000))) = true := decide_eq_true c36
      clear c36
      (first | rw [c36b0] | (simp only [i64_w, i32_w]; rw [c36b0]) | skip)
      by_cases c37 : (wrap64 (Int.tdiv t299 1000)) = 0
      ·rw [if_pos c37] at H
       exact absurd H (by simp)
      ·rw [if_neg c37] at H
       have c37b0 : ((wrap64 (Int.tdiv t299 1000)) == 0) = false := beq_eq_false_iff_ne.mpr c37
       have c37b1 : ((wrap64 (Int.tdiv t299 1000)) != 0) = true := bne_iff_ne.mpr c37
       have H' := Sd.mk H
       clear H
       go_wp2
       go_meet
       case rel => exact ⟨_, (decide (t300 > (wrap64 ((1000000000000000 : Int) / (wrap64 (Int.tdiv t299 1000)))))), (by first | rfl | (simp; done) | (simp [*]; done) | (simp [Int.tdiv_eq_ediv_of_nonneg]; done) | (simp [*, Int.tdiv_eq_ediv_of_nonneg]; done)), H', ⟨by have := HJ4.out; first | omega | exact Nat.le_refl _⟩, fwK BK290, fwK BK291, fwK BK292, ⟨bbl⟩⟩
     ·rw [if_neg c36] at H
      have c36b0 : decide (0 < (wrap64 (Int.tdiv t299 1000))) = false := decide_eq_false c36
      clear c36
      (first | rw [c36b0] | (simp only [i64_w, i32_w]; rw [c36b0]) | skip)
      have H' := Sd.mk H
      clear H
      go_wp2
      go_meet
      case rel => exact ⟨_, (false), ae, H', ⟨by have := HJ4.out; first | omega | exact Nat.le_refl _⟩, fwK BK290, fwK BK291, fwK BK292, ⟨bbl⟩⟩
    case rest =>
     clear HC34
     obtain ⟨kq, x42_33, rfl, HA, HJ33, BK290, BK291, BK292, HB⟩ := hcut
     cases kq with
     | zero => exact absurd HA.out (by simp [r8_times.j1])
     | succ kj33 =>
      have H := HA.out
      clear HA
      simp only [r8_times.j1] at H
      by_cases c38 : x42_33 = true
      ·subst c38
       replace H := iT H
       obtain ⟨⟨t301, t302⟩, A39, H⟩ := bnd H
       replace H : (some (t301, t302)) = some (r1, r2) := H
       simp only [Option.some.injEq, Prod.mk.injEq] at H
       obtain ⟨rfl, rfl⟩ := H
       go_wp2_with (first | ((with_reducible refine gate_callee (f := 148) rfl ?_); refine goesL_ (some 44) rfl rfl Tryz.func148 (by kernel_rfl) rfl #[.int .i64 (wrap64 (t293 * t294))] rfl ma ?_; (with_reducible refine (r8_beyond.calls (wrap64 (t293 * t294)) t301 t302 _ A39.out).mono ?_); rintro e w40 ⟨rfl, hb⟩; refine ⟨_, rfl, ?_⟩; replace BK290 := bkb BK290 hb; replace BK291 := bkb BK291 hb; replace BK292 := bkb BK292 hb; replace HB := bsq w hb; (try clear hb); have hnb41 := NB292_290.out; have hnc41 := NB290_292.out; have hnb42 := NB292_291.out; have hnc42 := NB291_292.out; have hcz43_0 := bz0 BK292; have hcz43_1 := bz1 BK292; have hfz43_0 := blk_frozen BK292.out 0; have hfz43_1 := blk_frozen BK292.out 1))
       refine bodyPost_ret (results_cell_row rfl _ _ gb292 25 #[.int .i64 t301, .int .i64 t302] (0, 0) _ rfl (by (repeat refine dw ?_); refine blk_put (cs := #[.int .i64 t301, .int .i64 0]) ?_ 1 _ rfl; (repeat refine dw ?_); refine blk_put (cs := #[.int .i64 0, .int .i64 0]) ?_ 0 _ rfl; (repeat refine dw ?_); exact BK292.out) Tryz.underlying25 rfl (by kernel_rfl)) rfl ?_
       exact ⟨fe, bbl⟩
      ·replace c38 := Bool.eq_false_iff.mpr c38
       subst c38
       replace H := iF H
       obtain ⟨⟨t303, t304⟩, A44, H⟩ := bnd H
       replace H : (some (t303, t304)) = some (r1, r2) := H
       simp only [Option.some.injEq, Prod.mk.injEq] at H
       obtain ⟨rfl, rfl⟩ := H
       go_wp2_with (first | ((with_reducible refine gate_callee (f := 27) rfl ?_); refine goesL_ (some 55) rfl rfl Tryz.func27 (by kernel_rfl) rfl #[.int .i64 (wrap64 ((wrap64 (t293 * t294)) * (wrap64 ((wrap64 ((wrap64 (Int.tdiv t299 1000)) * t300)) + (wrap64 (Int.tdiv (wrap64 ((Int.tmod t299 1000) * t300)) 1000))))))] rfl ma ?_; (with_reducible refine (r8_Num.calls (wrap64 ((wrap64 (t293 * t294)) * (wrap64 ((wrap64 ((wrap64 (Int.tdiv t299 1000)) * t300)) + (wrap64 (Int.tdiv (wrap64 ((Int.tmod t299 1000) * t300)) 1000)))))) t303 t304 _ A44.out).mono ?_); rintro e w45 ⟨rfl, hb⟩; refine ⟨_, rfl, ?_⟩; replace BK290 := bkb BK290 hb; replace BK291 := bkb BK291 hb; replace BK292 := bkb BK292 hb; replace HB := bsq w hb; (try clear hb); have hnb46 := NB292_290.out; have hnc46 := NB290_292.out; have hnb47 := NB292_291.out; have hnc47 := NB291_292.out; have hcz48_0 := bz0 BK292; have hcz48_1 := bz1 BK292; have hfz48_0 := blk_frozen BK292.out 0; have hfz48_1 := blk_frozen BK292.out 1))
       refine bodyPost_ret (results_cell_row rfl _ _ gb292 25 #[.int .i64 t303, .int .i64 t304] (0, 0) _ rfl (by (repeat refine dw ?_); refine blk_put (cs := #[.int .i64 t303, .int .i64 0]) ?_ 1 _ rfl; (repeat refine dw ?_); refine blk_put (cs := #[.int .i64 0, .int .i64 0]) ?_ 0 _ rfl; (repeat refine dw ?_); exact BK292.out) Tryz.underlying25 rfl (by kernel_rfl)) rfl ?_
       exact ⟨fe, bbl⟩
mutual
def r8_over.j0 : Nat → Bool → Int → Int → Int → Int → Option (Int × Int)
 | 0, _, _, _, _, _ => none
 | k + 1, x5, x306000, x306001, x307000, x307001 => if x5 = true then ((r8_sign.f k x306000 x306001).bind fun t310 => ((r8_beyond.f t310).bind fun bt311 => (some (bt311.1, bt311.2)))) else ((r8_num.f x306000 x306001).bind fun t313 => (if t313 = true then ((r8_num.f x307000 x307001).bind fun t314 => (r8_over.j1 k t314 x306000 x306001 x307000 x307001)) else (r8_over.j1 k false x306000 x306001 x307000 x307001)))
def r8_over.j1 : Nat → Bool → Int → Int → Int → Int → Option (Int × Int)
 | 0, _, _, _, _, _ => none
 | k + 1, x20, x306000, x306001, x307000, x307001 => if x20 = true then (if x307001 = 0 then (none) else ((r8_Num.f (wrap64 (Int.tdiv (wrap64 (x306001 * 1000)) x307001))).bind fun bt315 => (some (bt315.1, bt315.2)))) else ((r8_num.f x306000 x306001).bind fun t317 => (if t317 = true then ((r8_Num.f 0).bind fun bt318 => (some (bt318.1, bt318.2))) else ((r8_num.f x307000 x307001).bind fun t320 => (if t320 = true then (r8_over.j2 k (decide (x307001 < 0)) x306000 x306001 x307000 x307001) else (r8_over.j2 k false x306000 x306001 x307000 x307001)))))
def r8_over.j2 : Nat → Bool → Int → Int → Int → Int → Option (Int × Int)
 | 0, _, _, _, _, _ => none
 | k + 1, x38, x306000, x306001, x307000, x307001 => if x38 = true then ((r8_turned.f x306000 x306001).bind fun bt321 => (some (bt321.1, bt321.2))) else ((r8_num.f x307000 x307001).bind fun t323 => (if t323 = true then (some (x306000, x306001)) else ((r8_NaN.f).bind fun bt324 => (some (bt324.1, bt324.2)))))
end
def r8_over.f (k : Nat) (a0_0 : Int) (a0_1 : Int) (a1_0 : Int) (a1_1 : Int) : Option (Int × Int) := (r8_num.f a0_0 a0_1).bind fun t308 => (if t308 = true then ((r8_num.f a1_0 a1_1).bind fun t309 => (if t309 = true then (r8_over.j0 k (a1_1 == 0) a0_0 a0_1 a1_0 a1_1) else (r8_over.j0 k false a0_0 a0_1 a1_0 a1_1))) else (r8_over.j0 k false a0_0 a0_1 a1_0 a1_1))
theorem r8_over.calls (k : Nat) (a0_0 : Int) (a0_1 : Int) (a1_0 : Int) (a1_1 : Int) (r1 : Int) (r2 : Int) (w : World) (h : r8_over.f k a0_0 a0_1 a1_0 a1_1 = some (r1, r2)) :
  Calls Tryz.prog 100 #[.agg #[.int .i64 a0_0, .int .i64 a0_1], .agg #[.int .i64 a1_0, .int .i64 a1_1]] w fun e w' => e = .returned (.agg #[.int .i64 r1, .int .i64 r2]) ∧ Below w.heap.size w w' := by
 have hu25 := Tryz.underlying25
 have HB := Sd.mk (Below.refl w.heap.size w)
 have H : ((r8_num.f a0_0 a0_1).bind fun t308 => (if t308 = true then ((r8_num.f a1_0 a1_1).bind fun t309 => (if t309 = true then (r8_over.j0 k (a1_1 == 0) a0_0 a0_1 a1_0 a1_1) else (r8_over.j0 k false a0_0 a0_1 a1_0 a1_1))) else (r8_over.j0 k false a0_0 a0_1 a1_0 a1_1))) = some (r1, r2) := h
 clear h
 have HC3 := Sd.mk H
 clear H
 go_enter Tryz.func100, Tryz.ntmps100
 go_upto_region 1 with (first | ((with_reducible refine gate_dst (N := 2) rfl ?_); refine bxe (N := 2) (cs := #[.int .i64 a0_0, .int .i64 a0_1]) (t := 25) ?_; intro gb305 hg w4 hbox hb; have BK305 := Sd.mk hbox; have GW305 := bge w hg; have GE305 := bge w hg; replace HB := bsq w hb; clear hb hbox hg) | ((with_reducible refine gate_dst (N := 3) rfl ?_); refine bxe (N := 3) (cs := #[.int .i64 a1_0, .int .i64 a1_1]) (t := 25) ?_; intro gb306 hg w5 hbox hb; have BK306 := Sd.mk hbox; have GW306 := bge w hg; have GE306 := bge w hg; have NB305_306 := bnl BK305 hg; have NB306_305 := bng BK305 hg; replace BK305 := bkb BK305 hb; replace HB := bsq w hb; clear hb hbox hg) | ((with_reducible refine gate_dst (N := 4) rfl ?_); refine bxe (N := 4) (cs := #[.int .i64 0, .int .i64 0]) (t := 25) ?_; intro gb307 hg w6 hbox hb; have BK307 := Sd.mk hbox; have GW307 := bge w hg; have GE307 := bge w hg; have NB305_307 := bnl BK305 hg; have NB307_305 := bng BK305 hg; have NB306_307 := bnl BK306 hg; have NB307_306 := bng BK306 hg; replace BK305 := bkb BK305 hb; replace BK306 := bkb BK306 hb; replace HB := bsq w hb; clear hb hbox hg))
 (try simp only [Act.put, List.setIfInBounds_toArray, List.set_cons_zero, List.set_cons_succ])
 go_cut [5] (fun v5 wc => ∃ (kq : Nat) (x5_2 : Bool), v5 = .bool x5_2 ∧ Sd (r8_over.j0 kq x5_2 a0_0 a0_1 a1_0 a1_1 = some (r1, r2)) ∧ Sd (kq ≤ k) ∧ Sd (wc.heap[gb305]? = some (.cells #[.int .i64 a0_0, .int .i64 a0_1] 25 (0, 0))) ∧ Sd (wc.heap[gb306]? = some (.cells #[.int .i64 a1_0, .int .i64 a1_1] 25 (0, 0))) ∧ Sd (wc.heap[gb307]? = some (.cells #[.int .i64 0, .int .i64 0] 25 (0, 0))) ∧ Sd (Below w.heap.size w wc))
 case first =>
  have H := HC3.out
  clear HC3
  obtain ⟨t308, A7, H⟩ := bnd H
  by_cases c8 : t308 = true
  ·subst c8
   replace H := iT H
   obtain ⟨t309, A9, H⟩ := bnd H
   by_cases c10 : t309 = true
   ·subst c10
    replace H := iT H
    have H' := Sd.mk H
    clear H
    have hnb11 := NB305_306.out
    have hnc11 := NB306_305.out
    have hnb12 := NB305_307.out
    have hnc12 := NB307_305.out
    obtain ⟨hcz13_0, hcz13_1, hfz13_0, hfz13_1⟩ := bz BK305
    go_wp2_with (first | ((with_reducible refine gate_callee (f := 84) rfl ?_); refine goesL_ (some 7) rfl rfl Tryz.func84 (by kernel_rfl) rfl #[.agg #[.int .i64 a0_0, .int .i64 a0_1]] rfl ma ?_; (with_reducible refine (r8_num.calls a0_0 a0_1 true _ A7.out).mono ?_); rintro e w14 ⟨rfl, hb⟩; refine ⟨_, rfl, ?_⟩; replace BK305 := bkb BK305 hb; replace BK306 := bkb BK306 hb; replace BK307 := bkb BK307 hb; replace HB := bsq w hb; (try clear hb); have hnb15 := NB306_307.out; have hnc15 := NB307_306.out; have hcz16_0 := bz0 BK306; have hcz16_1 := bz1 BK306; have hfz16_0 := blk_frozen BK306.out 0; have hfz16_1 := blk_frozen BK306.out 1) | (go_at_call 84; (with_reducible refine (r8_num.calls a1_0 a1_1 true _ A9.out).mono ?_); rintro e w17 ⟨rfl, hb⟩; replace BK305 := bkb BK305 hb; replace BK306 := bkb BK306 hb; replace BK307 := bkb BK307 hb; replace HB := bsq w hb; (try clear hb); have hcz18_0 := bz0 BK306; have hcz18_1 := bz1 BK306; have hfz18_0 := blk_frozen BK306.out 0; have hfz18_1 := blk_frozen BK306.out 1))
    go_meet
    case rel => exact ⟨_, ((a1_1 == 0)), ae, H', ⟨by first | omega | exact Nat.le_refl _⟩, fwK BK305, fwK BK306, fwK BK307, ⟨bbl⟩⟩
   ·replace c10 := Bool.eq_false_iff.mpr c10
    subst c10
    replace H := iF H
    have H' := Sd.mk H
    clear H
    have hnb19 := NB305_306.out
    have hnc19 := NB306_305.out
    have hnb20 := NB305_307.out
    have hnc20 := NB307_305.out
    obtain ⟨hcz21_0, hcz21_1, hfz21_0, hfz21_1⟩ := bz BK305
    go_wp2_with (first | ((with_reducible refine gate_callee (f := 84) rfl ?_); refine goesL_ (some 7) rfl rfl Tryz.func84 (by kernel_rfl) rfl #[.agg #[.int .i64 a0_0, .int .i64 a0_1]] rfl ma ?_; (with_reducible refine (r8_num.calls a0_0 a0_1 true _ A7.out).mono ?_); rintro e w22 ⟨rfl, hb⟩; refine ⟨_, rfl, ?_⟩; replace BK305 := bkb BK305 hb; replace BK306 := bkb BK306 hb; replace BK307 := bkb BK307 hb; replace HB := bsq w hb; (try clear hb); have hnb23 := NB306_307.out; have hnc23 := NB307_306.out; have hcz24_0 := bz0 BK306; have hcz24_1 := bz1 BK306; have hfz24_0 := blk_frozen BK306.out 0; have hfz24_1 := blk_frozen BK306.out 1) | (go_at_call 84; (with_reducible refine (r8_num.calls a1_0 a1_1 false _ A9.out).mono ?_); rintro e w25 ⟨rfl, hb⟩; replace BK305 := bkb BK305 hb; replace BK306 := bkb BK306 hb; replace BK307 := bkb BK307 hb; replace HB := bsq w hb; (try clear hb)))
    go_meet
    case rel => exact ⟨_, (false), ae, H', ⟨by first | omega | exact Nat.le_refl _⟩, fwK BK305, fwK BK306, fwK BK307, ⟨bbl⟩⟩
  ·replace c8 := Bool.eq_false_iff.mpr c8
   subst c8
   replace H := iF H
   have H' := Sd.mk H
   clear H
   have hnb26 := NB305_306.out
   have hnc26 := NB306_305.out
   have hnb27 := NB305_307.out
   have hnc27 := NB307_305.out
   obtain ⟨hcz28_0, hcz28_1, hfz28_0, hfz28_1⟩ := bz BK305
   go_wp2_with (first | ((with_reducible refine gate_callee (f := 84) rfl ?_); refine goesL_ (some 7) rfl rfl Tryz.func84 (by kernel_rfl) rfl #[.agg #[.int .i64 a0_0, .int .i64 a0_1]] rfl ma ?_; (with_reducible refine (r8_num.calls a0_0 a0_1 false _ A7.out).mono ?_); rintro e w29 ⟨rfl, hb⟩; refine ⟨_, rfl, ?_⟩; replace BK305 := bkb BK305 hb; replace BK306 := bkb BK306 hb; replace BK307 := bkb BK307 hb; replace HB := bsq w hb; (try clear hb)))
   go_meet
   case rel => exact ⟨_, (false), ae, H', ⟨by first | omega | exact Nat.le_refl _⟩, fwK BK305, fwK BK306, fwK BK307, ⟨bbl⟩⟩
 case rest =>
  clear HC3
  obtain ⟨kq, x5_2, rfl, HA, HJ2, BK305, BK306, BK307, HB⟩ := hcut
  cases kq with
  | zero => exact absurd HA.out (by simp [r8_over.j0])
  | succ kj2 =>
   have H := HA.out
   clear HA
   simp only [r8_over.j0] at H
   by_cases c30 : x5_2 = true
   ·subst c30
    replace H := iT H
    obtain ⟨t310, A31, H⟩ := bnd H
    obtain ⟨⟨t311, t312⟩, A32, H⟩ := bnd H
    replace H : (some (t311, t312)) = some (r1, r2) := H
    simp only [Option.some.injEq, Prod.mk.injEq] at H
    obtain ⟨rfl, rfl⟩ := H
    have hnb33 := NB305_306.out
    have hnc33 := NB306_305.out
    have hnb34 := NB305_307.out
    have hnc34 := NB307_305.out
    obtain ⟨hcz35_0, hcz35_1, hfz35_0, hfz35_1⟩ := bz BK305
    go_wp2_with (first | ((with_reducible refine gate_callee (f := 96) rfl ?_); refine goesL_ (some 18) rfl rfl Tryz.func96 (by kernel_rfl) rfl #[.agg #[.int .i64 a0_0, .int .i64 a0_1]] rfl ma ?_; (with_reducible refine (r8_sign.calls kj2 a0_0 a0_1 t310 _ A31.out).mono ?_); rintro e w36 ⟨rfl, hb⟩; refine ⟨_, rfl, ?_⟩; replace BK305 := bkb BK305 hb; replace BK306 := bkb BK306 hb; replace BK307 := bkb BK307 hb; replace HB := bsq w hb; (try clear hb)) | ((with_reducible refine gate_callee (f := 148) rfl ?_); refine goesL_ (some 19) rfl rfl Tryz.func148 (by kernel_rfl) rfl #[.int .i64 t310] rfl ma ?_; (with_reducible refine (r8_beyond.calls t310 t311 t312 _ A32.out).mono ?_); rintro e w37 ⟨rfl, hb⟩; refine ⟨_, rfl, ?_⟩; replace BK305 := bkb BK305 hb; replace BK306 := bkb BK306 hb; replace BK307 := bkb BK307 hb; replace HB := bsq w hb; (try clear hb); have hnb38 := NB307_306.out; have hnc38 := NB306_307.out; have hcz39_0 := bz0 BK307; have hcz39_1 := bz1 BK307; have hfz39_0 := blk_frozen BK307.out 0; have hfz39_1 := blk_frozen BK307.out 1))
    refine bodyPost_ret (results_cell_row rfl _ _ gb307 25 #[.int .i64 t311, .int .i64 t312] (0, 0) _ rfl (by (repeat refine dw ?_); refine blk_put (cs := #[.int .i64 t311, .int .i64 0]) ?_ 1 _ rfl; (repeat refine dw ?_); refine blk_put (cs := #[.int .i64 0, .int .i64 0]) ?_ 0 _ rfl; (repeat refine dw ?_); exact BK307.out) Tryz.underlying25 rfl (by kernel_rfl)) rfl ?_
    exact ⟨fe, bbl⟩
   ·replace c30 := Bool.eq_false_iff.mpr c30
    subst c30
    replace H := iF H
    have HC40 := Sd.mk H
    clear H
    go_upto_region 3 with (fail)
    go_cut [20] (fun v20 wc => ∃ (kq : Nat) (x20_39 : Bool), v20 = .bool x20_39 ∧ Sd (r8_over.j1 kq x20_39 a0_0 a0_1 a1_0 a1_1 = some (r1, r2)) ∧ Sd (kq ≤ kj2) ∧ Sd (wc.heap[gb305]? = some (.cells #[.int .i64 a0_0, .int .i64 a0_1] 25 (0, 0))) ∧ Sd (wc.heap[gb306]? = some (.cells #[.int .i64 a1_0, .int .i64 a1_1] 25 (0, 0))) ∧ Sd (wc.heap[gb307]? = some (.cells #[.int .i64 0, .int .i64 0] 25 (0, 0))) ∧ Sd (Below w.heap.size w wc))
    case first =>
     have H := HC40.out
     clear HC40
     obtain ⟨t313, A41, H⟩ := bnd H
     by_cases c42 : t313 = true
     ·subst c42
      replace H := iT H
      obtain ⟨t314, A43, H⟩ := bnd H
      have H' := Sd.mk H
      clear H
      have hnb44 := NB305_306.out
      have hnc44 := NB306_305.out
      have hnb45 := NB305_307.out
      have hnc45 := NB307_305.out
      obtain ⟨hcz46_0, hcz46_1, hfz46_0, hfz46_1⟩ := bz BK305
      go_wp2_with (first | ((with_reducible refine gate_callee (f := 84) rfl ?_); refine goesL_ (some 22) rfl rfl Tryz.func84 (by kernel_rfl) rfl #[.agg #[.int .i64 a0_0, .int .i64 a0_1]] rfl ma ?_; (with_reducible refine (r8_num.calls a0_0 a0_1 true _ A41.out).mono ?_); rintro e w47 ⟨rfl, hb⟩; refine ⟨_, rfl, ?_⟩; replace BK305 := bkb BK305 hb; replace BK306 := bkb BK306 hb; replace BK307 := bkb BK307 hb; replace HB := bsq w hb; (try clear hb); have hnb48 := NB306_307.out; have hnc48 := NB307_306.out; have hcz49_0 := bz0 BK306; have hcz49_1 := bz1 BK306; have hfz49_0 := blk_frozen BK306.out 0; have hfz49_1 := blk_frozen BK306.out 1) | (go_at_call 84; (with_reducible refine (r8_num.calls a1_0 a1_1 t314 _ A43.out).mono ?_); rintro e w50 ⟨rfl, hb⟩; replace BK305 := bkb BK305 hb; replace BK306 := bkb BK306 hb; replace BK307 := bkb BK307 hb; replace HB := bsq w hb; (try clear hb)))
      go_meet
      case rel => exact ⟨_, (t314), ae, H', ⟨by have := HJ2.out; first | omega | exact Nat.le_refl _⟩, fwK BK305, fwK BK306, fwK BK307, ⟨bbl⟩⟩
     ·replace c42 := Bool.eq_false_iff.mpr c42
      subst c42
      replace H := iF H
      have H' := Sd.mk H
      clear H
      have hnb51 := NB305_306.out
      have hnc51 := NB306_305.out
      have hnb52 := NB305_307.out
      have hnc52 := NB307_305.out
      obtain ⟨hcz53_0, hcz53_1, hfz53_0, hfz53_1⟩ := bz BK305
      go_wp2_with (first | ((with_reducible refine gate_callee (f := 84) rfl ?_); refine goesL_ (some 22) rfl rfl Tryz.func84 (by kernel_rfl) rfl #[.agg #[.int .i64 a0_0, .int .i64 a0_1]] rfl ma ?_; (with_reducible refine (r8_num.calls a0_0 a0_1 false _ A41.out).mono ?_); rintro e w54 ⟨rfl, hb⟩; refine ⟨_, rfl, ?_⟩; replace BK305 := bkb BK305 hb; replace BK306 := bkb BK306 hb; replace BK307 := bkb BK307 hb; replace HB := bsq w hb; (try clear hb)))
      go_meet
      case rel => exact ⟨_, (false), ae, H', ⟨by have := HJ2.out; first | omega | exact Nat.le_refl _⟩, fwK BK305, fwK BK306, fwK BK307, ⟨bbl⟩⟩
    case rest =>
     clear HC40
     obtain ⟨kq, x20_39, rfl, HA, HJ39, BK305, BK306, BK307, HB⟩ := hcut
     cases kq with
     | zero => exact absurd HA.out (by simp [r8_over.j1])
     | succ kj39 =>
      have H := HA.out
      clear HA
      simp only [r8_over.j1] at H
      by_cases c55 : x20_39 = true
      ·subst c55
       replace H := iT H
       by_cases c56 : a1_1 = 0
       ·rw [if_pos c56] at H
        exact absurd H (by simp)
       ·rw [if_neg c56] at H
        have c56b0 := beq_eq_false_iff_ne.mpr c56
        have c56b1 := bne_iff_ne.mpr c56
        obtain ⟨⟨t315, t316⟩, A57, H⟩ := bnd H
        replace H : (some (t315, t316)) = some (r1, r2) := H
        simp only [Option.some.injEq, Prod.mk.injEq] at H
        obtain ⟨rfl, rfl⟩ := H
        have hnb58 := NB305_306.out
        have hnc58 := NB306_305.out
        have hnb59 := NB305_307.out
        have hnc59 := NB307_305.out
        obtain ⟨hcz60_0, hcz60_1, hfz60_0, hfz60_1⟩ := bz BK305
        have hnb61 := NB306_307.out
        have hnc61 := NB307_306.out
        obtain ⟨hcz62_0, hcz62_1, hfz62_0, hfz62_1⟩ := bz BK306
        go_wp2_with (first | ((with_reducible refine gate_callee (f := 27) rfl ?_); refine goesL_ (some 33) rfl rfl Tryz.func27 (by kernel_rfl) rfl #[.int .i64 (wrap64 (Int.tdiv (wrap64 (a0_1 * 1000)) a1_1))] rfl ma ?_; (with_reducible refine (r8_Num.calls (wrap64 (Int.tdiv (wrap64 (a0_1 * 1000)) a1_1)) t315 t316 _ A57.out).mono ?_); rintro e w63 ⟨rfl, hb⟩; refine ⟨_, rfl, ?_⟩; replace BK305 := bkb BK305 hb; replace BK306 := bkb BK306 hb; replace BK307 := bkb BK307 hb; replace HB := bsq w hb; (try clear hb); have hcz64_0 := bz0 BK307; have hcz64_1 := bz1 BK307; have hfz64_0 := blk_frozen BK307.out 0; have hfz64_1 := blk_frozen BK307.out 1))
        refine bodyPost_ret (results_cell_row rfl _ _ gb307 25 #[.int .i64 t315, .int .i64 t316] (0, 0) _ rfl (by (repeat refine dw ?_); refine blk_put (cs := #[.int .i64 t315, .int .i64 0]) ?_ 1 _ rfl; (repeat refine dw ?_); refine blk_put (cs := #[.int .i64 0, .int .i64 0]) ?_ 0 _ rfl; (repeat refine dw ?_); exact BK307.out) Tryz.underlying25 rfl (by kernel_rfl)) rfl ?_
        exact ⟨fe, bbl⟩
      ·replace c55 := Bool.eq_false_iff.mpr c55
       subst c55
       replace H := iF H
       obtain ⟨t317, A65, H⟩ := bnd H
       by_cases c66 : t317 = true
       ·subst c66
        replace H := iT H
        obtain ⟨⟨t318, t319⟩, A67, H⟩ := bnd H
        replace H : (some (t318, t319)) = some (r1, r2) := H
        simp only [Option.some.injEq, Prod.mk.injEq] at H
        obtain ⟨rfl, rfl⟩ := H
        have hnb68 := NB305_306.out
        have hnc68 := NB306_305.out
        have hnb69 := NB305_307.out
        have hnc69 := NB307_305.out
        obtain ⟨hcz70_0, hcz70_1, hfz70_0, hfz70_1⟩ := bz BK305
        go_wp2_with (first | ((with_reducible refine gate_callee (f := 84) rfl ?_); refine goesL_ (some 36) rfl rfl Tryz.func84 (by kernel_rfl) rfl #[.agg #[.int .i64 a0_0, .int .i64 a0_1]] rfl ma ?_; (with_reducible refine (r8_num.calls a0_0 a0_1 true _ A65.out).mono ?_); rintro e w71 ⟨rfl, hb⟩; refine ⟨_, rfl, ?_⟩; replace BK305 := bkb BK305 hb; replace BK306 := bkb BK306 hb; replace BK307 := bkb BK307 hb; replace HB := bsq w hb; (try clear hb)) | ((with_reducible refine gate_callee (f := 27) rfl ?_); refine goesL_ (some 37) rfl rfl Tryz.func27 (by kernel_rfl) rfl #[.int .i64 0] rfl ma ?_; (with_reducible refine (r8_Num.calls 0 t318 t319 _ A67.out).mono ?_); rintro e w72 ⟨rfl, hb⟩; refine ⟨_, rfl, ?_⟩; replace BK305 := bkb BK305 hb; replace BK306 := bkb BK306 hb; replace BK307 := bkb BK307 hb; replace HB := bsq w hb; (try clear hb); have hnb73 := NB307_306.out; have hnc73 := NB306_307.out; have hcz74_0 := bz0 BK307; have hcz74_1 := bz1 BK307; have hfz74_0 := blk_frozen BK307.out 0; have hfz74_1 := blk_frozen BK307.out 1))
        refine bodyPost_ret (results_cell_row rfl _ _ gb307 25 #[.int .i64 t318, .int .i64 t319] (0, 0) _ rfl (by (repeat refine dw ?_); refine blk_put (cs := #[.int .i64 t318, .int .i64 0]) ?_ 1 _ rfl; (repeat refine dw ?_); refine blk_put (cs := #[.int .i64 0, .int .i64 0]) ?_ 0 _ rfl; (repeat refine dw ?_); exact BK307.out) Tryz.underlying25 rfl (by kernel_rfl)) rfl ?_
        exact ⟨fe, bbl⟩
       ·replace c66 := Bool.eq_false_iff.mpr c66
        subst c66
        replace H := iF H
        have HC75 := Sd.mk H
        clear H
        have hnb76 := NB305_306.out
        have hnc76 := NB306_305.out
        have hnb77 := NB305_307.out
        have hnc77 := NB307_305.out
        obtain ⟨hcz78_0, hcz78_1, hfz78_0, hfz78_1⟩ := bz BK305
        go_upto_region 7 with (first | ((with_reducible refine gate_callee (f := 84) rfl ?_); refine goesL_ (some 36) rfl rfl Tryz.func84 (by kernel_rfl) rfl #[.agg #[.int .i64 a0_0, .int .i64 a0_1]] rfl ma ?_; (with_reducible refine (r8_num.calls a0_0 a0_1 false _ A65.out).mono ?_); rintro e w79 ⟨rfl, hb⟩; refine ⟨_, rfl, ?_⟩; replace BK305 := bkb BK305 hb; replace BK306 := bkb BK306 hb; replace BK307 := bkb BK307 hb; replace HB := bsq w hb; (try clear hb)))
        (try simp only [Act.put, List.setIfInBounds_toArray, List.set_cons_zero, List.set_cons_succ])
        go_cut [38] (fun v38 wc => ∃ (kq : Nat) (x38_74 : Bool), v38 = .bool x38_74 ∧ Sd (r8_over.j2 kq x38_74 a0_0 a0_1 a1_0 a1_1 = some (r1, r2)) ∧ Sd (kq ≤ kj39) ∧ Sd (wc.heap[gb305]? = some (.cells #[.int .i64 a0_0, .int .i64 a0_1] 25 (0, 0))) ∧ Sd (wc.heap[gb306]? = some (.cells #[.int .i64 a1_0, .int .i64 a1_1] 25 (0, 0))) ∧ Sd (wc.heap[gb307]? = some (.cells #[.int .i64 0, .int .i64 0] 25 (0, 0))) ∧ Sd (Below w.heap.size w wc))
        case first =>
         have H := HC75.out
         clear HC75
         obtain ⟨t320, A80, H⟩ := bnd H
         by_cases c81 : t320 = true
         ·subst c81
          replace H := iT H
          have H' := Sd.mk H
          clear H
          have hnb82 := NB306_305.out
          have hnc82 := NB305_306.out
          have hnb83 := NB306_307.out
          have hnc83 := NB307_306.out
          obtain ⟨hcz84_0, hcz84_1, hfz84_0, hfz84_1⟩ := bz BK306
          go_wp2_with (first | ((with_reducible refine gate_callee (f := 84) rfl ?_); refine goesL_ (some 40) rfl rfl Tryz.func84 (by kernel_rfl) rfl #[.agg #[.int .i64 a1_0, .int .i64 a1_1]] rfl ma ?_; (with_reducible refine (r8_num.calls a1_0 a1_1 true _ A80.out).mono ?_); rintro e w85 ⟨rfl, hb⟩; refine ⟨_, rfl, ?_⟩; replace BK305 := bkb BK305 hb; replace BK306 := bkb BK306 hb; replace BK307 := bkb BK307 hb; replace HB := bsq w hb; (try clear hb); have hcz86_0 := bz0 BK306; have hcz86_1 := bz1 BK306; have hfz86_0 := blk_frozen BK306.out 0; have hfz86_1 := blk_frozen BK306.out 1))
          go_meet
          case rel => exact ⟨_, (decide (a1_1 < 0)), ae, H', ⟨by have := HJ2.out; have := HJ39.out; first | omega | exact Nat.le_refl _⟩, fwK BK305, fwK BK306, fwK BK307, ⟨bbl⟩⟩
         ·replace c81 := Bool.eq_false_iff.mpr c81
          subst c81
          replace H := iF H
          have H' := Sd.mk H
          clear H
          have hnb87 := NB306_305.out
          have hnc87 := NB305_306.out
          have hnb88 := NB306_307.out
          have hnc88 := NB307_306.out
          obtain ⟨hcz89_0, hcz89_1, hfz89_0, hfz89_1⟩ := bz BK306
          go_wp2_with (first | ((with_reducible refine gate_callee (f := 84) rfl ?_); refine goesL_ (some 40) rfl rfl Tryz.func84 (by kernel_rfl) rfl #[.agg #[.int .i64 a1_0, .int .i64 a1_1]] rfl ma ?_; (with_reducible refine (r8_num.calls a1_0 a1_1 false _ A80.out).mono ?_); rintro e w90 ⟨rfl, hb⟩; refine ⟨_, rfl, ?_⟩; replace BK305 := bkb BK305 hb; replace BK306 := bkb BK306 hb; replace BK307 := bkb BK307 hb; replace HB := bsq w hb; (try clear hb)))
          go_meet
          case rel => exact ⟨_, (false), ae, H', ⟨by have := HJ2.out; have := HJ39.out; first | omega | exact Nat.le_refl _⟩, fwK BK305, fwK BK306, fwK BK307, ⟨bbl⟩⟩
        case rest =>
         clear HC75
         obtain ⟨kq, x38_74, rfl, HA, HJ74, BK305, BK306, BK307, HB⟩ := hcut
         cases kq with
         | zero => exact absurd HA.out (by simp [r8_over.j2])
         | succ kj74 =>
          have H := HA.out
          clear HA
          simp only [r8_over.j2] at H
          by_cases c91 : x38_74 = true
          ·subst c91
           replace H := iT H
           obtain ⟨⟨t321, t322⟩, A92, H⟩ := bnd H
           replace H : (some (t321, t322)) = some (r1, r2) := H
           simp only [Option.some.injEq, Prod.mk.injEq] at H
           obtain ⟨rfl, rfl⟩ := H
           have hnb93 := NB305_306.out
           have hnc93 := NB306_305.out
           have hnb94 := NB305_307.out
           have hnc94 := NB307_305.out
           obtain ⟨hcz95_0, hcz95_1, hfz95_0, hfz95_1⟩ := bz BK305
           go_wp2_with (first | ((with_reducible refine gate_callee (f := 97) rfl ?_); refine goesL_ (some 47) rfl rfl Tryz.func97 (by kernel_rfl) rfl #[.agg #[.int .i64 a0_0, .int .i64 a0_1]] rfl ma ?_; (with_reducible refine (r8_turned.calls a0_0 a0_1 t321 t322 _ A92.out).mono ?_); rintro e w96 ⟨rfl, hb⟩; refine ⟨_, rfl, ?_⟩; replace BK305 := bkb BK305 hb; replace BK306 := bkb BK306 hb; replace BK307 := bkb BK307 hb; replace HB := bsq w hb; (try clear hb); have hnb97 := NB307_306.out; have hnc97 := NB306_307.out; have hcz98_0 := bz0 BK307; have hcz98_1 := bz1 BK307; have hfz98_0 := blk_frozen BK307.out 0; have hfz98_1 := blk_frozen BK307.out 1))
           refine bodyPost_ret (results_cell_row rfl _ _ gb307 25 #[.int .i64 t321, .int .i64 t322] (0, 0) _ rfl (by (repeat refine dw ?_); refine blk_put (cs := #[.int .i64 t321, .int .i64 0]) ?_ 1 _ rfl; (repeat refine dw ?_); refine blk_put (cs := #[.int .i64 0, .int .i64 0]) ?_ 0 _ rfl; (repeat refine dw ?_); exact BK307.out) Tryz.underlying25 rfl (by kernel_rfl)) rfl ?_
           exact ⟨fe, bbl⟩
          ·replace c91 := Bool.eq_false_iff.mpr c91
           subst c91
           replace H := iF H
           obtain ⟨t323, A99, H⟩ := bnd H
           by_cases c100 : t323 = true
           ·subst c100
            replace H := iT H
            simp only [Option.some.injEq, Prod.mk.injEq] at H
            obtain ⟨rfl, rfl⟩ := H
            have hnb101 := NB306_305.out
            have hnc101 := NB305_306.out
            have hnb102 := NB306_307.out
            have hnc102 := NB307_306.out
            obtain ⟨hcz103_0, hcz103_1, hfz103_0, hfz103_1⟩ := bz BK306
            go_wp2_with (first | ((with_reducible refine gate_callee (f := 84) rfl ?_); refine goesL_ (some 50) rfl rfl Tryz.func84 (by kernel_rfl) rfl #[.agg #[.int .i64 a1_0, .int .i64 a1_1]] rfl ma ?_; (with_reducible refine (r8_num.calls a1_0 a1_1 true _ A99.out).mono ?_); rintro e w104 ⟨rfl, hb⟩; refine ⟨_, rfl, ?_⟩; replace BK305 := bkb BK305 hb; replace BK306 := bkb BK306 hb; replace BK307 := bkb BK307 hb; replace HB := bsq w hb; (try clear hb); have hnb105 := NB305_307.out; have hnc105 := NB307_305.out; have hcz106_0 := bz0 BK305; have hcz106_1 := bz1 BK305; have hfz106_0 := blk_frozen BK305.out 0; have hfz106_1 := blk_frozen BK305.out 1; have hcz107_0 := bz0 BK307; have hcz107_1 := bz1 BK307; have hfz107_0 := blk_frozen BK307.out 0; have hfz107_1 := blk_frozen BK307.out 1))
            refine bodyPost_ret (results_cell_row rfl _ _ gb307 25 #[.int .i64 a0_0, .int .i64 a0_1] (0, 0) _ rfl (by (repeat refine dw ?_); refine blk_put (cs := #[.int .i64 a0_0, .int .i64 0]) ?_ 1 _ rfl; (repeat refine dw ?_); refine blk_put (cs := #[.int .i64 0, .int .i64 0]) ?_ 0 _ rfl; (repeat refine dw ?_); exact BK307.out) Tryz.underlying25 rfl (by kernel_rfl)) rfl ?_
            exact ⟨fe, bbl⟩
           ·replace c100 := Bool.eq_false_iff.mpr c100
            subst c100
            replace H := iF H
            obtain ⟨⟨t324, t325⟩, A108, H⟩ := bnd H
            replace H : (some (t324, t325)) = some (r1, r2) := H
            simp only [Option.some.injEq, Prod.mk.injEq] at H
            obtain ⟨rfl, rfl⟩ := H
            have hnb109 := NB306_305.out
            have hnc109 := NB305_306.out
            have hnb110 := NB306_307.out
            have hnc110 := NB307_306.out
            obtain ⟨hcz111_0, hcz111_1, hfz111_0, hfz111_1⟩ := bz BK306
            go_wp2_with (first | ((with_reducible refine gate_callee (f := 84) rfl ?_); refine goesL_ (some 50) rfl rfl Tryz.func84 (by kernel_rfl) rfl #[.agg #[.int .i64 a1_0, .int .i64 a1_1]] rfl ma ?_; (with_reducible refine (r8_num.calls a1_0 a1_1 false _ A99.out).mono ?_); rintro e w112 ⟨rfl, hb⟩; refine ⟨_, rfl, ?_⟩; replace BK305 := bkb BK305 hb; replace BK306 := bkb BK306 hb; replace BK307 := bkb BK307 hb; replace HB := bsq w hb; (try clear hb)) | ((with_reducible refine gate_callee (f := 29) rfl ?_); refine goesL_ (some 52) rfl rfl Tryz.func29 (by kernel_rfl) rfl #[] rfl ma ?_; (with_reducible refine (r8_NaN.calls  t324 t325 _ A108.out).mono ?_); rintro e w113 ⟨rfl, hb⟩; refine ⟨_, rfl, ?_⟩; replace BK305 := bkb BK305 hb; replace BK306 := bkb BK306 hb; replace BK307 := bkb BK307 hb; replace HB := bsq w hb; (try clear hb); have hnb114 := NB307_305.out; have hnc114 := NB305_307.out; have hcz115_0 := bz0 BK307; have hcz115_1 := bz1 BK307; have hfz115_0 := blk_frozen BK307.out 0; have hfz115_1 := blk_frozen BK307.out 1))
            refine bodyPost_ret (results_cell_row rfl _ _ gb307 25 #[.int .i64 t324, .int .i64 t325] (0, 0) _ rfl (by (repeat refine dw ?_); refine blk_put (cs := #[.int .i64 t324, .int .i64 0]) ?_ 1 _ rfl; (repeat refine dw ?_); refine blk_put (cs := #[.int .i64 0, .int .i64 0]) ?_ 0 _ rfl; (repeat refine dw ?_); exact BK307.out) Tryz.underlying25 rfl (by kernel_rfl)) rfl ?_
            exact ⟨fe, bbl⟩
mutual
def r8_two.l0 : Nat → ByteArray → Bool → List ByteArray → Int → Int → Int → Int → Int → Option (Int × Int × Bool)
 | 0, _, _, _, _, _, _, _, _ => none
 | k + 1, x0, x8, x9, x10, x327000, x327001, x328000, x328001 => if x10 < (x9.length : Int) then (if x8 = true then (r8_two.l0 k x0 true x9 (wrap64 (x10 + 1)) x327000 x327001 x328000 x328001) else (if 0 ≤ x10 then (r8_two.l0 k x0 ((rdOf ByteArray.empty x9 x10).toList == x0.toList) x9 (wrap64 (x10 + 1)) x327000 x327001 x328000 x328001) else (none))) else (if x8 = true then (if x327000 = 2 then (r8_two.j1 k x0 true x327000 x327001 x328000 x328001) else (r8_two.j1 k x0 (x328000 == 2) x327000 x327001 x328000 x328001)) else (some (0, 0, false)))
def r8_two.j1 : Nat → ByteArray → Bool → Int → Int → Int → Int → Option (Int × Int × Bool)
 | 0, _, _, _, _, _, _ => none
 | k + 1, x0, x38, x327000, x327001, x328000, x328001 => if x38 = true then ((r8_Null.f).bind fun bt333 => (some (bt333.1, bt333.2, true))) else (if x327000 = 3 then (r8_two.j2 k x0 true x327000 x327001 x328000 x328001) else (r8_two.j2 k x0 (x328000 == 3) x327000 x327001 x328000 x328001))
def r8_two.j2 : Nat → ByteArray → Bool → Int → Int → Int → Int → Option (Int × Int × Bool)
 | 0, _, _, _, _, _, _ => none
 | k + 1, x0, x11, x327000, x327001, x328000, x328001 => if x0.toList = ([38, 38] : List UInt8) then ((r8_True.f x327000 x327001).bind fun t335 => (if t335 = true then ((r8_True.f x328000 x328001).bind fun t336 => ((r8_Truth.f t336).bind fun bt337 => (some (bt337.1, bt337.2, true)))) else ((r8_Truth.f false).bind fun bt339 => (some (bt339.1, bt339.2, true))))) else (if x0.toList = ([124, 124] : List UInt8) then ((r8_True.f x327000 x327001).bind fun t341 => (if t341 = true then ((r8_Truth.f true).bind fun bt342 => (some (bt342.1, bt342.2, true))) else ((r8_True.f x328000 x328001).bind fun t344 => ((r8_Truth.f t344).bind fun bt345 => (some (bt345.1, bt345.2, true)))))) else (if x0.toList = ([61, 61] : List UInt8) then (if x11 = true then ((r8_Truth.f false).bind fun bt347 => (some (bt347.1, bt347.2, true))) else ((r8_Truth.f (x327000 == x328000 && (x327001 == x328001))).bind fun bt349 => (some (bt349.1, bt349.2, true)))) else (if x0.toList = ([33, 61] : List UInt8) then (if x11 = true then ((r8_Truth.f true).bind fun bt351 => (some (bt351.1, bt351.2, true))) else ((r8_Truth.f (!(x327000 == x328000) || (!(x327001 == x328001)))).bind fun bt353 => (some (bt353.1, bt353.2, true)))) else (if x0.toList = ([60] : List UInt8) then (if x11 = true then ((r8_Truth.f false).bind fun bt355 => (some (bt355.1, bt355.2, true))) else ((r8_Less.f k x327000 x327001 x328000 x328001).bind fun t357 => ((r8_Truth.f t357).bind fun bt358 => (some (bt358.1, bt358.2, true))))) else (if x0.toList = ([60, 61] : List UInt8) then (if x11 = true then ((r8_Truth.f false).bind fun bt360 => (some (bt360.1, bt360.2, true))) else ((r8_Less.f k x328000 x328001 x327000 x327001).bind fun t362 => ((r8_Truth.f (!t362)).bind fun bt363 => (some (bt363.1, bt363.2, true))))) else (if x0.toList = ([62] : List UInt8) then (if x11 = true then ((r8_Truth.f false).bind fun bt365 => (some (bt365.1, bt365.2, true))) else ((r8_Less.f k x328000 x328001 x327000 x327001).bind fun t367 => ((r8_Truth.f t367).bind fun bt368 => (some (bt368.1, bt368.2, true))))) else (if x0.toList = ([62, 61] : List UInt8) then (if x11 = true then ((r8_Truth.f false).bind fun bt370 => (some (bt370.1, bt370.2, true))) else ((r8_Less.f k x327000 x327001 x328000 x328001).bind fun t372 => ((r8_Truth.f (!t372)).bind fun bt373 => (some (bt373.1, bt373.2, true))))) else (if x11 = true then ((r8_NaN.f).bind fun bt375 => (some (bt375.1, bt375.2, true))) else (if x0.toList = ([43] : List UInt8) then ((r8_add.f k x327000 x327001 x328000 x328001).bind fun bt377 => (some (bt377.1, bt377.2, true))) else (if x0.toList = ([45] : List UInt8) then ((r8_turned.f x328000 x328001).bind fun bt379 => ((r8_add.f k x327000 x327001 bt379.1 bt379.2).bind fun bt381 => (some (bt381.1, bt381.2, true)))) else (if x0.toList = ([42] : List UInt8) then ((r8_times.f k x327000 x327001 x328000 x328001).bind fun bt383 => (some (bt383.1, bt383.2, true))) else ((r8_over.f k x327000 x327001 x328000 x328001).bind fun bt385 => (some (bt385.1, bt385.2, true))))))))))))))
end
def r8_two.f (k : Nat) (a0 : ByteArray) (a1_0 : Int) (a1_1 : Int) (a2_0 : Int) (a2_1 : Int) : Option (Int × Int × Bool) := r8_two.l0 k a0 false (([(⟨#[43]⟩ : ByteArray), (⟨#[45]⟩ : ByteArray), (⟨#[42]⟩ : ByteArray), (⟨#[47]⟩ : ByteArray), (⟨#[61, 61]⟩ : ByteArray), (⟨#[33, 61]⟩ : ByteArray), (⟨#[60]⟩ : ByteArray), (⟨#[60, 61]⟩ : ByteArray), (⟨#[62]⟩ : ByteArray), (⟨#[62, 61]⟩ : ByteArray), (⟨#[38, 38]⟩ : ByteArray), (⟨#[124, 124]⟩ : ByteArray)] : List ByteArray)) 0 a1_0 a1_1 a2_0 a2_1
theorem r8_two.calls (k : Nat) (a0 : ByteArray) (a1_0 : Int) (a1_1 : Int) (a2_0 : Int) (a2_1 : Int) (r1 : Int) (r2 : Int) (r3 : Bool) (w : World) (h : r8_two.f k a0 a1_0 a1_1 a2_0 a2_1 = some (r1, r2, r3)) :
  Calls Tryz.prog 61 #[.string a0, .agg #[.int .i64 a1_0, .int .i64 a1_1], .agg #[.int .i64 a2_0, .int .i64 a2_1]] w fun e w' => e = .returned (.tuple #[.agg #[.int .i64 r1, .int .i64 r2], .bool r3]) ∧ Below w.heap.size w w' := by
 have hu25 := Tryz.underlying25
 have HB := Sd.mk (Below.refl w.heap.size w)
 have H : (r8_two.l0 k a0 false (([(⟨#[43]⟩ : ByteArray), (⟨#[45]⟩ : ByteArray), (⟨#[42]⟩ : ByteArray), (⟨#[47]⟩ : ByteArray), (⟨#[61, 61]⟩ : ByteArray), (⟨#[33, 61]⟩ : ByteArray), (⟨#[60]⟩ : ByteArray), (⟨#[60, 61]⟩ : ByteArray), (⟨#[62]⟩ : ByteArray), (⟨#[62, 61]⟩ : ByteArray), (⟨#[38, 38]⟩ : ByteArray), (⟨#[124, 124]⟩ : ByteArray)] : List ByteArray)) 0 a1_0 a1_1 a2_0 a2_1) = some (r1, r2, r3) := h
 clear h
 obtain ⟨y329, hy329⟩ : ∃ y_ : List ByteArray, y_ = (([(⟨#[43]⟩ : ByteArray), (⟨#[45]⟩ : ByteArray), (⟨#[42]⟩ : ByteArray), (⟨#[47]⟩ : ByteArray), (⟨#[61, 61]⟩ : ByteArray), (⟨#[33, 61]⟩ : ByteArray), (⟨#[60]⟩ : ByteArray), (⟨#[60, 61]⟩ : ByteArray), (⟨#[62]⟩ : ByteArray), (⟨#[62, 61]⟩ : ByteArray), (⟨#[38, 38]⟩ : ByteArray), (⟨#[124, 124]⟩ : ByteArray)] : List ByteArray)) := ⟨_, rfl⟩
 replace H : (r8_two.l0 k a0 false y329 0 a1_0 a1_1 a2_0 a2_1) = some (r1, r2, r3) := by first | (rw [hy329]; with_reducible exact H) | (have H2_ := (Option.bind_some _ _).symm.trans H; rw [hy329]; with_reducible exact H2_) | (have H2_ := (Option.bind_some _ _).symm.trans H; with_reducible exact H2_) | with_reducible exact H | (rw [hy329]; exact H) | exact H
 have Ny329 := Sd.mk hy329
 clear hy329
 have H' := Sd.mk H
 clear H
 go_enter Tryz.func61, Tryz.ntmps61
 go_wp2_with (first | ((with_reducible refine gate_dst (N := 4) rfl ?_); refine bxe (N := 4) (cs := #[.int .i64 a1_0, .int .i64 a1_1]) (t := 25) ?_; intro gb326 hg w4 hbox hb; have BK326 := Sd.mk hbox; have GW326 := bge w hg; have GE326 := bge w hg; replace HB := bsq w hb; clear hb hbox hg) | ((with_reducible refine gate_dst (N := 5) rfl ?_); refine bxe (N := 5) (cs := #[.int .i64 a2_0, .int .i64 a2_1]) (t := 25) ?_; intro gb327 hg w5 hbox hb; have BK327 := Sd.mk hbox; have GW327 := bge w hg; have GE327 := bge w hg; have NB326_327 := bnl BK326 hg; have NB327_326 := bng BK326 hg; replace BK326 := bkb BK326 hb; replace HB := bsq w hb; clear hb hbox hg) | ((with_reducible refine gate_dst (N := 6) rfl ?_); refine bxe (N := 6) (cs := #[.int .i64 0, .int .i64 0]) (t := 25) ?_; intro gb328 hg w6 hbox hb; have BK328 := Sd.mk hbox; have GW328 := bge w hg; have GE328 := bge w hg; have NB326_328 := bnl BK326 hg; have NB328_326 := bng BK326 hg; have NB327_328 := bnl BK327 hg; have NB328_327 := bng BK327 hg; replace BK326 := bkb BK326 hb; replace BK327 := bkb BK327 hb; replace HB := bsq w hb; clear hb hbox hg) | ((with_reducible refine gate_dst (N := 12) rfl ?_); refine Kd.R_lit Kd.string _ 9 ?hg (N := 12) ?hd (xs := ([(⟨#[43]⟩ : ByteArray), (⟨#[45]⟩ : ByteArray), (⟨#[42]⟩ : ByteArray), (⟨#[47]⟩ : ByteArray), (⟨#[61, 61]⟩ : ByteArray), (⟨#[33, 61]⟩ : ByteArray), (⟨#[60]⟩ : ByteArray), (⟨#[60, 61]⟩ : ByteArray), (⟨#[62]⟩ : ByteArray), (⟨#[62, 61]⟩ : ByteArray), (⟨#[38, 38]⟩ : ByteArray), (⟨#[124, 124]⟩ : ByteArray)] : List ByteArray)) (inner := [.string (⟨#[43]⟩ : ByteArray), .string (⟨#[45]⟩ : ByteArray), .string (⟨#[42]⟩ : ByteArray), .string (⟨#[47]⟩ : ByteArray), .string (⟨#[61, 61]⟩ : ByteArray), .string (⟨#[33, 61]⟩ : ByteArray), .string (⟨#[60]⟩ : ByteArray), .string (⟨#[60, 61]⟩ : ByteArray), .string (⟨#[62]⟩ : ByteArray), .string (⟨#[62, 61]⟩ : ByteArray), .string (⟨#[38, 38]⟩ : ByteArray), .string (⟨#[124, 124]⟩ : ByteArray)]) (ok := fun _ => True) (okp := fun _ => True) ?hr ?hp (fun _ hk => hk) trivial (Below.refl _ _) (Nat.le_refl _) (by simp) ?_; (case hd => rfl); (case hg => rfl); (case hr => first | (go_simp; done) | (go_simp; rfl)); (case hp => exact (Reps.one (show Kd.M Kd.string _ _ _ (⟨#[43]⟩ : ByteArray) [.string (⟨#[43]⟩ : ByteArray)] from rfl) (Reps.one (show Kd.M Kd.string _ _ _ (⟨#[45]⟩ : ByteArray) [.string (⟨#[45]⟩ : ByteArray)] from rfl) (Reps.one (show Kd.M Kd.string _ _ _ (⟨#[42]⟩ : ByteArray) [.string (⟨#[42]⟩ : ByteArray)] from rfl) (Reps.one (show Kd.M Kd.string _ _ _ (⟨#[47]⟩ : ByteArray) [.string (⟨#[47]⟩ : ByteArray)] from rfl) (Reps.one (show Kd.M Kd.string _ _ _ (⟨#[61, 61]⟩ : ByteArray) [.string (⟨#[61, 61]⟩ : ByteArray)] from rfl) (Reps.one (show Kd.M Kd.string _ _ _ (⟨#[33, 61]⟩ : ByteArray) [.string (⟨#[33, 61]⟩ : ByteArray)] from rfl) (Reps.one (show Kd.M Kd.string _ _ _ (⟨#[60]⟩ : ByteArray) [.string (⟨#[60]⟩ : ByteArray)] from rfl) (Reps.one (show Kd.M Kd.string _ _ _ (⟨#[60, 61]⟩ : ByteArray) [.string (⟨#[60, 61]⟩ : ByteArray)] from rfl) (Reps.one (show Kd.M Kd.string _ _ _ (⟨#[62]⟩ : ByteArray) [.string (⟨#[62]⟩ : ByteArray)] from rfl) (Reps.one (show Kd.M Kd.string _ _ _ (⟨#[62, 61]⟩ : ByteArray) [.string (⟨#[62, 61]⟩ : ByteArray)] from rfl) (Reps.one (show Kd.M Kd.string _ _ _ (⟨#[38, 38]⟩ : ByteArray) [.string (⟨#[38, 38]⟩ : ByteArray)] from rfl) (Reps.one (show Kd.M Kd.string _ _ _ (⟨#[124, 124]⟩ : ByteArray) [.string (⟨#[124, 124]⟩ : ByteArray)] from rfl) (Reps.none _ _)))))))))))))); intro v330 w7 ho8 hb hg_ hnew_; clear hg_ hnew_; (first | rw [← Ny329.out] at ho8 | (simp only [Int.reduceToNat] at ho8; rw [← Ny329.out] at ho8)); have n0_ := Sd.mk (Kd.R_lower ho8 (below_size bbl)); have n1_ := bkb BK326 hb; have n2_ := bkb BK327 hb; have n3_ := bkb BK328 hb; have n4_ := bsq w hb; clear BK326; clear BK327; clear BK328; clear HB; have HO331 := n0_; have BK326 := n1_; have BK327 := n2_; have BK328 := n3_; have HB := n4_; clear n0_ n1_ n2_ n3_ n4_; clear hb ho8))
 go_loopg [8, 10] k (fun kq v8 v10 w' => ∃ (x8_1 : Bool) (x10_1 : Int), v8 = .bool x8_1 ∧ v10 = .int .i64 x10_1 ∧ Sd (r8_two.l0 kq a0 x8_1 y329 x10_1 a1_0 a1_1 a2_0 a2_1 = some (r1, r2, r3)) ∧ Sd (kq ≤ k) ∧ Sd (Kd.R Kd.string 9 w' w.heap.size (fun _ => True) v330 y329) ∧ Sd (w'.heap[gb326]? = some (.cells #[.int .i64 a1_0, .int .i64 a1_1] 25 (0, 0))) ∧ Sd (w'.heap[gb327]? = some (.cells #[.int .i64 a2_0, .int .i64 a2_1] 25 (0, 0))) ∧ Sd (w'.heap[gb328]? = some (.cells #[.int .i64 0, .int .i64 0] 25 (0, 0))) ∧ Sd (Below w.heap.size w w'))
 case atStart => exact ⟨(false), (0), ae, ae, H', ⟨Nat.le_refl _⟩, fwR HO331, fwK BK326, fwK BK327, fwK BK328, ⟨bbl⟩⟩
 case round =>
  clear H'
  obtain ⟨x8_1, x10_1, rfl, rfl, HA, HK1, HO_9, BK326, BK327, BK328, HB⟩ := hrel
  cases gk with
  | zero => exact absurd HA.out (by simp [r8_two.l0])
  | succ k1 =>
   have H := HA.out
   clear HA
   simp only [r8_two.l0] at H
   by_cases c9 : x10_1 < (y329.length : Int)
   ·rw [if_pos c9] at H
    have c9b0 : decide (x10_1 < (y329.length : Int)) = true := decide_eq_true c9
    clear c9
    by_cases c10 : x8_1 = true
    ·subst c10
     replace H := iT H
     have H' := Sd.mk H
     clear H
     obtain ⟨Ao11, co11, eo11⟩ := Kd.R_slice HO_9.out
     subst eo11
     go_wp2
     go_roundg k1
     case measure => have := HK1.out; omega
     case rel => exact ⟨(true), (wrap64 (x10_1 + 1)), ae, ae, H', ⟨by have := HK1.out; omega⟩, fwR HO_9, fwK BK326, fwK BK327, fwK BK328, ⟨bbl⟩⟩
    ·replace c10 := Bool.eq_false_iff.mpr c10
     subst c10
     replace H := iF H
     by_cases c12 : 0 ≤ x10_1
     ·rw [if_pos c12] at H
      have c12b0 : decide (0 ≤ x10_1) = true := decide_eq_true c12
      clear c12
      have H' := Sd.mk H
      clear H
      obtain ⟨Ao13, co13, eo13⟩ := Kd.R_slice HO_9.out
      subst eo13
      have p332 : 0 ≤ (x10_1 : Int) := ode
      have q332 : x10_1 < (y329.length : Int) := ode
      obtain ⟨ad332, e332, hx332_0⟩ := Kd.at_string (Kd.R_reads' HO_9.out).2.2 x10_1 p332 q332
      cases e332
      replace p332 := eq_true p332
      replace q332 := eq_true q332
      go_wp2
      go_roundg k1
      case measure => have := HK1.out; omega
      case rel => exact ⟨(((rdOf ByteArray.empty y329 x10_1).toList == a0.toList)), (wrap64 (x10_1 + 1)), ae, ae, H', ⟨by have := HK1.out; omega⟩, fwR HO_9, fwK BK326, fwK BK327, fwK BK328, ⟨bbl⟩⟩
     ·rw [if_neg c12] at H
      exact absurd H (by simp)
   ·rw [if_neg c9] at H
    have c9b0 : decide (x10_1 < (y329.length : Int)) = false := decide_eq_false c9
    clear c9
    by_cases c14 : x8_1 = true
    ·subst c14
     replace H := iT H
     have HC15 := Sd.mk H
     clear H
     obtain ⟨Ao16, co16, eo16⟩ := Kd.R_slice HO_9.out
     subst eo16
     go_upto_region 9 with (fail)
     go_cut [38] (fun v38 wc => ∃ (kq : Nat) (x38_14 : Bool), v38 = .bool x38_14 ∧ Sd (r8_two.j1 kq a0 x38_14 a1_0 a1_1 a2_0 a2_1 = some (r1, r2, r3)) ∧ Sd (kq ≤ k1) ∧ Sd (wc.heap[gb326]? = some (.cells #[.int .i64 a1_0, .int .i64 a1_1] 25 (0, 0))) ∧ Sd (wc.heap[gb327]? = some (.cells #[.int .i64 a2_0, .int .i64 a2_1] 25 (0, 0))) ∧ Sd (wc.heap[gb328]? = some (.cells #[.int .i64 0, .int .i64 0] 25 (0, 0))) ∧ Sd (Below w.heap.size w wc))
     case first =>
      have H := HC15.out
      clear HC15
      by_cases c17 : a1_0 = 2
      ·rw [if_pos c17] at H
       have c17b0 := beq_iff_eq.mpr c17
       have c17b1 := bne_eq_false_iff_eq.mpr c17
       clear c17
       (first | rw [c17b0] | (simp only [i64_w, i32_w]; rw [c17b0]) | skip)
       have H' := Sd.mk H
       clear H
       have hnb18 := NB326_327.out
       have hnc18 := NB327_326.out
       have hnb19 := NB326_328.out
       have hnc19 := NB328_326.out
       obtain ⟨hcz20_0, hcz20_1, hfz20_0, hfz20_1⟩ := bz BK326
       go_wp2
       go_meet
       case rel => exact ⟨_, (true), ae, H', ⟨by have := HK1.out; first | omega | exact Nat.le_refl _⟩, fwK BK326, fwK BK327, fwK BK328, ⟨bbl⟩⟩
      ·rw [if_neg c17] at H
       have c17b0 := beq_eq_false_iff_ne.mpr c17
       have c17b1 := bne_iff_ne.mpr c17
       (first | rw [c17b0] | (simp only [i64_w, i32_w]; rw [c17b0]) | skip)
       have H' := Sd.mk H
       clear H
       have hnb21 := NB326_327.out
       have hnc21 := NB327_326.out
       have hnb22 := NB326_328.out
       have hnc22 := NB328_326.out
       obtain ⟨hcz23_0, hcz23_1, hfz23_0, hfz23_1⟩ := bz BK326
       have hnb24 := NB327_328.out
       have hnc24 := NB328_327.out
       obtain ⟨hcz25_0, hcz25_1, hfz25_0, hfz25_1⟩ := bz BK327
       go_wp2
       go_meet
       case rel => exact ⟨_, ((a2_0 == 2)), ae, H', ⟨by have := HK1.out; first | omega | exact Nat.le_refl _⟩, fwK BK326, fwK BK327, fwK BK328, ⟨bbl⟩⟩
     case rest =>
      clear HC15
      obtain ⟨kq, x38_14, rfl, HA, HJ14, BK326, BK327, BK328, HB⟩ := hcut
      cases kq with
      | zero => exact absurd HA.out (by simp [r8_two.j1])
      | succ kj14 =>
       have H := HA.out
       clear HA
       simp only [r8_two.j1] at H
       by_cases c26 : x38_14 = true
       ·subst c26
        replace H := iT H
        obtain ⟨⟨t333, t334⟩, A27, H⟩ := bnd H
        replace H : (some (t333, t334, true)) = some (r1, r2, r3) := H
        simp only [Option.some.injEq, Prod.mk.injEq] at H
        obtain ⟨rfl, rfl, rfl⟩ := H
        go_wp2_with (first | ((with_reducible refine gate_callee (f := 28) rfl ?_); refine goesL_ (some 39) rfl rfl Tryz.func28 (by kernel_rfl) rfl #[] rfl ma ?_; (with_reducible refine (r8_Null.calls  t333 t334 _ A27.out).mono ?_); rintro e w28 ⟨rfl, hb⟩; refine ⟨_, rfl, ?_⟩; replace BK326 := bkb BK326 hb; replace BK327 := bkb BK327 hb; replace BK328 := bkb BK328 hb; replace HB := bsq w hb; (try clear hb); have hnb29 := NB328_326.out; have hnc29 := NB326_328.out; have hnb30 := NB328_327.out; have hnc30 := NB327_328.out; have hcz31_0 := bz0 BK328; have hcz31_1 := bz1 BK328; have hfz31_0 := blk_frozen BK328.out 0; have hfz31_1 := blk_frozen BK328.out 1))
        refine bodyPost_ret (results_ct rfl _ _ gb328 25 #[.int .i64 t333, .int .i64 t334] (0, 0) _ rfl (by (repeat refine dw ?_); refine blk_put (cs := #[.int .i64 t333, .int .i64 0]) ?_ 1 _ rfl; (repeat refine dw ?_); refine blk_put (cs := #[.int .i64 0, .int .i64 0]) ?_ 0 _ rfl; (repeat refine dw ?_); exact BK328.out) Tryz.underlying25 rfl (by kernel_rfl)) rfl ?_
        exact ⟨fe, bbl⟩
       ·replace c26 := Bool.eq_false_iff.mpr c26
        subst c26
        replace H := iF H
        have HC32 := Sd.mk H
        clear H
        go_upto_region 11 with (fail)
        go_cut [11] (fun v11 wc => ∃ (kq : Nat) (x11_31 : Bool), v11 = .bool x11_31 ∧ Sd (r8_two.j2 kq a0 x11_31 a1_0 a1_1 a2_0 a2_1 = some (r1, r2, r3)) ∧ Sd (kq ≤ kj14) ∧ Sd (wc.heap[gb326]? = some (.cells #[.int .i64 a1_0, .int .i64 a1_1] 25 (0, 0))) ∧ Sd (wc.heap[gb327]? = some (.cells #[.int .i64 a2_0, .int .i64 a2_1] 25 (0, 0))) ∧ Sd (wc.heap[gb328]? = some (.cells #[.int .i64 0, .int .i64 0] 25 (0, 0))) ∧ Sd (Below w.heap.size w wc))
        case first =>
         have H := HC32.out
         clear HC32
         by_cases c33 : a1_0 = 3
         ·rw [if_pos c33] at H
          have c33b0 := beq_iff_eq.mpr c33
          have c33b1 := bne_eq_false_iff_eq.mpr c33
          clear c33
          (first | rw [c33b0] | (simp only [i64_w, i32_w]; rw [c33b0]) | skip)
          have H' := Sd.mk H
          clear H
          have hnb34 := NB326_327.out
          have hnc34 := NB327_326.out
          have hnb35 := NB326_328.out
          have hnc35 := NB328_326.out
          obtain ⟨hcz36_0, hcz36_1, hfz36_0, hfz36_1⟩ := bz BK326
          go_wp2
          go_meet
          case rel => exact ⟨_, (true), ae, H', ⟨by have := HK1.out; have := HJ14.out; first | omega | exact Nat.le_refl _⟩, fwK BK326, fwK BK327, fwK BK328, ⟨bbl⟩⟩
         ·rw [if_neg c33] at H
          have c33b0 := beq_eq_false_iff_ne.mpr c33
          have c33b1 := bne_iff_ne.mpr c33
          (first | rw [c33b0] | (simp only [i64_w, i32_w]; rw [c33b0]) | skip)
          have H' := Sd.mk H
          clear H
          have hnb37 := NB326_327.out
          have hnc37 := NB327_326.out
          have hnb38 := NB326_328.out
          have hnc38 := NB328_326.out
          obtain ⟨hcz39_0, hcz39_1, hfz39_0, hfz39_1⟩ := bz BK326
          have hnb40 := NB327_328.out
          have hnc40 := NB328_327.out
          obtain ⟨hcz41_0, hcz41_1, hfz41_0, hfz41_1⟩ := bz BK327
          go_wp2
          go_meet
          case rel => exact ⟨_, ((a2_0 == 3)), ae, H', ⟨by have := HK1.out; have := HJ14.out; first | omega | exact Nat.le_refl _⟩, fwK BK326, fwK BK327, fwK BK328, ⟨bbl⟩⟩
        case rest =>
         clear HC32
         obtain ⟨kq, x11_31, rfl, HA, HJ31, BK326, BK327, BK328, HB⟩ := hcut
         cases kq with
         | zero => exact absurd HA.out (by simp [r8_two.j2])
         | succ kj31 =>
          have H := HA.out
          clear HA
          simp only [r8_two.j2] at H
          by_cases c42 : a0.toList = ([38, 38] : List UInt8)
          ·rw [if_pos c42] at H
           have c42b0 : (a0.toList == ([38, 38] : List UInt8)) = true := beq_iff_eq.mpr c42
           have c42b1 : (a0.toList != ([38, 38] : List UInt8)) = false := bne_eq_false_iff_eq.mpr c42
           clear c42
           obtain ⟨t335, A43, H⟩ := bnd H
           by_cases c44 : t335 = true
           ·subst c44
            replace H := iT H
            obtain ⟨t336, A45, H⟩ := bnd H
            obtain ⟨⟨t337, t338⟩, A46, H⟩ := bnd H
            replace H : (some (t337, t338, true)) = some (r1, r2, r3) := H
            simp only [Option.some.injEq, Prod.mk.injEq] at H
            obtain ⟨rfl, rfl, rfl⟩ := H
            have hnb47 := NB326_327.out
            have hnc47 := NB327_326.out
            have hnb48 := NB326_328.out
            have hnc48 := NB328_326.out
            obtain ⟨hcz49_0, hcz49_1, hfz49_0, hfz49_1⟩ := bz BK326
            go_wp2_with (first | ((with_reducible refine gate_callee (f := 65) rfl ?_); refine goesL_ (some 52) rfl rfl Tryz.func65 (by kernel_rfl) rfl #[.agg #[.int .i64 a1_0, .int .i64 a1_1]] rfl ma ?_; (with_reducible refine (r8_True.calls a1_0 a1_1 true _ A43.out).mono ?_); rintro e w50 ⟨rfl, hb⟩; refine ⟨_, rfl, ?_⟩; replace BK326 := bkb BK326 hb; replace BK327 := bkb BK327 hb; replace BK328 := bkb BK328 hb; replace HB := bsq w hb; (try clear hb); have hnb51 := NB327_328.out; have hnc51 := NB328_327.out; have hcz52_0 := bz0 BK327; have hcz52_1 := bz1 BK327; have hfz52_0 := blk_frozen BK327.out 0; have hfz52_1 := blk_frozen BK327.out 1) | (go_at_call 65; (with_reducible refine (r8_True.calls a2_0 a2_1 t336 _ A45.out).mono ?_); rintro e w53 ⟨rfl, hb⟩; replace BK326 := bkb BK326 hb; replace BK327 := bkb BK327 hb; replace BK328 := bkb BK328 hb; replace HB := bsq w hb; (try clear hb)) | ((with_reducible refine gate_callee (f := 95) rfl ?_); refine goesL_ (some 57) rfl rfl Tryz.func95 (by kernel_rfl) rfl #[.bool t336] rfl ma ?_; (with_reducible refine (r8_Truth.calls t336 t337 t338 _ A46.out).mono ?_); rintro e w54 ⟨rfl, hb⟩; refine ⟨_, rfl, ?_⟩; replace BK326 := bkb BK326 hb; replace BK327 := bkb BK327 hb; replace BK328 := bkb BK328 hb; replace HB := bsq w hb; (try clear hb); have hcz55_0 := bz0 BK328; have hcz55_1 := bz1 BK328; have hfz55_0 := blk_frozen BK328.out 0; have hfz55_1 := blk_frozen BK328.out 1))
            refine bodyPost_ret (results_ct rfl _ _ gb328 25 #[.int .i64 t337, .int .i64 t338] (0, 0) _ rfl (by (repeat refine dw ?_); refine blk_put (cs := #[.int .i64 t337, .int .i64 0]) ?_ 1 _ rfl; (repeat refine dw ?_); refine blk_put (cs := #[.int .i64 0, .int .i64 0]) ?_ 0 _ rfl; (repeat refine dw ?_); exact BK328.out) Tryz.underlying25 rfl (by kernel_rfl)) rfl ?_
            exact ⟨fe, bbl⟩
           ·replace c44 := Bool.eq_false_iff.mpr c44
            subst c44
            replace H := iF H
            obtain ⟨⟨t339, t340⟩, A56, H⟩ := bnd H
            replace H : (some (t339, t340, true)) = some (r1, r2, r3) := H
            simp only [Option.some.injEq, Prod.mk.injEq] at H
            obtain ⟨rfl, rfl, rfl⟩ := H
            have hnb57 := NB326_327.out
            have hnc57 := NB327_326.out
            have hnb58 := NB326_328.out
            have hnc58 := NB328_326.out
            obtain ⟨hcz59_0, hcz59_1, hfz59_0, hfz59_1⟩ := bz BK326
            go_wp2_with (first | ((with_reducible refine gate_callee (f := 65) rfl ?_); refine goesL_ (some 52) rfl rfl Tryz.func65 (by kernel_rfl) rfl #[.agg #[.int .i64 a1_0, .int .i64 a1_1]] rfl ma ?_; (with_reducible refine (r8_True.calls a1_0 a1_1 false _ A43.out).mono ?_); rintro e w60 ⟨rfl, hb⟩; refine ⟨_, rfl, ?_⟩; replace BK326 := bkb BK326 hb; replace BK327 := bkb BK327 hb; replace BK328 := bkb BK328 hb; replace HB := bsq w hb; (try clear hb)) | ((with_reducible refine gate_callee (f := 95) rfl ?_); refine goesL_ (some 57) rfl rfl Tryz.func95 (by kernel_rfl) rfl #[.bool false] rfl ma ?_; (with_reducible refine (r8_Truth.calls false t339 t340 _ A56.out).mono ?_); rintro e w61 ⟨rfl, hb⟩; refine ⟨_, rfl, ?_⟩; replace BK326 := bkb BK326 hb; replace BK327 := bkb BK327 hb; replace BK328 := bkb BK328 hb; replace HB := bsq w hb; (try clear hb); have hnb62 := NB328_327.out; have hnc62 := NB327_328.out; have hcz63_0 := bz0 BK328; have hcz63_1 := bz1 BK328; have hfz63_0 := blk_frozen BK328.out 0; have hfz63_1 := blk_frozen BK328.out 1))
            refine bodyPost_ret (results_ct rfl _ _ gb328 25 #[.int .i64 t339, .int .i64 t340] (0, 0) _ rfl (by (repeat refine dw ?_); refine blk_put (cs := #[.int .i64 t339, .int .i64 0]) ?_ 1 _ rfl; (repeat refine dw ?_); refine blk_put (cs := #[.int .i64 0, .int .i64 0]) ?_ 0 _ rfl; (repeat refine dw ?_); exact BK328.out) Tryz.underlying25 rfl (by kernel_rfl)) rfl ?_
            exact ⟨fe, bbl⟩
          ·rw [if_neg c42] at H
           have c42b0 : (a0.toList == ([38, 38] : List UInt8)) = false := beq_eq_false_iff_ne.mpr c42
           have c42b1 : (a0.toList != ([38, 38] : List UInt8)) = true := bne_iff_ne.mpr c42
           by_cases c64 : a0.toList = ([124, 124] : List UInt8)
           ·rw [if_pos c64] at H
            have c64b0 : (a0.toList == ([124, 124] : List UInt8)) = true := beq_iff_eq.mpr c64
            have c64b1 : (a0.toList != ([124, 124] : List UInt8)) = false := bne_eq_false_iff_eq.mpr c64
            clear c64
            obtain ⟨t341, A65, H⟩ := bnd H
            by_cases c66 : t341 = true
            ·subst c66
             replace H := iT H
             obtain ⟨⟨t342, t343⟩, A67, H⟩ := bnd H
             replace H : (some (t342, t343, true)) = some (r1, r2, r3) := H
             simp only [Option.some.injEq, Prod.mk.injEq] at H
             obtain ⟨rfl, rfl, rfl⟩ := H
             have hnb68 := NB326_327.out
             have hnc68 := NB327_326.out
             have hnb69 := NB326_328.out
             have hnc69 := NB328_326.out
             obtain ⟨hcz70_0, hcz70_1, hfz70_0, hfz70_1⟩ := bz BK326
             go_wp2_with (first | ((with_reducible refine gate_callee (f := 65) rfl ?_); refine goesL_ (some 61) rfl rfl Tryz.func65 (by kernel_rfl) rfl #[.agg #[.int .i64 a1_0, .int .i64 a1_1]] rfl ma ?_; (with_reducible refine (r8_True.calls a1_0 a1_1 true _ A65.out).mono ?_); rintro e w71 ⟨rfl, hb⟩; refine ⟨_, rfl, ?_⟩; replace BK326 := bkb BK326 hb; replace BK327 := bkb BK327 hb; replace BK328 := bkb BK328 hb; replace HB := bsq w hb; (try clear hb)) | ((with_reducible refine gate_callee (f := 95) rfl ?_); refine goesL_ (some 66) rfl rfl Tryz.func95 (by kernel_rfl) rfl #[.bool true] rfl ma ?_; (with_reducible refine (r8_Truth.calls true t342 t343 _ A67.out).mono ?_); rintro e w72 ⟨rfl, hb⟩; refine ⟨_, rfl, ?_⟩; replace BK326 := bkb BK326 hb; replace BK327 := bkb BK327 hb; replace BK328 := bkb BK328 hb; replace HB := bsq w hb; (try clear hb); have hnb73 := NB328_327.out; have hnc73 := NB327_328.out; have hcz74_0 := bz0 BK328; have hcz74_1 := bz1 BK328; have hfz74_0 := blk_frozen BK328.out 0; have hfz74_1 := blk_frozen BK328.out 1))
             refine bodyPost_ret (results_ct rfl _ _ gb328 25 #[.int .i64 t342, .int .i64 t343] (0, 0) _ rfl (by (repeat refine dw ?_); refine blk_put (cs := #[.int .i64 t342, .int .i64 0]) ?_ 1 _ rfl; (repeat refine dw ?_); refine blk_put (cs := #[.int .i64 0, .int .i64 0]) ?_ 0 _ rfl; (repeat refine dw ?_); exact BK328.out) Tryz.underlying25 rfl (by kernel_rfl)) rfl ?_
             exact ⟨fe, bbl⟩
            ·replace c66 := Bool.eq_false_iff.mpr c66
             subst c66
             replace H := iF H
             obtain ⟨t344, A75, H⟩ := bnd H
             obtain ⟨⟨t345, t346⟩, A76, H⟩ := bnd H
             replace H : (some (t345, t346, true)) = some (r1, r2, r3) := H
             simp only [Option.some.injEq, Prod.mk.injEq] at H
             obtain ⟨rfl, rfl, rfl⟩ := H
             have hnb77 := NB326_327.out
             have hnc77 := NB327_326.out
             have hnb78 := NB326_328.out
             have hnc78 := NB328_326.out
             obtain ⟨hcz79_0, hcz79_1, hfz79_0, hfz79_1⟩ := bz BK326
             go_wp2_with (first | ((with_reducible refine gate_callee (f := 65) rfl ?_); refine goesL_ (some 61) rfl rfl Tryz.func65 (by kernel_rfl) rfl #[.agg #[.int .i64 a1_0, .int .i64 a1_1]] rfl ma ?_; (with_reducible refine (r8_True.calls a1_0 a1_1 false _ A65.out).mono ?_); rintro e w80 ⟨rfl, hb⟩; refine ⟨_, rfl, ?_⟩; replace BK326 := bkb BK326 hb; replace BK327 := bkb BK327 hb; replace BK328 := bkb BK328 hb; replace HB := bsq w hb; (try clear hb); have hnb81 := NB327_328.out; have hnc81 := NB328_327.out; have hcz82_0 := bz0 BK327; have hcz82_1 := bz1 BK327; have hfz82_0 := blk_frozen BK327.out 0; have hfz82_1 := blk_frozen BK327.out 1) | (go_at_call 65; (with_reducible refine (r8_True.calls a2_0 a2_1 t344 _ A75.out).mono ?_); rintro e w83 ⟨rfl, hb⟩; replace BK326 := bkb BK326 hb; replace BK327 := bkb BK327 hb; replace BK328 := bkb BK328 hb; replace HB := bsq w hb; (try clear hb)) | ((with_reducible refine gate_callee (f := 95) rfl ?_); refine goesL_ (some 66) rfl rfl Tryz.func95 (by kernel_rfl) rfl #[.bool t344] rfl ma ?_; (with_reducible refine (r8_Truth.calls t344 t345 t346 _ A76.out).mono ?_); rintro e w84 ⟨rfl, hb⟩; refine ⟨_, rfl, ?_⟩; replace BK326 := bkb BK326 hb; replace BK327 := bkb BK327 hb; replace BK328 := bkb BK328 hb; replace HB := bsq w hb; (try clear hb); have hcz85_0 := bz0 BK328; have hcz85_1 := bz1 BK328; have hfz85_0 := blk_frozen BK328.out 0; have hfz85_1 := blk_frozen BK328.out 1))
             refine bodyPost_ret (results_ct rfl _ _ gb328 25 #[.int .i64 t345, .int .i64 t346] (0, 0) _ rfl (by (repeat refine dw ?_); refine blk_put (cs := #[.int .i64 t345, .int .i64 0]) ?_ 1 _ rfl; (repeat refine dw ?_); refine blk_put (cs := #[.int .i64 0, .int .i64 0]) ?_ 0 _ rfl; (repeat refine dw ?_); exact BK328.out) Tryz.underlying25 rfl (by kernel_rfl)) rfl ?_
             exact ⟨fe, bbl⟩
           ·rw [if_neg c64] at H
            have c64b0 : (a0.toList == ([124, 124] : List UInt8)) = false := beq_eq_false_iff_ne.mpr c64
            have c64b1 : (a0.toList != ([124, 124] : List UInt8)) = true := bne_iff_ne.mpr c64
            by_cases c86 : a0.toList = ([61, 61] : List UInt8)
            ·rw [if_pos c86] at H
             have c86b0 : (a0.toList == ([61, 61] : List UInt8)) = true := beq_iff_eq.mpr c86
             have c86b1 : (a0.toList != ([61, 61] : List UInt8)) = false := bne_eq_false_iff_eq.mpr c86
             clear c86
             by_cases c87 : x11_31 = true
             ·subst c87
              replace H := iT H
              obtain ⟨⟨t347, t348⟩, A88, H⟩ := bnd H
              replace H : (some (t347, t348, true)) = some (r1, r2, r3) := H
              simp only [Option.some.injEq, Prod.mk.injEq] at H
              obtain ⟨rfl, rfl, rfl⟩ := H
              go_wp2_with (first | ((with_reducible refine gate_callee (f := 95) rfl ?_); refine goesL_ (some 76) rfl rfl Tryz.func95 (by kernel_rfl) rfl #[.bool false] rfl ma ?_; (with_reducible refine (r8_Truth.calls false t347 t348 _ A88.out).mono ?_); rintro e w89 ⟨rfl, hb⟩; refine ⟨_, rfl, ?_⟩; replace BK326 := bkb BK326 hb; replace BK327 := bkb BK327 hb; replace BK328 := bkb BK328 hb; replace HB := bsq w hb; (try clear hb); have hnb90 := NB328_326.out; have hnc90 := NB326_328.out; have hnb91 := NB328_327.out; have hnc91 := NB327_328.out; have hcz92_0 := bz0 BK328; have hcz92_1 := bz1 BK328; have hfz92_0 := blk_frozen BK328.out 0; have hfz92_1 := blk_frozen BK328.out 1))
              refine bodyPost_ret (results_ct rfl _ _ gb328 25 #[.int .i64 t347, .int .i64 t348] (0, 0) _ rfl (by (repeat refine dw ?_); refine blk_put (cs := #[.int .i64 t347, .int .i64 0]) ?_ 1 _ rfl; (repeat refine dw ?_); refine blk_put (cs := #[.int .i64 0, .int .i64 0]) ?_ 0 _ rfl; (repeat refine dw ?_); exact BK328.out) Tryz.underlying25 rfl (by kernel_rfl)) rfl ?_
              exact ⟨fe, bbl⟩
             ·replace c87 := Bool.eq_false_iff.mpr c87
              subst c87
              replace H := iF H
              obtain ⟨⟨t349, t350⟩, A93, H⟩ := bnd H
              replace H : (some (t349, t350, true)) = some (r1, r2, r3) := H
              simp only [Option.some.injEq, Prod.mk.injEq] at H
              obtain ⟨rfl, rfl, rfl⟩ := H
              have hnb94 := NB326_327.out
              have hnc94 := NB327_326.out
              have hnb95 := NB326_328.out
              have hnc95 := NB328_326.out
              obtain ⟨hcz96_0, hcz96_1, hfz96_0, hfz96_1⟩ := bz BK326
              have hnb97 := NB327_328.out
              have hnc97 := NB328_327.out
              obtain ⟨hcz98_0, hcz98_1, hfz98_0, hfz98_1⟩ := bz BK327
              go_wp2_with (first | ((with_reducible refine gate_callee (f := 95) rfl ?_); refine goesL_ (some 76) rfl rfl Tryz.func95 (by kernel_rfl) rfl #[.bool (a1_0 == a2_0 && (a1_1 == a2_1))] rfl ma ?_; (with_reducible refine (r8_Truth.calls (a1_0 == a2_0 && (a1_1 == a2_1)) t349 t350 _ A93.out).mono ?_); rintro e w99 ⟨rfl, hb⟩; refine ⟨_, rfl, ?_⟩; replace BK326 := bkb BK326 hb; replace BK327 := bkb BK327 hb; replace BK328 := bkb BK328 hb; replace HB := bsq w hb; (try clear hb); have hcz100_0 := bz0 BK328; have hcz100_1 := bz1 BK328; have hfz100_0 := blk_frozen BK328.out 0; have hfz100_1 := blk_frozen BK328.out 1))
              refine bodyPost_ret (results_ct rfl _ _ gb328 25 #[.int .i64 t349, .int .i64 t350] (0, 0) _ rfl (by (repeat refine dw ?_); refine blk_put (cs := #[.int .i64 t349, .int .i64 0]) ?_ 1 _ rfl; (repeat refine dw ?_); refine blk_put (cs := #[.int .i64 0, .int .i64 0]) ?_ 0 _ rfl; (repeat refine dw ?_); exact BK328.out) Tryz.underlying25 rfl (by kernel_rfl)) rfl ?_
              exact ⟨fe, bbl⟩
            ·rw [if_neg c86] at H
             have c86b0 : (a0.toList == ([61, 61] : List UInt8)) = false := beq_eq_false_iff_ne.mpr c86
             have c86b1 : (a0.toList != ([61, 61] : List UInt8)) = true := bne_iff_ne.mpr c86
             by_cases c101 : a0.toList = ([33, 61] : List UInt8)
             ·rw [if_pos c101] at H
              have c101b0 : (a0.toList == ([33, 61] : List UInt8)) = true := beq_iff_eq.mpr c101
              have c101b1 : (a0.toList != ([33, 61] : List UInt8)) = false := bne_eq_false_iff_eq.mpr c101
              clear c101
              by_cases c102 : x11_31 = true
              ·subst c102
               replace H := iT H
               obtain ⟨⟨t351, t352⟩, A103, H⟩ := bnd H
               replace H : (some (t351, t352, true)) = some (r1, r2, r3) := H
               simp only [Option.some.injEq, Prod.mk.injEq] at H
               obtain ⟨rfl, rfl, rfl⟩ := H
               go_wp2_with (first | ((with_reducible refine gate_callee (f := 95) rfl ?_); refine goesL_ (some 85) rfl rfl Tryz.func95 (by kernel_rfl) rfl #[.bool true] rfl ma ?_; (with_reducible refine (r8_Truth.calls true t351 t352 _ A103.out).mono ?_); rintro e w104 ⟨rfl, hb⟩; refine ⟨_, rfl, ?_⟩; replace BK326 := bkb BK326 hb; replace BK327 := bkb BK327 hb; replace BK328 := bkb BK328 hb; replace HB := bsq w hb; (try clear hb); have hnb105 := NB328_326.out; have hnc105 := NB326_328.out; have hnb106 := NB328_327.out; have hnc106 := NB327_328.out; have hcz107_0 := bz0 BK328; have hcz107_1 := bz1 BK328; have hfz107_0 := blk_frozen BK328.out 0; have hfz107_1 := blk_frozen BK328.out 1))
               refine bodyPost_ret (results_ct rfl _ _ gb328 25 #[.int .i64 t351, .int .i64 t352] (0, 0) _ rfl (by (repeat refine dw ?_); refine blk_put (cs := #[.int .i64 t351, .int .i64 0]) ?_ 1 _ rfl; (repeat refine dw ?_); refine blk_put (cs := #[.int .i64 0, .int .i64 0]) ?_ 0 _ rfl; (repeat refine dw ?_); exact BK328.out) Tryz.underlying25 rfl (by kernel_rfl)) rfl ?_
               exact ⟨fe, bbl⟩
              ·replace c102 := Bool.eq_false_iff.mpr c102
               subst c102
               replace H := iF H
               obtain ⟨⟨t353, t354⟩, A108, H⟩ := bnd H
               replace H : (some (t353, t354, true)) = some (r1, r2, r3) := H
               simp only [Option.some.injEq, Prod.mk.injEq] at H
               obtain ⟨rfl, rfl, rfl⟩ := H
               have hnb109 := NB326_327.out
               have hnc109 := NB327_326.out
               have hnb110 := NB326_328.out
               have hnc110 := NB328_326.out
               obtain ⟨hcz111_0, hcz111_1, hfz111_0, hfz111_1⟩ := bz BK326
               have hnb112 := NB327_328.out
               have hnc112 := NB328_327.out
               obtain ⟨hcz113_0, hcz113_1, hfz113_0, hfz113_1⟩ := bz BK327
               go_wp2_with (first | ((with_reducible refine gate_callee (f := 95) rfl ?_); refine goesL_ (some 85) rfl rfl Tryz.func95 (by kernel_rfl) rfl #[.bool (!(a1_0 == a2_0) || (!(a1_1 == a2_1)))] rfl ma ?_; (with_reducible refine (r8_Truth.calls (!(a1_0 == a2_0) || (!(a1_1 == a2_1))) t353 t354 _ A108.out).mono ?_); rintro e w114 ⟨rfl, hb⟩; refine ⟨_, rfl, ?_⟩; replace BK326 := bkb BK326 hb; replace BK327 := bkb BK327 hb; replace BK328 := bkb BK328 hb; replace HB := bsq w hb; (try clear hb); have hcz115_0 := bz0 BK328; have hcz115_1 := bz1 BK328; have hfz115_0 := blk_frozen BK328.out 0; have hfz115_1 := blk_frozen BK328.out 1))
               refine bodyPost_ret (results_ct rfl _ _ gb328 25 #[.int .i64 t353, .int .i64 t354] (0, 0) _ rfl (by (repeat refine dw ?_); refine blk_put (cs := #[.int .i64 t353, .int .i64 0]) ?_ 1 _ rfl; (repeat refine dw ?_); refine blk_put (cs := #[.int .i64 0, .int .i64 0]) ?_ 0 _ rfl; (repeat refine dw ?_); exact BK328.out) Tryz.underlying25 rfl (by kernel_rfl)) rfl ?_
               exact ⟨fe, bbl⟩
             ·rw [if_neg c101] at H
              have c101b0 : (a0.toList == ([33, 61] : List UInt8)) = false := beq_eq_false_iff_ne.mpr c101
              have c101b1 : (a0.toList != ([33, 61] : List UInt8)) = true := bne_iff_ne.mpr c101
              by_cases c116 : a0.toList = ([60] : List UInt8)
              ·rw [if_pos c116] at H
               have c116b0 : (a0.toList == ([60] : List UInt8)) = true := beq_iff_eq.mpr c116
               have c116b1 : (a0.toList != ([60] : List UInt8)) = false := bne_eq_false_iff_eq.mpr c116
               clear c116
               by_cases c117 : x11_31 = true
               ·subst c117
                replace H := iT H
                obtain ⟨⟨t355, t356⟩, A118, H⟩ := bnd H
                replace H : (some (t355, t356, true)) = some (r1, r2, r3) := H
                simp only [Option.some.injEq, Prod.mk.injEq] at H
                obtain ⟨rfl, rfl, rfl⟩ := H
                go_wp2_with (first | ((with_reducible refine gate_callee (f := 95) rfl ?_); refine goesL_ (some 95) rfl rfl Tryz.func95 (by kernel_rfl) rfl #[.bool false] rfl ma ?_; (with_reducible refine (r8_Truth.calls false t355 t356 _ A118.out).mono ?_); rintro e w119 ⟨rfl, hb⟩; refine ⟨_, rfl, ?_⟩; replace BK326 := bkb BK326 hb; replace BK327 := bkb BK327 hb; replace BK328 := bkb BK328 hb; replace HB := bsq w hb; (try clear hb); have hnb120 := NB328_326.out; have hnc120 := NB326_328.out; have hnb121 := NB328_327.out; have hnc121 := NB327_328.out; have hcz122_0 := bz0 BK328; have hcz122_1 := bz1 BK328; have hfz122_0 := blk_frozen BK328.out 0; have hfz122_1 := blk_frozen BK328.out 1))
                refine bodyPost_ret (results_ct rfl _ _ gb328 25 #[.int .i64 t355, .int .i64 t356] (0, 0) _ rfl (by (repeat refine dw ?_); refine blk_put (cs := #[.int .i64 t355, .int .i64 0]) ?_ 1 _ rfl; (repeat refine dw ?_); refine blk_put (cs := #[.int .i64 0, .int .i64 0]) ?_ 0 _ rfl; (repeat refine dw ?_); exact BK328.out) Tryz.underlying25 rfl (by kernel_rfl)) rfl ?_
                exact ⟨fe, bbl⟩
               ·replace c117 := Bool.eq_false_iff.mpr c117
                subst c117
                replace H := iF H
                obtain ⟨t357, A123, H⟩ := bnd H
                obtain ⟨⟨t358, t359⟩, A124, H⟩ := bnd H
                replace H : (some (t358, t359, true)) = some (r1, r2, r3) := H
                simp only [Option.some.injEq, Prod.mk.injEq] at H
                obtain ⟨rfl, rfl, rfl⟩ := H
                have hnb125 := NB326_327.out
                have hnc125 := NB327_326.out
                have hnb126 := NB326_328.out
                have hnc126 := NB328_326.out
                obtain ⟨hcz127_0, hcz127_1, hfz127_0, hfz127_1⟩ := bz BK326
                have hnb128 := NB327_328.out
                have hnc128 := NB328_327.out
                obtain ⟨hcz129_0, hcz129_1, hfz129_0, hfz129_1⟩ := bz BK327
                go_wp2_with (first | (go_at_call 48; (with_reducible refine (r8_Less.calls kj31 a1_0 a1_1 a2_0 a2_1 t357 _ A123.out).mono ?_); rintro e w130 ⟨rfl, hb⟩; replace BK326 := bkb BK326 hb; replace BK327 := bkb BK327 hb; replace BK328 := bkb BK328 hb; replace HB := bsq w hb; (try clear hb)) | ((with_reducible refine gate_callee (f := 95) rfl ?_); refine goesL_ (some 95) rfl rfl Tryz.func95 (by kernel_rfl) rfl #[.bool t357] rfl ma ?_; (with_reducible refine (r8_Truth.calls t357 t358 t359 _ A124.out).mono ?_); rintro e w131 ⟨rfl, hb⟩; refine ⟨_, rfl, ?_⟩; replace BK326 := bkb BK326 hb; replace BK327 := bkb BK327 hb; replace BK328 := bkb BK328 hb; replace HB := bsq w hb; (try clear hb); have hcz132_0 := bz0 BK328; have hcz132_1 := bz1 BK328; have hfz132_0 := blk_frozen BK328.out 0; have hfz132_1 := blk_frozen BK328.out 1))
                refine bodyPost_ret (results_ct rfl _ _ gb328 25 #[.int .i64 t358, .int .i64 t359] (0, 0) _ rfl (by (repeat refine dw ?_); refine blk_put (cs := #[.int .i64 t358, .int .i64 0]) ?_ 1 _ rfl; (repeat refine dw ?_); refine blk_put (cs := #[.int .i64 0, .int .i64 0]) ?_ 0 _ rfl; (repeat refine dw ?_); exact BK328.out) Tryz.underlying25 rfl (by kernel_rfl)) rfl ?_
                exact ⟨fe, bbl⟩
              ·rw [if_neg c116] at H
               have c116b0 : (a0.toList == ([60] : List UInt8)) = false := beq_eq_false_iff_ne.mpr c116
               have c116b1 : (a0.toList != ([60] : List UInt8)) = true := bne_iff_ne.mpr c116
               by_cases c133 : a0.toList = ([60, 61] : List UInt8)
               ·rw [if_pos c133] at H
                have c133b0 : (a0.toList == ([60, 61] : List UInt8)) = true := beq_iff_eq.mpr c133
                have c133b1 : (a0.toList != ([60, 61] : List UInt8)) = false := bne_eq_false_iff_eq.mpr c133
                clear c133
                by_cases c134 : x11_31 = true
                ·subst c134
                 replace H := iT H
                 obtain ⟨⟨t360, t361⟩, A135, H⟩ := bnd H
                 replace H : (some (t360, t361, true)) = some (r1, r2, r3) := H
                 simp only [Option.some.injEq, Prod.mk.injEq] at H
                 obtain ⟨rfl, rfl, rfl⟩ := H
                 go_wp2_with (first | ((with_reducible refine gate_callee (f := 95) rfl ?_); refine goesL_ (some 106) rfl rfl Tryz.func95 (by kernel_rfl) rfl #[.bool false] rfl ma ?_; (with_reducible refine (r8_Truth.calls false t360 t361 _ A135.out).mono ?_); rintro e w136 ⟨rfl, hb⟩; refine ⟨_, rfl, ?_⟩; replace BK326 := bkb BK326 hb; replace BK327 := bkb BK327 hb; replace BK328 := bkb BK328 hb; replace HB := bsq w hb; (try clear hb); have hnb137 := NB328_326.out; have hnc137 := NB326_328.out; have hnb138 := NB328_327.out; have hnc138 := NB327_328.out; have hcz139_0 := bz0 BK328; have hcz139_1 := bz1 BK328; have hfz139_0 := blk_frozen BK328.out 0; have hfz139_1 := blk_frozen BK328.out 1))
                 refine bodyPost_ret (results_ct rfl _ _ gb328 25 #[.int .i64 t360, .int .i64 t361] (0, 0) _ rfl (by (repeat refine dw ?_); refine blk_put (cs := #[.int .i64 t360, .int .i64 0]) ?_ 1 _ rfl; (repeat refine dw ?_); refine blk_put (cs := #[.int .i64 0, .int .i64 0]) ?_ 0 _ rfl; (repeat refine dw ?_); exact BK328.out) Tryz.underlying25 rfl (by kernel_rfl)) rfl ?_
                 exact ⟨fe, bbl⟩
                ·replace c134 := Bool.eq_false_iff.mpr c134
                 subst c134
                 replace H := iF H
                 obtain ⟨t362, A140, H⟩ := bnd H
                 obtain ⟨⟨t363, t364⟩, A141, H⟩ := bnd H
                 replace H : (some (t363, t364, true)) = some (r1, r2, r3) := H
                 simp only [Option.some.injEq, Prod.mk.injEq] at H
                 obtain ⟨rfl, rfl, rfl⟩ := H
                 have hnb142 := NB327_326.out
                 have hnc142 := NB326_327.out
                 have hnb143 := NB327_328.out
                 have hnc143 := NB328_327.out
                 obtain ⟨hcz144_0, hcz144_1, hfz144_0, hfz144_1⟩ := bz BK327
                 have hnb145 := NB326_328.out
                 have hnc145 := NB328_326.out
                 obtain ⟨hcz146_0, hcz146_1, hfz146_0, hfz146_1⟩ := bz BK326
                 go_wp2_with (first | (go_at_call 48; (with_reducible refine (r8_Less.calls kj31 a2_0 a2_1 a1_0 a1_1 t362 _ A140.out).mono ?_); rintro e w147 ⟨rfl, hb⟩; replace BK326 := bkb BK326 hb; replace BK327 := bkb BK327 hb; replace BK328 := bkb BK328 hb; replace HB := bsq w hb; (try clear hb)) | ((with_reducible refine gate_callee (f := 95) rfl ?_); refine goesL_ (some 106) rfl rfl Tryz.func95 (by kernel_rfl) rfl #[.bool (!t362)] rfl ma ?_; (with_reducible refine (r8_Truth.calls (!t362) t363 t364 _ A141.out).mono ?_); rintro e w148 ⟨rfl, hb⟩; refine ⟨_, rfl, ?_⟩; replace BK326 := bkb BK326 hb; replace BK327 := bkb BK327 hb; replace BK328 := bkb BK328 hb; replace HB := bsq w hb; (try clear hb); have hcz149_0 := bz0 BK328; have hcz149_1 := bz1 BK328; have hfz149_0 := blk_frozen BK328.out 0; have hfz149_1 := blk_frozen BK328.out 1))
                 refine bodyPost_ret (results_ct rfl _ _ gb328 25 #[.int .i64 t363, .int .i64 t364] (0, 0) _ rfl (by (repeat refine dw ?_); refine blk_put (cs := #[.int .i64 t363, .int .i64 0]) ?_ 1 _ rfl; (repeat refine dw ?_); refine blk_put (cs := #[.int .i64 0, .int .i64 0]) ?_ 0 _ rfl; (repeat refine dw ?_); exact BK328.out) Tryz.underlying25 rfl (by kernel_rfl)) rfl ?_
                 exact ⟨fe, bbl⟩
               ·rw [if_neg c133] at H
                have c133b0 : (a0.toList == ([60, 61] : List UInt8)) = false := beq_eq_false_iff_ne.mpr c133
                have c133b1 : (a0.toList != ([60, 61] : List UInt8)) = true := bne_iff_ne.mpr c133
                by_cases c150 : a0.toList = ([62] : List UInt8)
                ·rw [if_pos c150] at H
                 have c150b0 : (a0.toList == ([62] : List UInt8)) = true := beq_iff_eq.mpr c150
                 have c150b1 : (a0.toList != ([62] : List UInt8)) = false := bne_eq_false_iff_eq.mpr c150
                 clear c150
                 by_cases c151 : x11_31 = true
                 ·subst c151
                  replace H := iT H
                  obtain ⟨⟨t365, t366⟩, A152, H⟩ := bnd H
                  replace H : (some (t365, t366, true)) = some (r1, r2, r3) := H
                  simp only [Option.some.injEq, Prod.mk.injEq] at H
                  obtain ⟨rfl, rfl, rfl⟩ := H
                  go_wp2_with (first | ((with_reducible refine gate_callee (f := 95) rfl ?_); refine goesL_ (some 116) rfl rfl Tryz.func95 (by kernel_rfl) rfl #[.bool false] rfl ma ?_; (with_reducible refine (r8_Truth.calls false t365 t366 _ A152.out).mono ?_); rintro e w153 ⟨rfl, hb⟩; refine ⟨_, rfl, ?_⟩; replace BK326 := bkb BK326 hb; replace BK327 := bkb BK327 hb; replace BK328 := bkb BK328 hb; replace HB := bsq w hb; (try clear hb); have hnb154 := NB328_326.out; have hnc154 := NB326_328.out; have hnb155 := NB328_327.out; have hnc155 := NB327_328.out; have hcz156_0 := bz0 BK328; have hcz156_1 := bz1 BK328; have hfz156_0 := blk_frozen BK328.out 0; have hfz156_1 := blk_frozen BK328.out 1))
                  refine bodyPost_ret (results_ct rfl _ _ gb328 25 #[.int .i64 t365, .int .i64 t366] (0, 0) _ rfl (by (repeat refine dw ?_); refine blk_put (cs := #[.int .i64 t365, .int .i64 0]) ?_ 1 _ rfl; (repeat refine dw ?_); refine blk_put (cs := #[.int .i64 0, .int .i64 0]) ?_ 0 _ rfl; (repeat refine dw ?_); exact BK328.out) Tryz.underlying25 rfl (by kernel_rfl)) rfl ?_
                  exact ⟨fe, bbl⟩
                 ·replace c151 := Bool.eq_false_iff.mpr c151
                  subst c151
                  replace H := iF H
                  obtain ⟨t367, A157, H⟩ := bnd H
                  obtain ⟨⟨t368, t369⟩, A158, H⟩ := bnd H
                  replace H : (some (t368, t369, true)) = some (r1, r2, r3) := H
                  simp only [Option.some.injEq, Prod.mk.injEq] at H
                  obtain ⟨rfl, rfl, rfl⟩ := H
                  have hnb159 := NB327_326.out
                  have hnc159 := NB326_327.out
                  have hnb160 := NB327_328.out
                  have hnc160 := NB328_327.out
                  obtain ⟨hcz161_0, hcz161_1, hfz161_0, hfz161_1⟩ := bz BK327
                  have hnb162 := NB326_328.out
                  have hnc162 := NB328_326.out
                  obtain ⟨hcz163_0, hcz163_1, hfz163_0, hfz163_1⟩ := bz BK326
                  go_wp2_with (first | (go_at_call 48; (with_reducible refine (r8_Less.calls kj31 a2_0 a2_1 a1_0 a1_1 t367 _ A157.out).mono ?_); rintro e w164 ⟨rfl, hb⟩; replace BK326 := bkb BK326 hb; replace BK327 := bkb BK327 hb; replace BK328 := bkb BK328 hb; replace HB := bsq w hb; (try clear hb)) | ((with_reducible refine gate_callee (f := 95) rfl ?_); refine goesL_ (some 116) rfl rfl Tryz.func95 (by kernel_rfl) rfl #[.bool t367] rfl ma ?_; (with_reducible refine (r8_Truth.calls t367 t368 t369 _ A158.out).mono ?_); rintro e w165 ⟨rfl, hb⟩; refine ⟨_, rfl, ?_⟩; replace BK326 := bkb BK326 hb; replace BK327 := bkb BK327 hb; replace BK328 := bkb BK328 hb; replace HB := bsq w hb; (try clear hb); have hcz166_0 := bz0 BK328; have hcz166_1 := bz1 BK328; have hfz166_0 := blk_frozen BK328.out 0; have hfz166_1 := blk_frozen BK328.out 1))
                  refine bodyPost_ret (results_ct rfl _ _ gb328 25 #[.int .i64 t368, .int .i64 t369] (0, 0) _ rfl (by (repeat refine dw ?_); refine blk_put (cs := #[.int .i64 t368, .int .i64 0]) ?_ 1 _ rfl; (repeat refine dw ?_); refine blk_put (cs := #[.int .i64 0, .int .i64 0]) ?_ 0 _ rfl; (repeat refine dw ?_); exact BK328.out) Tryz.underlying25 rfl (by kernel_rfl)) rfl ?_
                  exact ⟨fe, bbl⟩
                ·rw [if_neg c150] at H
                 have c150b0 : (a0.toList == ([62] : List UInt8)) = false := beq_eq_false_iff_ne.mpr c150
                 have c150b1 : (a0.toList != ([62] : List UInt8)) = true := bne_iff_ne.mpr c150
                 by_cases c167 : a0.toList = ([62, 61] : List UInt8)
                 ·rw [if_pos c167] at H
                  have c167b0 : (a0.toList == ([62, 61] : List UInt8)) = true := beq_iff_eq.mpr c167
                  have c167b1 : (a0.toList != ([62, 61] : List UInt8)) = false := bne_eq_false_iff_eq.mpr c167
                  clear c167
                  by_cases c168 : x11_31 = true
                  ·subst c168
                   replace H := iT H
                   obtain ⟨⟨t370, t371⟩, A169, H⟩ := bnd H
                   replace H : (some (t370, t371, true)) = some (r1, r2, r3) := H
                   simp only [Option.some.injEq, Prod.mk.injEq] at H
                   obtain ⟨rfl, rfl, rfl⟩ := H
                   go_wp2_with (first | ((with_reducible refine gate_callee (f := 95) rfl ?_); refine goesL_ (some 127) rfl rfl Tryz.func95 (by kernel_rfl) rfl #[.bool false] rfl ma ?_; (with_reducible refine (r8_Truth.calls false t370 t371 _ A169.out).mono ?_); rintro e w170 ⟨rfl, hb⟩; refine ⟨_, rfl, ?_⟩; replace BK326 := bkb BK326 hb; replace BK327 := bkb BK327 hb; replace BK328 := bkb BK328 hb; replace HB := bsq w hb; (try clear hb); have hnb171 := NB328_326.out; have hnc171 := NB326_328.out; have hnb172 := NB328_327.out; have hnc172 := NB327_328.out; have hcz173_0 := bz0 BK328; have hcz173_1 := bz1 BK328; have hfz173_0 := blk_frozen BK328.out 0; have hfz173_1 := blk_frozen BK328.out 1))
                   refine bodyPost_ret (results_ct rfl _ _ gb328 25 #[.int .i64 t370, .int .i64 t371] (0, 0) _ rfl (by (repeat refine dw ?_); refine blk_put (cs := #[.int .i64 t370, .int .i64 0]) ?_ 1 _ rfl; (repeat refine dw ?_); refine blk_put (cs := #[.int .i64 0, .int .i64 0]) ?_ 0 _ rfl; (repeat refine dw ?_); exact BK328.out) Tryz.underlying25 rfl (by kernel_rfl)) rfl ?_
                   exact ⟨fe, bbl⟩
                  ·replace c168 := Bool.eq_false_iff.mpr c168
                   subst c168
                   replace H := iF H
                   obtain ⟨t372, A174, H⟩ := bnd H
                   obtain ⟨⟨t373, t374⟩, A175, H⟩ := bnd H
                   replace H : (some (t373, t374, true)) = some (r1, r2, r3) := H
                   simp only [Option.some.injEq, Prod.mk.injEq] at H
                   obtain ⟨rfl, rfl, rfl⟩ := H
                   have hnb176 := NB326_327.out
                   have hnc176 := NB327_326.out
                   have hnb177 := NB326_328.out
                   have hnc177 := NB328_326.out
                   obtain ⟨hcz178_0, hcz178_1, hfz178_0, hfz178_1⟩ := bz BK326
                   have hnb179 := NB327_328.out
                   have hnc179 := NB328_327.out
                   obtain ⟨hcz180_0, hcz180_1, hfz180_0, hfz180_1⟩ := bz BK327
                   go_wp2_with (first | (go_at_call 48; (with_reducible refine (r8_Less.calls kj31 a1_0 a1_1 a2_0 a2_1 t372 _ A174.out).mono ?_); rintro e w181 ⟨rfl, hb⟩; replace BK326 := bkb BK326 hb; replace BK327 := bkb BK327 hb; replace BK328 := bkb BK328 hb; replace HB := bsq w hb; (try clear hb)) | ((with_reducible refine gate_callee (f := 95) rfl ?_); refine goesL_ (some 127) rfl rfl Tryz.func95 (by kernel_rfl) rfl #[.bool (!t372)] rfl ma ?_; (with_reducible refine (r8_Truth.calls (!t372) t373 t374 _ A175.out).mono ?_); rintro e w182 ⟨rfl, hb⟩; refine ⟨_, rfl, ?_⟩; replace BK326 := bkb BK326 hb; replace BK327 := bkb BK327 hb; replace BK328 := bkb BK328 hb; replace HB := bsq w hb; (try clear hb); have hcz183_0 := bz0 BK328; have hcz183_1 := bz1 BK328; have hfz183_0 := blk_frozen BK328.out 0; have hfz183_1 := blk_frozen BK328.out 1))
                   refine bodyPost_ret (results_ct rfl _ _ gb328 25 #[.int .i64 t373, .int .i64 t374] (0, 0) _ rfl (by (repeat refine dw ?_); refine blk_put (cs := #[.int .i64 t373, .int .i64 0]) ?_ 1 _ rfl; (repeat refine dw ?_); refine blk_put (cs := #[.int .i64 0, .int .i64 0]) ?_ 0 _ rfl; (repeat refine dw ?_); exact BK328.out) Tryz.underlying25 rfl (by kernel_rfl)) rfl ?_
                   exact ⟨fe, bbl⟩
                 ·rw [if_neg c167] at H
                  have c167b0 : (a0.toList == ([62, 61] : List UInt8)) = false := beq_eq_false_iff_ne.mpr c167
                  have c167b1 : (a0.toList != ([62, 61] : List UInt8)) = true := bne_iff_ne.mpr c167
                  by_cases c184 : x11_31 = true
                  ·subst c184
                   replace H := iT H
                   obtain ⟨⟨t375, t376⟩, A185, H⟩ := bnd H
                   replace H : (some (t375, t376, true)) = some (r1, r2, r3) := H
                   simp only [Option.some.injEq, Prod.mk.injEq] at H
                   obtain ⟨rfl, rfl, rfl⟩ := H
                   go_wp2_with (first | ((with_reducible refine gate_callee (f := 29) rfl ?_); refine goesL_ (some 129) rfl rfl Tryz.func29 (by kernel_rfl) rfl #[] rfl ma ?_; (with_reducible refine (r8_NaN.calls  t375 t376 _ A185.out).mono ?_); rintro e w186 ⟨rfl, hb⟩; refine ⟨_, rfl, ?_⟩; replace BK326 := bkb BK326 hb; replace BK327 := bkb BK327 hb; replace BK328 := bkb BK328 hb; replace HB := bsq w hb; (try clear hb); have hnb187 := NB328_326.out; have hnc187 := NB326_328.out; have hnb188 := NB328_327.out; have hnc188 := NB327_328.out; have hcz189_0 := bz0 BK328; have hcz189_1 := bz1 BK328; have hfz189_0 := blk_frozen BK328.out 0; have hfz189_1 := blk_frozen BK328.out 1))
                   refine bodyPost_ret (results_ct rfl _ _ gb328 25 #[.int .i64 t375, .int .i64 t376] (0, 0) _ rfl (by (repeat refine dw ?_); refine blk_put (cs := #[.int .i64 t375, .int .i64 0]) ?_ 1 _ rfl; (repeat refine dw ?_); refine blk_put (cs := #[.int .i64 0, .int .i64 0]) ?_ 0 _ rfl; (repeat refine dw ?_); exact BK328.out) Tryz.underlying25 rfl (by kernel_rfl)) rfl ?_
                   exact ⟨fe, bbl⟩
                  ·replace c184 := Bool.eq_false_iff.mpr c184
                   subst c184
                   replace H := iF H
                   by_cases c190 : a0.toList = ([43] : List UInt8)
                   ·rw [if_pos c190] at H
                    have c190b0 : (a0.toList == ([43] : List UInt8)) = true := beq_iff_eq.mpr c190
                    have c190b1 : (a0.toList != ([43] : List UInt8)) = false := bne_eq_false_iff_eq.mpr c190
                    clear c190
                    obtain ⟨⟨t377, t378⟩, A191, H⟩ := bnd H
                    replace H : (some (t377, t378, true)) = some (r1, r2, r3) := H
                    simp only [Option.some.injEq, Prod.mk.injEq] at H
                    obtain ⟨rfl, rfl, rfl⟩ := H
                    have hnb192 := NB326_327.out
                    have hnc192 := NB327_326.out
                    have hnb193 := NB326_328.out
                    have hnc193 := NB328_326.out
                    obtain ⟨hcz194_0, hcz194_1, hfz194_0, hfz194_1⟩ := bz BK326
                    have hnb195 := NB327_328.out
                    have hnc195 := NB328_327.out
                    obtain ⟨hcz196_0, hcz196_1, hfz196_0, hfz196_1⟩ := bz BK327
                    go_wp2_with (first | ((with_reducible refine gate_callee (f := 98) rfl ?_); refine goesL_ (some 135) rfl rfl Tryz.func98 (by kernel_rfl) rfl #[.agg #[.int .i64 a1_0, .int .i64 a1_1], .agg #[.int .i64 a2_0, .int .i64 a2_1]] rfl ma ?_; (with_reducible refine (r8_add.calls kj31 a1_0 a1_1 a2_0 a2_1 t377 t378 _ A191.out).mono ?_); rintro e w197 ⟨rfl, hb⟩; refine ⟨_, rfl, ?_⟩; replace BK326 := bkb BK326 hb; replace BK327 := bkb BK327 hb; replace BK328 := bkb BK328 hb; replace HB := bsq w hb; (try clear hb); have hcz198_0 := bz0 BK328; have hcz198_1 := bz1 BK328; have hfz198_0 := blk_frozen BK328.out 0; have hfz198_1 := blk_frozen BK328.out 1))
                    refine bodyPost_ret (results_ct rfl _ _ gb328 25 #[.int .i64 t377, .int .i64 t378] (0, 0) _ rfl (by (repeat refine dw ?_); refine blk_put (cs := #[.int .i64 t377, .int .i64 0]) ?_ 1 _ rfl; (repeat refine dw ?_); refine blk_put (cs := #[.int .i64 0, .int .i64 0]) ?_ 0 _ rfl; (repeat refine dw ?_); exact BK328.out) Tryz.underlying25 rfl (by kernel_rfl)) rfl ?_
                    exact ⟨fe, bbl⟩
                   ·rw [if_neg c190] at H
                    have c190b0 : (a0.toList == ([43] : List UInt8)) = false := beq_eq_false_iff_ne.mpr c190
                    have c190b1 : (a0.toList != ([43] : List UInt8)) = true := bne_iff_ne.mpr c190
                    by_cases c199 : a0.toList = ([45] : List UInt8)
                    ·rw [if_pos c199] at H
                     have c199b0 : (a0.toList == ([45] : List UInt8)) = true := beq_iff_eq.mpr c199
                     have c199b1 : (a0.toList != ([45] : List UInt8)) = false := bne_eq_false_iff_eq.mpr c199
                     clear c199
                     obtain ⟨⟨t379, t380⟩, A200, H⟩ := bnd H
                     replace H : ((r8_add.f kj31 a1_0 a1_1 t379 t380).bind fun bt381 => (some (bt381.1, bt381.2, true))) = some (r1, r2, r3) := H
                     obtain ⟨⟨t381, t382⟩, A201, H⟩ := bnd H
                     replace H : (some (t381, t382, true)) = some (r1, r2, r3) := H
                     simp only [Option.some.injEq, Prod.mk.injEq] at H
                     obtain ⟨rfl, rfl, rfl⟩ := H
                     try go_wp2
                     have n0_ := Sd.mk (blk_drew BK326.out)
                     have n1_ := Sd.mk (blk_drew BK327.out)
                     have n2_ := Sd.mk (blk_drew BK328.out)
                     have n3_ := Sd.mk (bd1 HB.out)
                     clear BK326 BK327 BK328 HB
                     have BK326 := n0_
                     have BK327 := n1_
                     have BK328 := n2_
                     have HB := n3_
                     clear n0_ n1_ n2_ n3_
                     refine start_ (n := 6) (S := fun w' => w'.cell? ⟨gb326, 0, none⟩ = some (.int .i64 a1_0) ∧ w'.cell? ⟨gb326, 1, none⟩ = some (.int .i64 a1_1) ∧ w'.cell? ⟨gb327, 0, none⟩ = some (.int .i64 a2_0) ∧ w'.cell? ⟨gb327, 1, none⟩ = some (.int .i64 a2_1)) (ds := []) #[false, false, false, false, false, false] (by kernel_rfl) rfl rfl ⟨(blk_cell BK326.out 0).trans rfl, (blk_cell BK326.out 1).trans rfl, (blk_cell BK327.out 0).trans rfl, (blk_cell BK327.out 1).trans rfl⟩ (fun hHeld => ?_)
                     generalize wc.drew = w202 at BK326 BK327 BK328 HB hHeld ⊢
                     refine take_ (i := 0) (N := some 138) (v := ?_) (a' := ?_) #[true, false, false, false, false, false] rfl rfl (by kernel_rfl) (fun _ _ _ h => h) (Or.inl ⟨by rfl, ?_⟩) hHeld ?_ ?_
                     rotate_left
                     ·rintro w' ⟨s0, s1, s2, s3⟩
                      go_simp
                      with_reducible rfl
                     rotate_left
                     ·simp only [Act.put, List.setIfInBounds_toArray, List.set_cons_zero, List.set_cons_succ, i64_w, i32_w]
                      rfl
                     refine take_ (i := 1) (N := some 139) (v := ?_) (a' := ?_) #[true, true, false, false, false, false] rfl rfl (by kernel_rfl) (fun _ _ _ h => h) (Or.inl ⟨by rfl, ?_⟩) hHeld ?_ ?_
                     rotate_left
                     ·rintro w' ⟨s0, s1, s2, s3⟩
                      go_simp
                      with_reducible rfl
                     rotate_left
                     ·simp only [Act.put, List.setIfInBounds_toArray, List.set_cons_zero, List.set_cons_succ, i64_w, i32_w]
                      rfl
                     refine one_ (i := 2) (N := some 140) #[true, true, true, false, false, false] rfl rfl (by kernel_rfl) (by decide) (fun K hK => ?_)
                     refine goes_ Tryz.func97 (by kernel_rfl) rfl #[.agg #[.int .i64 a2_0, .int .i64 a2_1]] (by rfl) rfl rfl ma ?_
                     with_reducible refine (r8_turned.calls a2_0 a2_1 t379 t380 _ A200.out).mono ?_
                     rintro e w203 ⟨rfl, hb⟩
                     refine ⟨_, rfl, ?_⟩
                     have n0_ := bkb BK326 hb
                     have n1_ := bkb BK327 hb
                     have n2_ := bkb BK328 hb
                     have n3_ := bsq w hb
                     clear BK326 BK327 BK328 HB
                     have BK326 := n0_
                     have BK327 := n1_
                     have BK328 := n2_
                     have HB := n3_
                     clear n0_ n1_ n2_ n3_
                     (try clear hb)
                     (try clear hb2)
                     (try clear hk)
                     (try clear hi)
                     refine hK.out _ _ ⟨(blk_cell BK326.out 0).trans rfl, (blk_cell BK326.out 1).trans rfl, (blk_cell BK327.out 0).trans rfl, (blk_cell BK327.out 1).trans rfl⟩ (fun hHeld => ?_)
                     clear hK K
                     refine norm_ (a' := ?_) ?_ ?_
                     rotate_left
                     ·show Act.put _ (some 140) _ = _
                      simp only [Act.put, List.setIfInBounds_toArray, List.set_cons_zero, List.set_cons_succ, i64_w, i32_w]
                      rfl
                     refine one_ (i := 3) (N := some 141) #[true, true, true, true, false, false] rfl rfl (by kernel_rfl) (by decide) (fun K hK => ?_)
                     refine goes_ Tryz.func98 (by kernel_rfl) rfl #[.agg #[.int .i64 a1_0, .int .i64 a1_1], .agg #[.int .i64 t379, .int .i64 t380]] (by rfl) rfl rfl ma ?_
                     with_reducible refine (r8_add.calls kj31 a1_0 a1_1 t379 t380 t381 t382 _ A201.out).mono ?_
                     rintro e w204 ⟨rfl, hb⟩
                     refine ⟨_, rfl, ?_⟩
                     have n0_ := bkb BK326 hb
                     have n1_ := bkb BK327 hb
                     have n2_ := bkb BK328 hb
                     have n3_ := bsq w hb
                     clear BK326 BK327 BK328 HB
                     have BK326 := n0_
                     have BK327 := n1_
                     have BK328 := n2_
                     have HB := n3_
                     clear n0_ n1_ n2_ n3_
                     (try clear hb)
                     (try clear hb2)
                     (try clear hk)
                     (try clear hi)
                     refine hK.out _ _ ⟨(blk_cell BK326.out 0).trans rfl, (blk_cell BK326.out 1).trans rfl, (blk_cell BK327.out 0).trans rfl, (blk_cell BK327.out 1).trans rfl⟩ (fun hHeld => ?_)
                     clear hK K
                     refine norm_ (a' := ?_) ?_ ?_
                     rotate_left
                     ·show Act.put _ (some 141) _ = _
                      simp only [Act.put, List.setIfInBounds_toArray, List.set_cons_zero, List.set_cons_succ, i64_w, i32_w]
                      rfl
                     refine one_ (i := 4) (N := none) #[true, true, true, true, true, false] rfl rfl (by kernel_rfl) (by decide) (fun K hK => ?_)
                     have hs205 : w204.cell? ⟨gb328, 0, none⟩ = some (.int .i64 0) := (blk_cell BK328.out 0).trans rfl
                     have hfs205 := blk_frozen BK328.out 0
                     have hns205_0 := NB326_328.out
                     have hns205_1 := NB327_328.out
                     have hms205_0 := NB328_326.out
                     have hms205_1 := NB328_327.out
                     have hs206 : w204.cell? ⟨gb328, 1, none⟩ = some (.int .i64 0) := (blk_cell BK328.out 1).trans rfl
                     have hfs206 := blk_frozen BK328.out 1
                     have hns206_0 := NB326_328.out
                     have hns206_1 := NB327_328.out
                     have hms206_0 := NB328_326.out
                     have hms206_1 := NB328_327.out
                     refine skip_ (w1 := ?_) (by rfl) rfl ?_ ?_
                     rotate_left
                     ·go_simp
                      rfl
                     refine hK.out _ _ ⟨((cell_far (p := ⟨gb328, _, none⟩) NB326_328.out _).trans (((cell_far (p := ⟨gb328, _, none⟩) NB326_328.out _).trans (hHeld.1)))), ((cell_far (p := ⟨gb328, _, none⟩) NB326_328.out _).trans (((cell_far (p := ⟨gb328, _, none⟩) NB326_328.out _).trans (hHeld.2.1)))), ((cell_far (p := ⟨gb328, _, none⟩) NB327_328.out _).trans (((cell_far (p := ⟨gb328, _, none⟩) NB327_328.out _).trans (hHeld.2.2.1)))), ((cell_far (p := ⟨gb328, _, none⟩) NB327_328.out _).trans (((cell_far (p := ⟨gb328, _, none⟩) NB327_328.out _).trans (hHeld.2.2.2))))⟩ (fun hHeld => ?_)
                     clear hK K
                     refine pure_ (i := 5) (N := some 7) (v := ?_) (a' := ?_) #[true, true, true, true, true, true] rfl rfl (by kernel_rfl) (fun _ _ _ h => h) (Or.inl ⟨by rfl, ?_⟩) ?_ ?_
                     rotate_left
                     ·intro w'
                      go_simp
                      with_reducible rfl
                     rotate_left
                     ·simp only [Act.put, List.setIfInBounds_toArray, List.set_cons_zero, List.set_cons_succ, i64_w, i32_w]
                      rfl
                     refine done_ (by kernel_rfl) ?_
                     try go_wp2
                     refine bodyPost_ret (results_ct rfl _ _ gb328 25 #[.int .i64 t381, .int .i64 t382] (0, 0) _ rfl (by (repeat refine dw ?_); refine blk_put (cs := #[.int .i64 t381, .int .i64 0]) ?_ 1 _ rfl; (repeat refine dw ?_); refine blk_put (cs := #[.int .i64 0, .int .i64 0]) ?_ 0 _ rfl; (repeat refine dw ?_); exact BK328.out) Tryz.underlying25 rfl (by kernel_rfl)) rfl ?_
                     exact ⟨fe, bbl⟩
                    ·rw [if_neg c199] at H
                     have c199b0 : (a0.toList == ([45] : List UInt8)) = false := beq_eq_false_iff_ne.mpr c199
                     have c199b1 : (a0.toList != ([45] : List UInt8)) = true := bne_iff_ne.mpr c199
                     by_cases c207 : a0.toList = ([42] : List UInt8)
                     ·rw [if_pos c207] at H
                      have c207b0 : (a0.toList == ([42] : List UInt8)) = true := beq_iff_eq.mpr c207
                      have c207b1 : (a0.toList != ([42] : List UInt8)) = false := bne_eq_false_iff_eq.mpr c207
                      clear c207
                      obtain ⟨⟨t383, t384⟩, A208, H⟩ := bnd H
                      replace H : (some (t383, t384, true)) = some (r1, r2, r3) := H
                      simp only [Option.some.injEq, Prod.mk.injEq] at H
                      obtain ⟨rfl, rfl, rfl⟩ := H
                      have hnb209 := NB326_327.out
                      have hnc209 := NB327_326.out
                      have hnb210 := NB326_328.out
                      have hnc210 := NB328_326.out
                      obtain ⟨hcz211_0, hcz211_1, hfz211_0, hfz211_1⟩ := bz BK326
                      have hnb212 := NB327_328.out
                      have hnc212 := NB328_327.out
                      obtain ⟨hcz213_0, hcz213_1, hfz213_0, hfz213_1⟩ := bz BK327
                      go_wp2_with (first | ((with_reducible refine gate_callee (f := 99) rfl ?_); refine goesL_ (some 146) rfl rfl Tryz.func99 (by kernel_rfl) rfl #[.agg #[.int .i64 a1_0, .int .i64 a1_1], .agg #[.int .i64 a2_0, .int .i64 a2_1]] rfl ma ?_; (with_reducible refine (r8_times.calls kj31 a1_0 a1_1 a2_0 a2_1 t383 t384 _ A208.out).mono ?_); rintro e w214 ⟨rfl, hb⟩; refine ⟨_, rfl, ?_⟩; replace BK326 := bkb BK326 hb; replace BK327 := bkb BK327 hb; replace BK328 := bkb BK328 hb; replace HB := bsq w hb; (try clear hb); have hcz215_0 := bz0 BK328; have hcz215_1 := bz1 BK328; have hfz215_0 := blk_frozen BK328.out 0; have hfz215_1 := blk_frozen BK328.out 1))
                      refine bodyPost_ret (results_ct rfl _ _ gb328 25 #[.int .i64 t383, .int .i64 t384] (0, 0) _ rfl (by (repeat refine dw ?_); refine blk_put (cs := #[.int .i64 t383, .int .i64 0]) ?_ 1 _ rfl; (repeat refine dw ?_); refine blk_put (cs := #[.int .i64 0, .int .i64 0]) ?_ 0 _ rfl; (repeat refine dw ?_); exact BK328.out) Tryz.underlying25 rfl (by kernel_rfl)) rfl ?_
                      exact ⟨fe, bbl⟩
                     ·rw [if_neg c207] at H
                      have c207b0 : (a0.toList == ([42] : List UInt8)) = false := beq_eq_false_iff_ne.mpr c207
                      have c207b1 : (a0.toList != ([42] : List UInt8)) = true := bne_iff_ne.mpr c207
                      obtain ⟨⟨t385, t386⟩, A216, H⟩ := bnd H
                      replace H : (some (t385, t386, true)) = some (r1, r2, r3) := H
                      simp only [Option.some.injEq, Prod.mk.injEq] at H
                      obtain ⟨rfl, rfl, rfl⟩ := H
                      have hnb217 := NB326_327.out
                      have hnc217 := NB327_326.out
                      have hnb218 := NB326_328.out
                      have hnc218 := NB328_326.out
                      obtain ⟨hcz219_0, hcz219_1, hfz219_0, hfz219_1⟩ := bz BK326
                      have hnb220 := NB327_328.out
                      have hnc220 := NB328_327.out
                      obtain ⟨hcz221_0, hcz221_1, hfz221_0, hfz221_1⟩ := bz BK327
                      go_wp2_with (first | ((with_reducible refine gate_callee (f := 100) rfl ?_); refine goesL_ (some 149) rfl rfl Tryz.func100 (by kernel_rfl) rfl #[.agg #[.int .i64 a1_0, .int .i64 a1_1], .agg #[.int .i64 a2_0, .int .i64 a2_1]] rfl ma ?_; (with_reducible refine (r8_over.calls kj31 a1_0 a1_1 a2_0 a2_1 t385 t386 _ A216.out).mono ?_); rintro e w222 ⟨rfl, hb⟩; refine ⟨_, rfl, ?_⟩; replace BK326 := bkb BK326 hb; replace BK327 := bkb BK327 hb; replace BK328 := bkb BK328 hb; replace HB := bsq w hb; (try clear hb); have hcz223_0 := bz0 BK328; have hcz223_1 := bz1 BK328; have hfz223_0 := blk_frozen BK328.out 0; have hfz223_1 := blk_frozen BK328.out 1))
                      refine bodyPost_ret (results_ct rfl _ _ gb328 25 #[.int .i64 t385, .int .i64 t386] (0, 0) _ rfl (by (repeat refine dw ?_); refine blk_put (cs := #[.int .i64 t385, .int .i64 0]) ?_ 1 _ rfl; (repeat refine dw ?_); refine blk_put (cs := #[.int .i64 0, .int .i64 0]) ?_ 0 _ rfl; (repeat refine dw ?_); exact BK328.out) Tryz.underlying25 rfl (by kernel_rfl)) rfl ?_
                      exact ⟨fe, bbl⟩
    ·replace c14 := Bool.eq_false_iff.mpr c14
     subst c14
     replace H := iF H
     simp only [Option.some.injEq, Prod.mk.injEq] at H
     obtain ⟨rfl, rfl, rfl⟩ := H
     obtain ⟨Ao224, co224, eo224⟩ := Kd.R_slice HO_9.out
     subst eo224
     have hnb225 := NB328_326.out
     have hnc225 := NB326_328.out
     have hnb226 := NB328_327.out
     have hnc226 := NB327_328.out
     obtain ⟨hcz227_0, hcz227_1, hfz227_0, hfz227_1⟩ := bz BK328
     go_wp2
     refine bodyPost_ret (results_ct rfl _ _ gb328 25 #[.int .i64 0, .int .i64 0] (0, 0) _ rfl (by (repeat refine dw ?_); refine blk_put (cs := #[.int .i64 0, .int .i64 0]) ?_ 1 _ rfl; (repeat refine dw ?_); refine blk_put (cs := #[.int .i64 0, .int .i64 0]) ?_ 0 _ rfl; (repeat refine dw ?_); exact BK328.out) Tryz.underlying25 rfl (by kernel_rfl)) rfl ?_
     exact ⟨fe, bbl⟩
end Go.Proofs.YtcmiehddjgfjaaaGreat.A
