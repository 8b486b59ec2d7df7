/- A part of the proof of LawSeriesParts: contracts and plain laws, put together by a program of this session. -/
import Derived.Test.YtcmiehddjgfjaaaGreatCPar2
import Derived.Maps.OwnOps
import Derived.Laws.EntriesVeiled
import Derived.Shelf.Abstract
import Derived.Outline
import Derived.Shelf.SlicesE.Index
import Derived.Carry
import Derived.Lib.SliceRun
import Derived.Laws.Rows
import Derived.Laws.IdiomCopy
import Derived.Deep.LoopGhost
import Derived.Lib.Bytealg
import Derived.Lib.Strings
import Derived.Shelf.SlSortCmp.Insertion
import Derived.Test.YtcmiehddjgfjaaaGreatProg
import Derived.Below
import Derived.Deep.Draws
import Derived.Deep.AppendLies
import Derived.Maps.AppendAt
import Derived.OwnWalk
import Derived.Laws.BytesArg
import Derived.Laws.MakeOwn
import Derived.Laws.OwnMore
import Derived.Deep.OwnRows
import Derived.Tactics
import Derived.Lib.ConvBytes
import Derived.Laws.Slices
import Derived.WalkKit
import Derived.KernelRfl
import Derived.RowKit3
import Derived.Deep.QuietTactic
import Derived.BigQuiet
import Derived.WideLaws
import Derived.Deep.DeepCutAuto
import Derived.Deep.CutBlock
import Derived.Deep.RegionHeld3
import Derived.Lib.AppendStr
import Derived.ArgAppend
import Derived.OrdersHeld
import Derived.Laws.BitsLemmas
import Derived.RowKit
import Derived.Lib.SlBuf
import Derived.Deep.RegionLaw
set_option linter.unusedVariables false
set_option linter.unusedSimpArgs false
set_option linter.unusedSectionVars false
set_option maxHeartbeats 8000000
set_option maxRecDepth 100000
namespace Go.Proofs.YtcmiehddjgfjaaaGreat.A
open Go.RowKit Go.Proofs.YtcmiehddjgfjaaaGreatW.PrintWords Go.Proofs.YtcmiehddjgfjaaaGreatW.PrintLast Go.Proofs.YtcmiehddjgfjaaaGreatW.PrintMore
attribute [local go_sem] max2_int min2_int max_two min_two max_three min_three max_four min_four   -- for this text's walks alone
def v_mul.j0 : Nat → Int → Bool → Int → Int → Int → Int → Option (Int × Int)
 | 0, _, _, _, _, _, _ => none
 | k + 1, x5, x22, x134000, x134001, x135000, x135001 => if x22 = true then ((v_infinite.f x5).bind fun bt140 => (some (bt140.1, bt140.2))) else ((v_sign.f x134000 x134001).bind fun t142 => ((v_sign.f x135000 x135001).bind fun t143 => ((bits_Mul64.f (IntKind.u64.wrap (wrap64 (x134001 * t142))) (IntKind.u64.wrap (wrap64 (x135001 * t143)))).bind fun bt144 => (if bt144.1 ≥ 1000 then ((v_infinite.f x5).bind fun bt146 => (some (bt146.1, bt146.2))) else ((bits_Div64.f bt144.1 bt144.2 1000).bind fun bt148 => (if bt148.1 > 1000000000000000 then ((v_infinite.f x5).bind fun bt150 => (some (bt150.1, bt150.2))) else ((v_Num.f (wrap64 (x5 * (wrap64 (bt148.1))))).bind fun bt152 => (some (bt152.1, bt152.2)))))))))
def v_mul.f (k : Nat) (a0_0 : Int) (a0_1 : Int) (a1_0 : Int) (a1_1 : Int) : Option (Int × Int) := (v_sign.f a0_0 a0_1).bind fun t136 => ((v_sign.f a1_0 a1_1).bind fun t137 => ((v_finite.f a0_0 a0_1).bind fun t138 => (if t138 = true then ((v_finite.f a1_0 a1_1).bind fun t139 => (v_mul.j0 k (wrap64 (t136 * t137)) (!t139) a0_0 a0_1 a1_0 a1_1)) else (v_mul.j0 k (wrap64 (t136 * t137)) true a0_0 a0_1 a1_0 a1_1))))
def v_mul.T4 : Bool × List (List Nat × List Nat) := (true, [([], []), ([0], [0]), ([], []), ([2], [2]), ([1, 3], [1, 3]), ([4], [4]), ([], []), ([6], [6]), ([], []), ([8, 3], [8]), ([7, 9], [7, 9]), ([10], [10]), ([5, 11, 9], [5, 11]), ([12], [12]), ([13], [13]), ([13], [13]), ([14, 12, 0, 1, 2, 3, 4, 5, 6, 7, 8, 9, 10, 11, 12, 13, 14], [14]), ([15, 16, 0, 1, 2, 3, 4, 5, 6, 7, 8, 9, 10, 11, 12, 13, 14, 15, 16], [15])])
def v_mul.B4 : List Nat := [0, 1, 0, 4, 15, 31, 0, 64, 0, 268, 972, 1996, 4095, 8191, 16383, 16383, 32767, 131071]
theorem v_mul.tab4 : rtab .any (opsOf Tryz.f131 4) = v_mul.T4 := by kernel_rfl
theorem v_mul.bits4 : waitsOk v_mul.T4.2 v_mul.B4 = true := by kernel_rfl
theorem v_mul.calls (k : Nat) (a0_0 : Int) (a0_1 : Int) (a1_0 : Int) (a1_1 : Int) (r1 : Int) (r2 : Int) (w : World) (h : v_mul.f k a0_0 a0_1 a1_0 a1_1 = some (r1, r2)) :
  Calls Tryz.prog 131 #[.agg #[.int .i64 a0_0, .int .i64 a0_1], .agg #[.int .i64 a1_0, .int .i64 a1_1]] w fun e w' => e = .returned (.agg #[.int .i64 r1, .int .i64 r2]) ∧ Below w.heap.size w w' := by
 have hu25 := Tryz.underlying25
 have HB := Sd.mk (Below.refl w.heap.size w)
 have H : ((v_sign.f a0_0 a0_1).bind fun t136 => ((v_sign.f a1_0 a1_1).bind fun t137 => ((v_finite.f a0_0 a0_1).bind fun t138 => (if t138 = true then ((v_finite.f a1_0 a1_1).bind fun t139 => (v_mul.j0 k (wrap64 (t136 * t137)) (!t139) a0_0 a0_1 a1_0 a1_1)) else (v_mul.j0 k (wrap64 (t136 * t137)) true a0_0 a0_1 a1_0 a1_1))))) = some (r1, r2) := h
 clear h
 obtain ⟨t136, A3, H⟩ := bnd H
 obtain ⟨t137, A4, H⟩ := bnd H
 have HC5 := Sd.mk H
 clear H
 go_enter Tryz.func131, Tryz.ntmps131
 try go_wp2_with (first | ((with_reducible refine gate_dst (N := 2) rfl ?_); refine bxe (N := 2) (cs := #[.int .i64 a0_0, .int .i64 a0_1]) (t := 25) ?_; intro gb133 hg w6 hbox hb; have BK133 := Sd.mk hbox; have GW133 := bge w hg; have GE133 := bge w hg; replace HB := bsq w hb; clear hb hbox hg) | ((with_reducible refine gate_dst (N := 3) rfl ?_); refine bxe (N := 3) (cs := #[.int .i64 a1_0, .int .i64 a1_1]) (t := 25) ?_; intro gb134 hg w7 hbox hb; have BK134 := Sd.mk hbox; have GW134 := bge w hg; have GE134 := bge w hg; have NB133_134 := bnl BK133 hg; have NB134_133 := bng BK133 hg; replace BK133 := bkb BK133 hb; replace HB := bsq w hb; clear hb hbox hg) | ((with_reducible refine gate_dst (N := 4) rfl ?_); refine bxe (N := 4) (cs := #[.int .i64 0, .int .i64 0]) (t := 25) ?_; intro gb135 hg w8 hbox hb; have BK135 := Sd.mk hbox; have GW135 := bge w hg; have GE135 := bge w hg; have NB133_135 := bnl BK133 hg; have NB135_133 := bng BK133 hg; have NB134_135 := bnl BK134 hg; have NB135_134 := bng BK134 hg; replace BK133 := bkb BK133 hb; replace BK134 := bkb BK134 hb; replace HB := bsq w hb; clear hb hbox hg))
 have n0_ := Sd.mk (blk_drew BK133.out)
 have n1_ := Sd.mk (blk_drew BK134.out)
 have n2_ := Sd.mk (blk_drew BK135.out)
 have n3_ := Sd.mk (bd1 HB.out)
 clear BK133 BK134 BK135 HB
 have BK133 := n0_
 have BK134 := n1_
 have BK135 := n2_
 have HB := n3_
 clear n0_ n1_ n2_ n3_
 refine start_ (n := 6) (S := fun w' => w'.cell? ⟨gb133, 0, none⟩ = some (.int .i64 a0_0) ∧ w'.cell? ⟨gb133, 1, none⟩ = some (.int .i64 a0_1) ∧ w'.cell? ⟨gb134, 0, none⟩ = some (.int .i64 a1_0) ∧ w'.cell? ⟨gb134, 1, none⟩ = some (.int .i64 a1_1)) (ds := []) #[false, false, false, false, false, false] (by kernel_rfl) rfl rfl ⟨(blk_cell BK133.out 0).trans rfl, (blk_cell BK133.out 1).trans rfl, (blk_cell BK134.out 0).trans rfl, (blk_cell BK134.out 1).trans rfl⟩ (fun hHeld => ?_)
 generalize w8.drew = w9 at BK133 BK134 BK135 HB hHeld ⊢
 refine take_ (i := 0) (N := some 10) (v := ?_) (a' := ?_) #[true, false, false, false, false, false] rfl rfl (by kernel_rfl) (fun _ _ _ h => h) (Or.inl ⟨by rfl, ?_⟩) hHeld ?_ ?_
 rotate_left
 ·rintro w' ⟨s0, s1, s2, s3⟩
  go_simp
  with_reducible rfl
 rotate_left
 ·simp only [Act.put, List.setIfInBounds_toArray, List.set_cons_zero, List.set_cons_succ, i64_w, i32_w]
  rfl
 refine take_ (i := 2) (N := some 12) (v := ?_) (a' := ?_) #[true, false, true, false, false, false] rfl rfl (by kernel_rfl) (fun _ _ _ h => h) (Or.inl ⟨by rfl, ?_⟩) hHeld ?_ ?_
 rotate_left
 ·rintro w' ⟨s0, s1, s2, s3⟩
  go_simp
  with_reducible rfl
 rotate_left
 ·simp only [Act.put, List.setIfInBounds_toArray, List.set_cons_zero, List.set_cons_succ, i64_w, i32_w]
  rfl
 refine one_ (i := 1) (N := some 11) #[true, true, true, false, false, false] rfl rfl (by kernel_rfl) (by decide) (fun K hK => ?_)
 refine goes_ Tryz.func161 (by kernel_rfl) rfl #[.agg #[.int .i64 a0_0, .int .i64 a0_1]] (by rfl) rfl rfl ma ?_
 with_reducible refine (v_sign.calls a0_0 a0_1 t136 _ A3.out).mono ?_
 rintro e w10 ⟨rfl, hb⟩
 refine ⟨_, rfl, ?_⟩
 have n0_ := bkb BK133 hb
 have n1_ := bkb BK134 hb
 have n2_ := bkb BK135 hb
 have n3_ := bsq w hb
 clear BK133 BK134 BK135 HB
 have BK133 := n0_
 have BK134 := n1_
 have BK135 := n2_
 have HB := n3_
 clear n0_ n1_ n2_ n3_
 (try clear hb)
 (try clear hb2)
 (try clear hk)
 (try clear hi)
 refine hK.out _ _ ⟨(blk_cell BK133.out 0).trans rfl, (blk_cell BK133.out 1).trans rfl, (blk_cell BK134.out 0).trans rfl, (blk_cell BK134.out 1).trans rfl⟩ (fun hHeld => ?_)
 clear hK K
 refine norm_ (a' := ?_) ?_ ?_
 rotate_left
 ·show Act.put _ (some 11) _ = _
  simp only [Act.put, List.setIfInBounds_toArray, List.set_cons_zero, List.set_cons_succ, i64_w, i32_w]
  rfl
 refine one_ (i := 3) (N := some 13) #[true, true, true, true, false, false] rfl rfl (by kernel_rfl) (by decide) (fun K hK => ?_)
 refine goes_ Tryz.func161 (by kernel_rfl) rfl #[.agg #[.int .i64 a1_0, .int .i64 a1_1]] (by rfl) rfl rfl ma ?_
 with_reducible refine (v_sign.calls a1_0 a1_1 t137 _ A4.out).mono ?_
 rintro e w11 ⟨rfl, hb⟩
 refine ⟨_, rfl, ?_⟩
 have n0_ := bkb BK133 hb
 have n1_ := bkb BK134 hb
 have n2_ := bkb BK135 hb
 have n3_ := bsq w hb
 clear BK133 BK134 BK135 HB
 have BK133 := n0_
 have BK134 := n1_
 have BK135 := n2_
 have HB := n3_
 clear n0_ n1_ n2_ n3_
 (try clear hb)
 (try clear hb2)
 (try clear hk)
 (try clear hi)
 refine hK.out _ _ ⟨(blk_cell BK133.out 0).trans rfl, (blk_cell BK133.out 1).trans rfl, (blk_cell BK134.out 0).trans rfl, (blk_cell BK134.out 1).trans rfl⟩ (fun hHeld => ?_)
 clear hK K
 refine norm_ (a' := ?_) ?_ ?_
 rotate_left
 ·show Act.put _ (some 13) _ = _
  simp only [Act.put, List.setIfInBounds_toArray, List.set_cons_zero, List.set_cons_succ, i64_w, i32_w]
  rfl
 refine pure_ (i := 4) (N := some 14) (v := ?_) (a' := ?_) #[true, true, true, true, true, false] rfl rfl (by kernel_rfl) (fun _ _ _ h => h) (Or.inl ⟨by rfl, ?_⟩) ?_ ?_
 rotate_left
 ·intro w'
  go_simp
  with_reducible rfl
 rotate_left
 ·simp only [Act.put, List.setIfInBounds_toArray, List.set_cons_zero, List.set_cons_succ, i64_w, i32_w]
  rfl
 refine pure_ (i := 5) (N := some 5) (v := ?_) (a' := ?_) #[true, true, true, true, true, true] rfl rfl (by kernel_rfl) (fun _ _ _ h => h) (Or.inl ⟨by rfl, ?_⟩) ?_ ?_
 rotate_left
 ·intro w'
  go_simp
  with_reducible rfl
 rotate_left
 ·simp only [Act.put, List.setIfInBounds_toArray, List.set_cons_zero, List.set_cons_succ, i64_w, i32_w]
  rfl
 refine done_ (by kernel_rfl) ?_
 go_upto_region 2 with (fail)
 go_cut [22] (fun v22 wc => ∃ (kq : Nat) (x22_4 : Bool), v22 = .bool x22_4 ∧ Sd (v_mul.j0 kq (wrap64 (t136 * t137)) x22_4 a0_0 a0_1 a1_0 a1_1 = some (r1, r2)) ∧ Sd (kq ≤ k) ∧ Sd (wc.heap[gb133]? = some (.cells #[.int .i64 a0_0, .int .i64 a0_1] 25 (0, 0))) ∧ Sd (wc.heap[gb134]? = some (.cells #[.int .i64 a1_0, .int .i64 a1_1] 25 (0, 0))) ∧ Sd (wc.heap[gb135]? = some (.cells #[.int .i64 0, .int .i64 0] 25 (0, 0))) ∧ Sd (Below w.heap.size w wc))
 case first =>
  have H := HC5.out
  clear HC5
  obtain ⟨t138, A12, H⟩ := bnd H
  by_cases c13 : t138 = true
  ·subst c13
   replace H := iT H
   obtain ⟨t139, A14, H⟩ := bnd H
   have H' := Sd.mk H
   clear H
   have hnb15 := NB133_134.out
   have hnc15 := NB134_133.out
   have hnb16 := NB133_135.out
   have hnc16 := NB135_133.out
   obtain ⟨hcz17_0, hcz17_1, hfz17_0, hfz17_1⟩ := bz BK133
   go_wp2_with (first | ((with_reducible refine gate_callee (f := 122) rfl ?_); refine goesL_ (some 16) rfl rfl Tryz.func122 (by kernel_rfl) rfl #[.agg #[.int .i64 a0_0, .int .i64 a0_1]] rfl ma ?_; (with_reducible refine (v_finite.calls a0_0 a0_1 true _ A12.out).mono ?_); rintro e w18 ⟨rfl, hb⟩; refine ⟨_, rfl, ?_⟩; replace BK133 := bkb BK133 hb; replace BK134 := bkb BK134 hb; replace BK135 := bkb BK135 hb; replace HB := bsq w hb; (try clear hb); have hnb19 := NB134_135.out; have hnc19 := NB135_134.out; have hcz20_0 := bz0 BK134; have hcz20_1 := bz1 BK134; have hfz20_0 := blk_frozen BK134.out 0; have hfz20_1 := blk_frozen BK134.out 1) | (go_at_call 122; (with_reducible refine (v_finite.calls a1_0 a1_1 t139 _ A14.out).mono ?_); rintro e w21 ⟨rfl, hb⟩; replace BK133 := bkb BK133 hb; replace BK134 := bkb BK134 hb; replace BK135 := bkb BK135 hb; replace HB := bsq w hb; (try clear hb)))
   go_meet
   case rel => exact ⟨_, (!t139), ae, H', ⟨by first | omega | exact Nat.le_refl _⟩, fwK BK133, fwK BK134, fwK BK135, ⟨bbl⟩⟩
  ·replace c13 := Bool.eq_false_iff.mpr c13
   subst c13
   replace H := iF H
   have H' := Sd.mk H
   clear H
   have hnb22 := NB133_134.out
   have hnc22 := NB134_133.out
   have hnb23 := NB133_135.out
   have hnc23 := NB135_133.out
   obtain ⟨hcz24_0, hcz24_1, hfz24_0, hfz24_1⟩ := bz BK133
   go_wp2_with (first | ((with_reducible refine gate_callee (f := 122) rfl ?_); refine goesL_ (some 16) rfl rfl Tryz.func122 (by kernel_rfl) rfl #[.agg #[.int .i64 a0_0, .int .i64 a0_1]] rfl ma ?_; (with_reducible refine (v_finite.calls a0_0 a0_1 false _ A12.out).mono ?_); rintro e w25 ⟨rfl, hb⟩; refine ⟨_, rfl, ?_⟩; replace BK133 := bkb BK133 hb; replace BK134 := bkb BK134 hb; replace BK135 := bkb BK135 hb; replace HB := bsq w hb; (try clear hb)))
   go_meet
   case rel => exact ⟨_, (true), ae, H', ⟨by first | omega | exact Nat.le_refl _⟩, fwK BK133, fwK BK134, fwK BK135, ⟨bbl⟩⟩
 case rest =>
  clear HC5
  obtain ⟨kq, x22_4, rfl, HA, HJ4, BK133, BK134, BK135, HB⟩ := hcut
  cases kq with
  | zero => exact absurd HA.out (by simp [v_mul.j0])
  | succ kj4 =>
   have H := HA.out
   clear HA
   simp only [v_mul.j0] at H
   by_cases c26 : x22_4 = true
   ·subst c26
    replace H := iT H
    obtain ⟨⟨t140, t141⟩, A27, H⟩ := bnd H
    replace H : (some (t140, t141)) = some (r1, r2) := H
    simp only [Option.some.injEq, Prod.mk.injEq] at H
    obtain ⟨rfl, rfl⟩ := H
    go_wp2_with (first | ((with_reducible refine gate_callee (f := 162) rfl ?_); refine goesL_ (some 24) rfl rfl Tryz.func162 (by kernel_rfl) rfl #[.int .i64 (wrap64 (t136 * t137))] rfl ma ?_; (with_reducible refine (v_infinite.calls (wrap64 (t136 * t137)) t140 t141 _ A27.out).mono ?_); rintro e w28 ⟨rfl, hb⟩; refine ⟨_, rfl, ?_⟩; replace BK133 := bkb BK133 hb; replace BK134 := bkb BK134 hb; replace BK135 := bkb BK135 hb; replace HB := bsq w hb; (try clear hb); have hnb29 := NB135_133.out; have hnc29 := NB133_135.out; have hnb30 := NB135_134.out; have hnc30 := NB134_135.out; have hcz31_0 := bz0 BK135; have hcz31_1 := bz1 BK135; have hfz31_0 := blk_frozen BK135.out 0; have hfz31_1 := blk_frozen BK135.out 1))
    refine bodyPost_ret (results_cell_row rfl _ _ gb135 25 #[.int .i64 t140, .int .i64 t141] (0, 0) _ rfl (by (repeat refine dw ?_); refine blk_put (cs := #[.int .i64 t140, .int .i64 0]) ?_ 1 _ rfl; (repeat refine dw ?_); refine blk_put (cs := #[.int .i64 0, .int .i64 0]) ?_ 0 _ rfl; (repeat refine dw ?_); exact BK135.out) Tryz.underlying25 rfl (by kernel_rfl)) rfl ?_
    exact ⟨fe, bbl⟩
   ·replace c26 := Bool.eq_false_iff.mpr c26
    subst c26
    replace H := iF H
    obtain ⟨t142, A32, H⟩ := bnd H
    obtain ⟨t143, A33, H⟩ := bnd H
    obtain ⟨⟨t144, t145⟩, A34, H⟩ := bnd H
    replace H : (if t144 ≥ 1000 then ((v_infinite.f (wrap64 (t136 * t137))).bind fun bt146 => (some (bt146.1, bt146.2))) else ((bits_Div64.f t144 t145 1000).bind fun bt148 => (if bt148.1 > 1000000000000000 then ((v_infinite.f (wrap64 (t136 * t137))).bind fun bt150 => (some (bt150.1, bt150.2))) else ((v_Num.f (wrap64 ((wrap64 (t136 * t137)) * (wrap64 (bt148.1))))).bind fun bt152 => (some (bt152.1, bt152.2)))))) = some (r1, r2) := H
    by_cases c35 : t144 ≥ 1000
    ·rw [if_pos c35] at H
     have c35b0 : decide (1000 ≤ t144) = true := decide_eq_true c35
     clear c35
     obtain ⟨⟨t146, t147⟩, A36, H⟩ := bnd H
     replace H : (some (t146, t147)) = some (r1, r2) := H
     simp only [Option.some.injEq, Prod.mk.injEq] at H
     obtain ⟨rfl, rfl⟩ := H
     try go_wp2
     have n0_ := Sd.mk (blk_drew BK133.out)
     have n1_ := Sd.mk (blk_drew BK134.out)
     have n2_ := Sd.mk (blk_drew BK135.out)
     have n3_ := Sd.mk (bd1 HB.out)
     clear BK133 BK134 BK135 HB
     have BK133 := n0_
     have BK134 := n1_
     have BK135 := n2_
     have HB := n3_
     clear n0_ n1_ n2_ n3_
     refine start_ (n := 18) (S := fun w' => w'.cell? ⟨gb133, 0, none⟩ = some (.int .i64 a0_0) ∧ w'.cell? ⟨gb133, 1, none⟩ = some (.int .i64 a0_1) ∧ w'.cell? ⟨gb134, 0, none⟩ = some (.int .i64 a1_0) ∧ w'.cell? ⟨gb134, 1, none⟩ = some (.int .i64 a1_1)) (ds := []) #[false, false, false, false, false, false, false, false, false, false, false, false, false, false, false, false, false, false] (by kernel_rfl) rfl rfl ⟨(blk_cell BK133.out 0).trans rfl, (blk_cell BK133.out 1).trans rfl, (blk_cell BK134.out 0).trans rfl, (blk_cell BK134.out 1).trans rfl⟩ (fun hHeld => ?_); refine with_tabW v_mul.tab4 v_mul.bits4 (fun HT_ HW_ => ?_)
     generalize wc.drew = w37 at BK133 BK134 BK135 HB hHeld ⊢
     refine pure_ (i := 0) (N := some 26) (v := ?_) (a' := ?_) #[true, false, false, false, false, false, false, false, false, false, false, false, false, false, false, false, false, false] rfl rfl (any_of HT_.out (by kernel_rfl)) (fun _ _ _ h => h) (Or.inl ⟨by rfl, ?_⟩) ?_ ?_
     rotate_left
     ·intro w'
      go_simp
      with_reducible rfl
     rotate_left
     ·simp only [Act.put, List.setIfInBounds_toArray, List.set_cons_zero, List.set_cons_succ, i64_w, i32_w]
      rfl
     refine pure_ (i := 6) (N := some 32) (v := ?_) (a' := ?_) #[true, false, false, false, false, false, true, false, false, false, false, false, false, false, false, false, false, false] rfl rfl (any_of HT_.out (by kernel_rfl)) (fun _ _ _ h => h) (Or.inl ⟨by rfl, ?_⟩) ?_ ?_
     rotate_left
     ·intro w'
      go_simp
      with_reducible rfl
     rotate_left
     ·simp only [Act.put, List.setIfInBounds_toArray, List.set_cons_zero, List.set_cons_succ, i64_w, i32_w]
      rfl
     refine take_ (i := 1) (N := some 27) (v := ?_) (a' := ?_) #[true, true, false, false, false, false, true, false, false, false, false, false, false, false, false, false, false, false] rfl rfl (take_ofW HT_.out HW_.out (by kernel_rfl)) (fun _ _ _ h => h) (Or.inl ⟨by rfl, ?_⟩) hHeld ?_ ?_
     rotate_left
     ·rintro w' ⟨s0, s1, s2, s3⟩
      go_simp
      with_reducible rfl
     rotate_left
     ·simp only [Act.put, List.setIfInBounds_toArray, List.set_cons_zero, List.set_cons_succ, i64_w, i32_w]
      rfl
     refine take_ (i := 2) (N := some 28) (v := ?_) (a' := ?_) #[true, true, true, false, false, false, true, false, false, false, false, false, false, false, false, false, false, false] rfl rfl (take_ofW HT_.out HW_.out (by kernel_rfl)) (fun _ _ _ h => h) (Or.inl ⟨by rfl, ?_⟩) hHeld ?_ ?_
     rotate_left
     ·rintro w' ⟨s0, s1, s2, s3⟩
      go_simp
      with_reducible rfl
     rotate_left
     ·simp only [Act.put, List.setIfInBounds_toArray, List.set_cons_zero, List.set_cons_succ, i64_w, i32_w]
      rfl
     refine take_ (i := 7) (N := some 33) (v := ?_) (a' := ?_) #[true, true, true, false, false, false, true, true, false, false, false, false, false, false, false, false, false, false] rfl rfl (take_ofW HT_.out HW_.out (by kernel_rfl)) (fun _ _ _ h => h) (Or.inl ⟨by rfl, ?_⟩) hHeld ?_ ?_
     rotate_left
     ·rintro w' ⟨s0, s1, s2, s3⟩
      go_simp
      with_reducible rfl
     rotate_left
     ·simp only [Act.put, List.setIfInBounds_toArray, List.set_cons_zero, List.set_cons_succ, i64_w, i32_w]
      rfl
     refine take_ (i := 8) (N := some 34) (v := ?_) (a' := ?_) #[true, true, true, false, false, false, true, true, true, false, false, false, false, false, false, false, false, false] rfl rfl (take_ofW HT_.out HW_.out (by kernel_rfl)) (fun _ _ _ h => h) (Or.inl ⟨by rfl, ?_⟩) hHeld ?_ ?_
     rotate_left
     ·rintro w' ⟨s0, s1, s2, s3⟩
      go_simp
      with_reducible rfl
     rotate_left
     ·simp only [Act.put, List.setIfInBounds_toArray, List.set_cons_zero, List.set_cons_succ, i64_w, i32_w]
      rfl
     refine one_ (i := 3) (N := some 29) #[true, true, true, true, false, false, true, true, true, false, false, false, false, false, false, false, false, false] rfl rfl (one_of HT_.out (by kernel_rfl)) (by decide) (fun K hK => ?_)
     refine goes_ Tryz.func161 (by kernel_rfl) rfl #[.agg #[.int .i64 a0_0, .int .i64 a0_1]] (by rfl) rfl rfl ma ?_
     with_reducible refine (v_sign.calls a0_0 a0_1 t142 _ A32.out).mono ?_
     rintro e w38 ⟨rfl, hb⟩
     refine ⟨_, rfl, ?_⟩
     have n0_ := bkb BK133 hb
     have n1_ := bkb BK134 hb
     have n2_ := bkb BK135 hb
     have n3_ := bsq w hb
     clear BK133 BK134 BK135 HB
     have BK133 := n0_
     have BK134 := n1_
     have BK135 := n2_
     have HB := n3_
     clear n0_ n1_ n2_ n3_
     (try clear hb)
     (try clear hb2)
     (try clear hk)
     (try clear hi)
     refine hK.out _ _ ⟨(blk_cell BK133.out 0).trans rfl, (blk_cell BK133.out 1).trans rfl, (blk_cell BK134.out 0).trans rfl, (blk_cell BK134.out 1).trans rfl⟩ (fun hHeld => ?_)
     clear hK K
     refine norm_ (a' := ?_) ?_ ?_
     rotate_left
     ·show Act.put _ (some 29) _ = _
      simp only [Act.put, List.setIfInBounds_toArray, List.set_cons_zero, List.set_cons_succ, i64_w, i32_w]
      rfl
     refine pure_ (i := 4) (N := some 30) (v := ?_) (a' := ?_) #[true, true, true, true, true, false, true, true, true, false, false, false, false, false, false, false, false, false] rfl rfl (any_of HT_.out (by kernel_rfl)) (fun _ _ _ h => h) (Or.inl ⟨by rfl, ?_⟩) ?_ ?_
     rotate_left
     ·intro w'
      go_simp
      with_reducible rfl
     rotate_left
     ·simp only [Act.put, List.setIfInBounds_toArray, List.set_cons_zero, List.set_cons_succ, i64_w, i32_w]
      rfl
     refine pure_ (i := 5) (N := some 31) (v := ?_) (a' := ?_) #[true, true, true, true, true, true, true, true, true, false, false, false, false, false, false, false, false, false] rfl rfl (any_of HT_.out (by kernel_rfl)) (fun _ _ _ h => h) (Or.inl ⟨by rfl, ?_⟩) ?_ ?_
     rotate_left
     ·intro w'
      go_simp
      with_reducible rfl
     rotate_left
     ·simp only [Act.put, List.setIfInBounds_toArray, List.set_cons_zero, List.set_cons_succ, i64_w, i32_w]
      rfl
     refine one_ (i := 9) (N := some 35) #[true, true, true, true, true, true, true, true, true, true, false, false, false, false, false, false, false, false] rfl rfl (one_of HT_.out (by kernel_rfl)) (by decide) (fun K hK => ?_)
     refine goes_ Tryz.func161 (by kernel_rfl) rfl #[.agg #[.int .i64 a1_0, .int .i64 a1_1]] (by rfl) rfl rfl ma ?_
     with_reducible refine (v_sign.calls a1_0 a1_1 t143 _ A33.out).mono ?_
     rintro e w39 ⟨rfl, hb⟩
     refine ⟨_, rfl, ?_⟩
     have n0_ := bkb BK133 hb
     have n1_ := bkb BK134 hb
     have n2_ := bkb BK135 hb
     have n3_ := bsq w hb
     clear BK133 BK134 BK135 HB
     have BK133 := n0_
     have BK134 := n1_
     have BK135 := n2_
     have HB := n3_
     clear n0_ n1_ n2_ n3_
     (try clear hb)
     (try clear hb2)
     (try clear hk)
     (try clear hi)
     refine hK.out _ _ ⟨(blk_cell BK133.out 0).trans rfl, (blk_cell BK133.out 1).trans rfl, (blk_cell BK134.out 0).trans rfl, (blk_cell BK134.out 1).trans rfl⟩ (fun hHeld => ?_)
     clear hK K
     refine norm_ (a' := ?_) ?_ ?_
     rotate_left
     ·show Act.put _ (some 35) _ = _
      simp only [Act.put, List.setIfInBounds_toArray, List.set_cons_zero, List.set_cons_succ, i64_w, i32_w]
      rfl
     refine pure_ (i := 10) (N := some 36) (v := ?_) (a' := ?_) #[true, true, true, true, true, true, true, true, true, true, true, false, false, false, false, false, false, false] rfl rfl (any_of HT_.out (by kernel_rfl)) (fun _ _ _ h => h) (Or.inl ⟨by rfl, ?_⟩) ?_ ?_
     rotate_left
     ·intro w'
      go_simp
      with_reducible rfl
     rotate_left
     ·simp only [Act.put, List.setIfInBounds_toArray, List.set_cons_zero, List.set_cons_succ, i64_w, i32_w]
      rfl
     refine pure_ (i := 11) (N := some 37) (v := ?_) (a' := ?_) #[true, true, true, true, true, true, true, true, true, true, true, true, false, false, false, false, false, false] rfl rfl (any_of HT_.out (by kernel_rfl)) (fun _ _ _ h => h) (Or.inl ⟨by rfl, ?_⟩) ?_ ?_
     rotate_left
     ·intro w'
      go_simp
      with_reducible rfl
     rotate_left
     ·simp only [Act.put, List.setIfInBounds_toArray, List.set_cons_zero, List.set_cons_succ, i64_w, i32_w]
      rfl
     refine one_ (i := 12) (N := some 38) #[true, true, true, true, true, true, true, true, true, true, true, true, true, false, false, false, false, false] rfl rfl (one_of HT_.out (by kernel_rfl)) (by decide) (fun K hK => ?_)
     refine goes_ Tryz.func163 (by kernel_rfl) rfl #[.int .u64 (IntKind.u64.wrap (wrap64 (a0_1 * t142))), .int .u64 (IntKind.u64.wrap (wrap64 (a1_1 * t143)))] (by rfl) rfl rfl ma ?_
     with_reducible refine (bits_Mul64.calls (IntKind.u64.wrap (wrap64 (a0_1 * t142))) (IntKind.u64.wrap (wrap64 (a1_1 * t143))) t144 t145 _ A34.out).mono ?_
     rintro e w' ⟨rfl, ⟨nd, rfl⟩⟩
     refine ⟨_, rfl, ?_⟩
     refine hK.out _ _ ⟨(blk_cell BK133.out 0).trans rfl, (blk_cell BK133.out 1).trans rfl, (blk_cell BK134.out 0).trans rfl, (blk_cell BK134.out 1).trans rfl⟩ (fun hHeld => ?_)
     clear hK K
     refine norm_ (a' := ?_) ?_ ?_
     rotate_left
     ·show Act.put _ (some 38) _ = _
      simp only [Act.put, List.setIfInBounds_toArray, List.set_cons_zero, List.set_cons_succ, i64_w, i32_w]
      rfl
     refine pure_ (i := 13) (N := some 25) (v := ?_) (a' := ?_) #[true, true, true, true, true, true, true, true, true, true, true, true, true, true, false, false, false, false] rfl rfl (any_of HT_.out (by kernel_rfl)) (fun _ _ _ h => h) (Or.inl ⟨by rfl, ?_⟩) ?_ ?_
     rotate_left
     ·intro w'
      go_simp
      with_reducible rfl
     rotate_left
     ·simp only [Act.put, List.setIfInBounds_toArray, List.set_cons_zero, List.set_cons_succ, i64_w, i32_w]
      rfl
     refine pure_ (i := 14) (N := some 39) (v := ?_) (a' := ?_) #[true, true, true, true, true, true, true, true, true, true, true, true, true, true, true, false, false, false] rfl rfl (any_of HT_.out (by kernel_rfl)) (fun _ _ _ h => h) (Or.inl ⟨by rfl, ?_⟩) ?_ ?_
     rotate_left
     ·intro w'
      go_simp
      with_reducible rfl
     rotate_left
     ·simp only [Act.put, List.setIfInBounds_toArray, List.set_cons_zero, List.set_cons_succ, i64_w, i32_w]
      rfl
     refine pure_ (i := 15) (N := some 40) (v := ?_) (a' := ?_) #[true, true, true, true, true, true, true, true, true, true, true, true, true, true, true, true, false, false] rfl rfl (any_of HT_.out (by kernel_rfl)) (fun _ _ _ h => h) (Or.inl ⟨by rfl, ?_⟩) ?_ ?_
     rotate_left
     ·intro w'
      go_simp
      with_reducible rfl
     rotate_left
     ·simp only [Act.put, List.setIfInBounds_toArray, List.set_cons_zero, List.set_cons_succ, i64_w, i32_w]
      rfl
     refine pure_ (i := 16) (N := some 6) (v := ?_) (a' := ?_) #[true, true, true, true, true, true, true, true, true, true, true, true, true, true, true, true, true, false] rfl rfl (any_of HT_.out (by kernel_rfl)) (fun _ _ _ h => h) (Or.inl ⟨by rfl, ?_⟩) ?_ ?_
     rotate_left
     ·intro w'
      go_simp
      with_reducible rfl
     rotate_left
     ·simp only [Act.put, List.setIfInBounds_toArray, List.set_cons_zero, List.set_cons_succ, i64_w, i32_w]
      rfl
     refine pure_ (i := 17) (N := some 7) (v := ?_) (a' := ?_) #[true, true, true, true, true, true, true, true, true, true, true, true, true, true, true, true, true, true] rfl rfl (any_of HT_.out (by kernel_rfl)) (fun _ _ _ h => h) (Or.inl ⟨by rfl, ?_⟩) ?_ ?_
     rotate_left
     ·intro w'
      go_simp
      with_reducible rfl
     rotate_left
     ·simp only [Act.put, List.setIfInBounds_toArray, List.set_cons_zero, List.set_cons_succ, i64_w, i32_w]
      rfl
     refine done_ (done_of HT_.out (by kernel_rfl)) ?_
     try go_wp2_with (first | ((with_reducible refine gate_callee (f := 162) rfl ?_); refine goesL_ (some 44) rfl rfl Tryz.func162 (by kernel_rfl) rfl #[.int .i64 (wrap64 (t136 * t137))] rfl ma ?_; (with_reducible refine (v_infinite.calls (wrap64 (t136 * t137)) t146 t147 _ A36.out).mono ?_); rintro e w40 ⟨rfl, hb⟩; refine ⟨_, rfl, ?_⟩; replace BK133 := bkb BK133 hb; replace BK134 := bkb BK134 hb; replace BK135 := bkb BK135 hb; replace HB := bsq w hb; (try clear hb); have hnb41 := NB135_133.out; have hnc41 := NB133_135.out; have hnb42 := NB135_134.out; have hnc42 := NB134_135.out; have hcz43_0 := bz0 BK135; have hcz43_1 := bz1 BK135; have hfz43_0 := blk_frozen BK135.out 0; have hfz43_1 := blk_frozen BK135.out 1))
     refine bodyPost_ret (results_cell_row rfl _ _ gb135 25 #[.int .i64 t146, .int .i64 t147] (0, 0) _ rfl (by (repeat refine dw ?_); refine blk_put (cs := #[.int .i64 t146, .int .i64 0]) ?_ 1 _ rfl; (repeat refine dw ?_); refine blk_put (cs := #[.int .i64 0, .int .i64 0]) ?_ 0 _ rfl; (repeat refine dw ?_); exact BK135.out) Tryz.underlying25 rfl (by kernel_rfl)) rfl ?_
     exact ⟨fe, bbl⟩
    ·rw [if_neg c35] at H
     have c35b0 : decide (1000 ≤ t144) = false := decide_eq_false c35
     clear c35
     obtain ⟨⟨t148, t149⟩, A44, H⟩ := bnd H
     replace H : (if t148 > 1000000000000000 then ((v_infinite.f (wrap64 (t136 * t137))).bind fun bt150 => (some (bt150.1, bt150.2))) else ((v_Num.f (wrap64 ((wrap64 (t136 * t137)) * (wrap64 (t148))))).bind fun bt152 => (some (bt152.1, bt152.2)))) = some (r1, r2) := H
     by_cases c45 : t148 > 1000000000000000
     ·rw [if_pos c45] at H
      have c45b0 : decide (1000000000000000 < t148) = true := decide_eq_true c45
      clear c45
      obtain ⟨⟨t150, t151⟩, A46, H⟩ := bnd H
      replace H : (some (t150, t151)) = some (r1, r2) := H
      simp only [Option.some.injEq, Prod.mk.injEq] at H
      obtain ⟨rfl, rfl⟩ := H
      try go_wp2
      have n0_ := Sd.mk (blk_drew BK133.out)
      have n1_ := Sd.mk (blk_drew BK134.out)
      have n2_ := Sd.mk (blk_drew BK135.out)
      have n3_ := Sd.mk (bd1 HB.out)
      clear BK133 BK134 BK135 HB
      have BK133 := n0_
      have BK134 := n1_
      have BK135 := n2_
      have HB := n3_
      clear n0_ n1_ n2_ n3_
      refine start_ (n := 18) (S := fun w' => w'.cell? ⟨gb133, 0, none⟩ = some (.int .i64 a0_0) ∧ w'.cell? ⟨gb133, 1, none⟩ = some (.int .i64 a0_1) ∧ w'.cell? ⟨gb134, 0, none⟩ = some (.int .i64 a1_0) ∧ w'.cell? ⟨gb134, 1, none⟩ = some (.int .i64 a1_1)) (ds := []) #[false, false, false, false, false, false, false, false, false, false, false, false, false, false, false, false, false, false] (by kernel_rfl) rfl rfl ⟨(blk_cell BK133.out 0).trans rfl, (blk_cell BK133.out 1).trans rfl, (blk_cell BK134.out 0).trans rfl, (blk_cell BK134.out 1).trans rfl⟩ (fun hHeld => ?_); refine with_tabW v_mul.tab4 v_mul.bits4 (fun HT_ HW_ => ?_)
      generalize wc.drew = w47 at BK133 BK134 BK135 HB hHeld ⊢
      refine pure_ (i := 0) (N := some 26) (v := ?_) (a' := ?_) #[true, false, false, false, false, false, false, false, false, false, false, false, false, false, false, false, false, false] rfl rfl (any_of HT_.out (by kernel_rfl)) (fun _ _ _ h => h) (Or.inl ⟨by rfl, ?_⟩) ?_ ?_
      rotate_left
      ·intro w'
       go_simp
       with_reducible rfl
      rotate_left
      ·simp only [Act.put, List.setIfInBounds_toArray, List.set_cons_zero, List.set_cons_succ, i64_w, i32_w]
       rfl
      refine pure_ (i := 6) (N := some 32) (v := ?_) (a' := ?_) #[true, false, false, false, false, false, true, false, false, false, false, false, false, false, false, false, false, false] rfl rfl (any_of HT_.out (by kernel_rfl)) (fun _ _ _ h => h) (Or.inl ⟨by rfl, ?_⟩) ?_ ?_
      rotate_left
      ·intro w'
       go_simp
       with_reducible rfl
      rotate_left
      ·simp only [Act.put, List.setIfInBounds_toArray, List.set_cons_zero, List.set_cons_succ, i64_w, i32_w]
       rfl
      refine take_ (i := 1) (N := some 27) (v := ?_) (a' := ?_) #[true, true, false, false, false, false, true, false, false, false, false, false, false, false, false, false, false, false] rfl rfl (take_ofW HT_.out HW_.out (by kernel_rfl)) (fun _ _ _ h => h) (Or.inl ⟨by rfl, ?_⟩) hHeld ?_ ?_
      rotate_left
      ·rintro w' ⟨s0, s1, s2, s3⟩
       go_simp
       with_reducible rfl
      rotate_left
      ·simp only [Act.put, List.setIfInBounds_toArray, List.set_cons_zero, List.set_cons_succ, i64_w, i32_w]
       rfl
      refine take_ (i := 2) (N := some 28) (v := ?_) (a' := ?_) #[true, true, true, false, false, false, true, false, false, false, false, false, false, false, false, false, false, false] rfl rfl (take_ofW HT_.out HW_.out (by kernel_rfl)) (fun _ _ _ h => h) (Or.inl ⟨by rfl, ?_⟩) hHeld ?_ ?_
      rotate_left
      ·rintro w' ⟨s0, s1, s2, s3⟩
       go_simp
       with_reducible rfl
      rotate_left
      ·simp only [Act.put, List.setIfInBounds_toArray, List.set_cons_zero, List.set_cons_succ, i64_w, i32_w]
       rfl
      refine take_ (i := 7) (N := some 33) (v := ?_) (a' := ?_) #[true, true, true, false, false, false, true, true, false, false, false, false, false, false, false, false, false, false] rfl rfl (take_ofW HT_.out HW_.out (by kernel_rfl)) (fun _ _ _ h => h) (Or.inl ⟨by rfl, ?_⟩) hHeld ?_ ?_
      rotate_left
      ·rintro w' ⟨s0, s1, s2, s3⟩
       go_simp
       with_reducible rfl
      rotate_left
      ·simp only [Act.put, List.setIfInBounds_toArray, List.set_cons_zero, List.set_cons_succ, i64_w, i32_w]
       rfl
      refine take_ (i := 8) (N := some 34) (v := ?_) (a' := ?_) #[true, true, true, false, false, false, true, true, true, false, false, false, false, false, false, false, false, false] rfl rfl (take_ofW HT_.out HW_.out (by kernel_rfl)) (fun _ _ _ h => h) (Or.inl ⟨by rfl, ?_⟩) hHeld ?_ ?_
      rotate_left
      ·rintro w' ⟨s0, s1, s2, s3⟩
       go_simp
       with_reducible rfl
      rotate_left
      ·simp only [Act.put, List.setIfInBounds_toArray, List.set_cons_zero, List.set_cons_succ, i64_w, i32_w]
       rfl
      refine one_ (i := 3) (N := some 29) #[true, true, true, true, false, false, true, true, true, false, false, false, false, false, false, false, false, false] rfl rfl (one_of HT_.out (by kernel_rfl)) (by decide) (fun K hK => ?_)
      refine goes_ Tryz.func161 (by kernel_rfl) rfl #[.agg #[.int .i64 a0_0, .int .i64 a0_1]] (by rfl) rfl rfl ma ?_
      with_reducible refine (v_sign.calls a0_0 a0_1 t142 _ A32.out).mono ?_
      rintro e w48 ⟨rfl, hb⟩
      refine ⟨_, rfl, ?_⟩
      have n0_ := bkb BK133 hb
      have n1_ := bkb BK134 hb
      have n2_ := bkb BK135 hb
      have n3_ := bsq w hb
      clear BK133 BK134 BK135 HB
      have BK133 := n0_
      have BK134 := n1_
      have BK135 := n2_
      have HB := n3_
      clear n0_ n1_ n2_ n3_
      (try clear hb)
      (try clear hb2)
      (try clear hk)
      (try clear hi)
      refine hK.out _ _ ⟨(blk_cell BK133.out 0).trans rfl, (blk_cell BK133.out 1).trans rfl, (blk_cell BK134.out 0).trans rfl, (blk_cell BK134.out 1).trans rfl⟩ (fun hHeld => ?_)
      clear hK K
      refine norm_ (a' := ?_) ?_ ?_
      rotate_left
      ·show Act.put _ (some 29) _ = _
       simp only [Act.put, List.setIfInBounds_toArray, List.set_cons_zero, List.set_cons_succ, i64_w, i32_w]
       rfl
      refine pure_ (i := 4) (N := some 30) (v := ?_) (a' := ?_) #[true, true, true, true, true, false, true, true, true, false, false, false, false, false, false, false, false, false] rfl rfl (any_of HT_.out (by kernel_rfl)) (fun _ _ _ h => h) (Or.inl ⟨by rfl, ?_⟩) ?_ ?_
      rotate_left
      ·intro w'
       go_simp
       with_reducible rfl
      rotate_left
      ·simp only [Act.put, List.setIfInBounds_toArray, List.set_cons_zero, List.set_cons_succ, i64_w, i32_w]
       rfl
      refine pure_ (i := 5) (N := some 31) (v := ?_) (a' := ?_) #[true, true, true, true, true, true, true, true, true, false, false, false, false, false, false, false, false, false] rfl rfl (any_of HT_.out (by kernel_rfl)) (fun _ _ _ h => h) (Or.inl ⟨by rfl, ?_⟩) ?_ ?_
      rotate_left
      ·intro w'
       go_simp
       with_reducible rfl
      rotate_left
      ·simp only [Act.put, List.setIfInBounds_toArray, List.set_cons_zero, List.set_cons_succ, i64_w, i32_w]
       rfl
      refine one_ (i := 9) (N := some 35) #[true, true, true, true, true, true, true, true, true, true, false, false, false, false, false, false, false, false] rfl rfl (one_of HT_.out (by kernel_rfl)) (by decide) (fun K hK => ?_)
      refine goes_ Tryz.func161 (by kernel_rfl) rfl #[.agg #[.int .i64 a1_0, .int .i64 a1_1]] (by rfl) rfl rfl ma ?_
      with_reducible refine (v_sign.calls a1_0 a1_1 t143 _ A33.out).mono ?_
      rintro e w49 ⟨rfl, hb⟩
      refine ⟨_, rfl, ?_⟩
      have n0_ := bkb BK133 hb
      have n1_ := bkb BK134 hb
      have n2_ := bkb BK135 hb
      have n3_ := bsq w hb
      clear BK133 BK134 BK135 HB
      have BK133 := n0_
      have BK134 := n1_
      have BK135 := n2_
      have HB := n3_
      clear n0_ n1_ n2_ n3_
      (try clear hb)
      (try clear hb2)
      (try clear hk)
      (try clear hi)
      refine hK.out _ _ ⟨(blk_cell BK133.out 0).trans rfl, (blk_cell BK133.out 1).trans rfl, (blk_cell BK134.out 0).trans rfl, (blk_cell BK134.out 1).trans rfl⟩ (fun hHeld => ?_)
      clear hK K
      refine norm_ (a' := ?_) ?_ ?_
      rotate_left
      ·show Act.put _ (some 35) _ = _
       simp only [Act.put, List.setIfInBounds_toArray, List.set_cons_zero, List.set_cons_succ, i64_w, i32_w]
       rfl
      refine pure_ (i := 10) (N := some 36) (v := ?_) (a' := ?_) #[true, true, true, true, true, true, true, true, true, true, true, false, false, false, false, false, false, false] rfl rfl (any_of HT_.out (by kernel_rfl)) (fun _ _ _ h => h) (Or.inl ⟨by rfl, ?_⟩) ?_ ?_
      rotate_left
      ·intro w'
       go_simp
       with_reducible rfl
      rotate_left
      ·simp only [Act.put, List.setIfInBounds_toArray, List.set_cons_zero, List.set_cons_succ, i64_w, i32_w]
       rfl
      refine pure_ (i := 11) (N := some 37) (v := ?_) (a' := ?_) #[true, true, true, true, true, true, true, true, true, true, true, true, false, false, false, false, false, false] rfl rfl (any_of HT_.out (by kernel_rfl)) (fun _ _ _ h => h) (Or.inl ⟨by rfl, ?_⟩) ?_ ?_
      rotate_left
      ·intro w'
       go_simp
       with_reducible rfl
      rotate_left
      ·simp only [Act.put, List.setIfInBounds_toArray, List.set_cons_zero, List.set_cons_succ, i64_w, i32_w]
       rfl
      refine one_ (i := 12) (N := some 38) #[true, true, true, true, true, true, true, true, true, true, true, true, true, false, false, false, false, false] rfl rfl (one_of HT_.out (by kernel_rfl)) (by decide) (fun K hK => ?_)
      refine goes_ Tryz.func163 (by kernel_rfl) rfl #[.int .u64 (IntKind.u64.wrap (wrap64 (a0_1 * t142))), .int .u64 (IntKind.u64.wrap (wrap64 (a1_1 * t143)))] (by rfl) rfl rfl ma ?_
      with_reducible refine (bits_Mul64.calls (IntKind.u64.wrap (wrap64 (a0_1 * t142))) (IntKind.u64.wrap (wrap64 (a1_1 * t143))) t144 t145 _ A34.out).mono ?_
      rintro e w' ⟨rfl, ⟨nd, rfl⟩⟩
      refine ⟨_, rfl, ?_⟩
      refine hK.out _ _ ⟨(blk_cell BK133.out 0).trans rfl, (blk_cell BK133.out 1).trans rfl, (blk_cell BK134.out 0).trans rfl, (blk_cell BK134.out 1).trans rfl⟩ (fun hHeld => ?_)
      clear hK K
      refine norm_ (a' := ?_) ?_ ?_
      rotate_left
      ·show Act.put _ (some 38) _ = _
       simp only [Act.put, List.setIfInBounds_toArray, List.set_cons_zero, List.set_cons_succ, i64_w, i32_w]
       rfl
      refine pure_ (i := 13) (N := some 25) (v := ?_) (a' := ?_) #[true, true, true, true, true, true, true, true, true, true, true, true, true, true, false, false, false, false] rfl rfl (any_of HT_.out (by kernel_rfl)) (fun _ _ _ h => h) (Or.inl ⟨by rfl, ?_⟩) ?_ ?_
      rotate_left
      ·intro w'
       go_simp
       with_reducible rfl
      rotate_left
      ·simp only [Act.put, List.setIfInBounds_toArray, List.set_cons_zero, List.set_cons_succ, i64_w, i32_w]
       rfl
      refine pure_ (i := 14) (N := some 39) (v := ?_) (a' := ?_) #[true, true, true, true, true, true, true, true, true, true, true, true, true, true, true, false, false, false] rfl rfl (any_of HT_.out (by kernel_rfl)) (fun _ _ _ h => h) (Or.inl ⟨by rfl, ?_⟩) ?_ ?_
      rotate_left
      ·intro w'
       go_simp
       with_reducible rfl
      rotate_left
      ·simp only [Act.put, List.setIfInBounds_toArray, List.set_cons_zero, List.set_cons_succ, i64_w, i32_w]
       rfl
      refine pure_ (i := 15) (N := some 40) (v := ?_) (a' := ?_) #[true, true, true, true, true, true, true, true, true, true, true, true, true, true, true, true, false, false] rfl rfl (any_of HT_.out (by kernel_rfl)) (fun _ _ _ h => h) (Or.inl ⟨by rfl, ?_⟩) ?_ ?_
      rotate_left
      ·intro w'
       go_simp
       with_reducible rfl
      rotate_left
      ·simp only [Act.put, List.setIfInBounds_toArray, List.set_cons_zero, List.set_cons_succ, i64_w, i32_w]
       rfl
      refine pure_ (i := 16) (N := some 6) (v := ?_) (a' := ?_) #[true, true, true, true, true, true, true, true, true, true, true, true, true, true, true, true, true, false] rfl rfl (any_of HT_.out (by kernel_rfl)) (fun _ _ _ h => h) (Or.inl ⟨by rfl, ?_⟩) ?_ ?_
      rotate_left
      ·intro w'
       go_simp
       with_reducible rfl
      rotate_left
      ·simp only [Act.put, List.setIfInBounds_toArray, List.set_cons_zero, List.set_cons_succ, i64_w, i32_w]
       rfl
      refine pure_ (i := 17) (N := some 7) (v := ?_) (a' := ?_) #[true, true, true, true, true, true, true, true, true, true, true, true, true, true, true, true, true, true] rfl rfl (any_of HT_.out (by kernel_rfl)) (fun _ _ _ h => h) (Or.inl ⟨by rfl, ?_⟩) ?_ ?_
      rotate_left
      ·intro w'
       go_simp
       with_reducible rfl
      rotate_left
      ·simp only [Act.put, List.setIfInBounds_toArray, List.set_cons_zero, List.set_cons_succ, i64_w, i32_w]
       rfl
      refine done_ (done_of HT_.out (by kernel_rfl)) ?_
      try go_wp2_with (first | ((with_reducible refine gate_callee (f := 164) rfl ?_); refine goesL_ (some 48) rfl rfl Tryz.func164 (by kernel_rfl) rfl #[.int .u64 t144, .int .u64 t145, .int .u64 1000] rfl ma ?_; (with_reducible refine (bits_Div64.calls t144 t145 1000 t148 t149 _ A44.out).mono ?_); rintro e w' ⟨rfl, ⟨nd, rfl⟩⟩; refine ⟨_, rfl, ?_⟩; (try (rw [drewN_self w49]; generalize hq_ : World.drewN w49 _ = w49; have n0_ : Sd (w49.heap[gb133]? = some (.cells #[.int .i64 a0_0, .int .i64 a0_1] 25 (0, 0))) := ⟨by rw [← hq_]; exact (by exact blkF BK133.out)⟩; have n1_ : Sd (w49.heap[gb134]? = some (.cells #[.int .i64 a1_0, .int .i64 a1_1] 25 (0, 0))) := ⟨by rw [← hq_]; exact (by exact blkF BK134.out)⟩; have n2_ : Sd (w49.heap[gb135]? = some (.cells #[.int .i64 0, .int .i64 0] 25 (0, 0))) := ⟨by rw [← hq_]; exact (by exact blkF BK135.out)⟩; have n3_ : Sd (Below w.heap.size w w49) := ⟨by rw [← hq_]; exact bbl⟩; clear BK133 BK134 BK135 HB hq_; have BK133 := n0_; have BK134 := n1_; have BK135 := n2_; have HB := n3_; clear n0_ n1_ n2_ n3_))) | ((with_reducible refine gate_callee (f := 162) rfl ?_); refine goesL_ (some 54) rfl rfl Tryz.func162 (by kernel_rfl) rfl #[.int .i64 (wrap64 (t136 * t137))] rfl ma ?_; (with_reducible refine (v_infinite.calls (wrap64 (t136 * t137)) t150 t151 _ A46.out).mono ?_); rintro e w50 ⟨rfl, hb⟩; refine ⟨_, rfl, ?_⟩; replace BK133 := bkb BK133 hb; replace BK134 := bkb BK134 hb; replace BK135 := bkb BK135 hb; replace HB := bsq w hb; (try clear hb); have hnb51 := NB135_133.out; have hnc51 := NB133_135.out; have hnb52 := NB135_134.out; have hnc52 := NB134_135.out; have hcz53_0 := bz0 BK135; have hcz53_1 := bz1 BK135; have hfz53_0 := blk_frozen BK135.out 0; have hfz53_1 := blk_frozen BK135.out 1))
      refine bodyPost_ret (results_cell_row rfl _ _ gb135 25 #[.int .i64 t150, .int .i64 t151] (0, 0) _ rfl (by (repeat refine dw ?_); refine blk_put (cs := #[.int .i64 t150, .int .i64 0]) ?_ 1 _ rfl; (repeat refine dw ?_); refine blk_put (cs := #[.int .i64 0, .int .i64 0]) ?_ 0 _ rfl; (repeat refine dw ?_); exact BK135.out) Tryz.underlying25 rfl (by kernel_rfl)) rfl ?_
      exact ⟨fe, bbl⟩
     ·rw [if_neg c45] at H
      have c45b0 : decide (1000000000000000 < t148) = false := decide_eq_false c45
      clear c45
      obtain ⟨⟨t152, t153⟩, A54, H⟩ := bnd H
      replace H : (some (t152, t153)) = some (r1, r2) := H
      simp only [Option.some.injEq, Prod.mk.injEq] at H
      obtain ⟨rfl, rfl⟩ := H
      try go_wp2
      have n0_ := Sd.mk (blk_drew BK133.out)
      have n1_ := Sd.mk (blk_drew BK134.out)
      have n2_ := Sd.mk (blk_drew BK135.out)
      have n3_ := Sd.mk (bd1 HB.out)
      clear BK133 BK134 BK135 HB
      have BK133 := n0_
      have BK134 := n1_
      have BK135 := n2_
      have HB := n3_
      clear n0_ n1_ n2_ n3_
      refine start_ (n := 18) (S := fun w' => w'.cell? ⟨gb133, 0, none⟩ = some (.int .i64 a0_0) ∧ w'.cell? ⟨gb133, 1, none⟩ = some (.int .i64 a0_1) ∧ w'.cell? ⟨gb134, 0, none⟩ = some (.int .i64 a1_0) ∧ w'.cell? ⟨gb134, 1, none⟩ = some (.int .i64 a1_1)) (ds := []) #[false, false, false, false, false, false, false, false, false, false, false, false, false, false, false, false, false, false] (by kernel_rfl) rfl rfl ⟨(blk_cell BK133.out 0).trans rfl, (blk_cell BK133.out 1).trans rfl, (blk_cell BK134.out 0).trans rfl, (blk_cell BK134.out 1).trans rfl⟩ (fun hHeld => ?_); refine with_tabW v_mul.tab4 v_mul.bits4 (fun HT_ HW_ => ?_)
      generalize wc.drew = w55 at BK133 BK134 BK135 HB hHeld ⊢
      refine pure_ (i := 0) (N := some 26) (v := ?_) (a' := ?_) #[true, false, false, false, false, false, false, false, false, false, false, false, false, false, false, false, false, false] rfl rfl (any_of HT_.out (by kernel_rfl)) (fun _ _ _ h => h) (Or.inl ⟨by rfl, ?_⟩) ?_ ?_
      rotate_left
      ·intro w'
       go_simp
       with_reducible rfl
      rotate_left
      ·simp only [Act.put, List.setIfInBounds_toArray, List.set_cons_zero, List.set_cons_succ, i64_w, i32_w]
       rfl
      refine pure_ (i := 6) (N := some 32) (v := ?_) (a' := ?_) #[true, false, false, false, false, false, true, false, false, false, false, false, false, false, false, false, false, false] rfl rfl (any_of HT_.out (by kernel_rfl)) (fun _ _ _ h => h) (Or.inl ⟨by rfl, ?_⟩) ?_ ?_
      rotate_left
      ·intro w'
       go_simp
       with_reducible rfl
      rotate_left
      ·simp only [Act.put, List.setIfInBounds_toArray, List.set_cons_zero, List.set_cons_succ, i64_w, i32_w]
       rfl
      refine take_ (i := 1) (N := some 27) (v := ?_) (a' := ?_) #[true, true, false, false, false, false, true, false, false, false, false, false, false, false, false, false, false, false] rfl rfl (take_ofW HT_.out HW_.out (by kernel_rfl)) (fun _ _ _ h => h) (Or.inl ⟨by rfl, ?_⟩) hHeld ?_ ?_
      rotate_left
      ·rintro w' ⟨s0, s1, s2, s3⟩
       go_simp
       with_reducible rfl
      rotate_left
      ·simp only [Act.put, List.setIfInBounds_toArray, List.set_cons_zero, List.set_cons_succ, i64_w, i32_w]
       rfl
      refine take_ (i := 2) (N := some 28) (v := ?_) (a' := ?_) #[true, true, true, false, false, false, true, false, false, false, false, false, false, false, false, false, false, false] rfl rfl (take_ofW HT_.out HW_.out (by kernel_rfl)) (fun _ _ _ h => h) (Or.inl ⟨by rfl, ?_⟩) hHeld ?_ ?_
      rotate_left
      ·rintro w' ⟨s0, s1, s2, s3⟩
       go_simp
       with_reducible rfl
      rotate_left
      ·simp only [Act.put, List.setIfInBounds_toArray, List.set_cons_zero, List.set_cons_succ, i64_w, i32_w]
       rfl
      refine take_ (i := 7) (N := some 33) (v := ?_) (a' := ?_) #[true, true, true, false, false, false, true, true, false, false, false, false, false, false, false, false, false, false] rfl rfl (take_ofW HT_.out HW_.out (by kernel_rfl)) (fun _ _ _ h => h) (Or.inl ⟨by rfl, ?_⟩) hHeld ?_ ?_
      rotate_left
      ·rintro w' ⟨s0, s1, s2, s3⟩
       go_simp
       with_reducible rfl
      rotate_left
      ·simp only [Act.put, List.setIfInBounds_toArray, List.set_cons_zero, List.set_cons_succ, i64_w, i32_w]
       rfl
      refine take_ (i := 8) (N := some 34) (v := ?_) (a' := ?_) #[true, true, true, false, false, false, true, true, true, false, false, false, false, false, false, false, false, false] rfl rfl (take_ofW HT_.out HW_.out (by kernel_rfl)) (fun _ _ _ h => h) (Or.inl ⟨by rfl, ?_⟩) hHeld ?_ ?_
      rotate_left
      ·rintro w' ⟨s0, s1, s2, s3⟩
       go_simp
       with_reducible rfl
      rotate_left
      ·simp only [Act.put, List.setIfInBounds_toArray, List.set_cons_zero, List.set_cons_succ, i64_w, i32_w]
       rfl
      refine one_ (i := 3) (N := some 29) #[true, true, true, true, false, false, true, true, true, false, false, false, false, false, false, false, false, false] rfl rfl (one_of HT_.out (by kernel_rfl)) (by decide) (fun K hK => ?_)
      refine goes_ Tryz.func161 (by kernel_rfl) rfl #[.agg #[.int .i64 a0_0, .int .i64 a0_1]] (by rfl) rfl rfl ma ?_
      with_reducible refine (v_sign.calls a0_0 a0_1 t142 _ A32.out).mono ?_
      rintro e w56 ⟨rfl, hb⟩
      refine ⟨_, rfl, ?_⟩
      have n0_ := bkb BK133 hb
      have n1_ := bkb BK134 hb
      have n2_ := bkb BK135 hb
      have n3_ := bsq w hb
      clear BK133 BK134 BK135 HB
      have BK133 := n0_
      have BK134 := n1_
      have BK135 := n2_
      have HB := n3_
      clear n0_ n1_ n2_ n3_
      (try clear hb)
      (try clear hb2)
      (try clear hk)
      (try clear hi)
      refine hK.out _ _ ⟨(blk_cell BK133.out 0).trans rfl, (blk_cell BK133.out 1).trans rfl, (blk_cell BK134.out 0).trans rfl, (blk_cell BK134.out 1).trans rfl⟩ (fun hHeld => ?_)
      clear hK K
      refine norm_ (a' := ?_) ?_ ?_
      rotate_left
      ·show Act.put _ (some 29) _ = _
       simp only [Act.put, List.setIfInBounds_toArray, List.set_cons_zero, List.set_cons_succ, i64_w, i32_w]
       rfl
      refine pure_ (i := 4) (N := some 30) (v := ?_) (a' := ?_) #[true, true, true, true, true, false, true, true, true, false, false, false, false, false, false, false, false, false] rfl rfl (any_of HT_.out (by kernel_rfl)) (fun _ _ _ h => h) (Or.inl ⟨by rfl, ?_⟩) ?_ ?_
      rotate_left
      ·intro w'
       go_simp
       with_reducible rfl
      rotate_left
      ·simp only [Act.put, List.setIfInBounds_toArray, List.set_cons_zero, List.set_cons_succ, i64_w, i32_w]
       rfl
      refine pure_ (i := 5) (N := some 31) (v := ?_) (a' := ?_) #[true, true, true, true, true, true, true, true, true, false, false, false, false, false, false, false, false, false] rfl rfl (any_of HT_.out (by kernel_rfl)) (fun _ _ _ h => h) (Or.inl ⟨by rfl, ?_⟩) ?_ ?_
      rotate_left
      ·intro w'
       go_simp
       with_reducible rfl
      rotate_left
      ·simp only [Act.put, List.setIfInBounds_toArray, List.set_cons_zero, List.set_cons_succ, i64_w, i32_w]
       rfl
      refine one_ (i := 9) (N := some 35) #[true, true, true, true, true, true, true, true, true, true, false, false, false, false, false, false, false, false] rfl rfl (one_of HT_.out (by kernel_rfl)) (by decide) (fun K hK => ?_)
      refine goes_ Tryz.func161 (by kernel_rfl) rfl #[.agg #[.int .i64 a1_0, .int .i64 a1_1]] (by rfl) rfl rfl ma ?_
      with_reducible refine (v_sign.calls a1_0 a1_1 t143 _ A33.out).mono ?_
      rintro e w57 ⟨rfl, hb⟩
      refine ⟨_, rfl, ?_⟩
      have n0_ := bkb BK133 hb
      have n1_ := bkb BK134 hb
      have n2_ := bkb BK135 hb
      have n3_ := bsq w hb
      clear BK133 BK134 BK135 HB
      have BK133 := n0_
      have BK134 := n1_
      have BK135 := n2_
      have HB := n3_
      clear n0_ n1_ n2_ n3_
      (try clear hb)
      (try clear hb2)
      (try clear hk)
      (try clear hi)
      refine hK.out _ _ ⟨(blk_cell BK133.out 0).trans rfl, (blk_cell BK133.out 1).trans rfl, (blk_cell BK134.out 0).trans rfl, (blk_cell BK134.out 1).trans rfl⟩ (fun hHeld => ?_)
      clear hK K
      refine norm_ (a' := ?_) ?_ ?_
      rotate_left
      ·show Act.put _ (some 35) _ = _
       simp only [Act.put, List.setIfInBounds_toArray, List.set_cons_zero, List.set_cons_succ, i64_w, i32_w]
       rfl
      refine pure_ (i := 10) (N := some 36) (v := ?_) (a' := ?_) #[true, true, true, true, true, true, true, true, true, true, true, false, false, false, false, false, false, false] rfl rfl (any_of HT_.out (by kernel_rfl)) (fun _ _ _ h => h) (Or.inl ⟨by rfl, ?_⟩) ?_ ?_
      rotate_left
      ·intro w'
       go_simp
       with_reducible rfl
      rotate_left
      ·simp only [Act.put, List.setIfInBounds_toArray, List.set_cons_zero, List.set_cons_succ, i64_w, i32_w]
       rfl
      refine pure_ (i := 11) (N := some 37) (v := ?_) (a' := ?_) #[true, true, true, true, true, true, true, true, true, true, true, true, false, false, false, false, false, false] rfl rfl (any_of HT_.out (by kernel_rfl)) (fun _ _ _ h => h) (Or.inl ⟨by rfl, ?_⟩) ?_ ?_
      rotate_left
      ·intro w'
       go_simp
       with_reducible rfl
      rotate_left
      ·simp only [Act.put, List.setIfInBounds_toArray, List.set_cons_zero, List.set_cons_succ, i64_w, i32_w]
       rfl
      refine one_ (i := 12) (N := some 38) #[true, true, true, true, true, true, true, true, true, true, true, true, true, false, false, false, false, false] rfl rfl (one_of HT_.out (by kernel_rfl)) (by decide) (fun K hK => ?_)
      refine goes_ Tryz.func163 (by kernel_rfl) rfl #[.int .u64 (IntKind.u64.wrap (wrap64 (a0_1 * t142))), .int .u64 (IntKind.u64.wrap (wrap64 (a1_1 * t143)))] (by rfl) rfl rfl ma ?_
      with_reducible refine (bits_Mul64.calls (IntKind.u64.wrap (wrap64 (a0_1 * t142))) (IntKind.u64.wrap (wrap64 (a1_1 * t143))) t144 t145 _ A34.out).mono ?_
      rintro e w' ⟨rfl, ⟨nd, rfl⟩⟩
      refine ⟨_, rfl, ?_⟩
      refine hK.out _ _ ⟨(blk_cell BK133.out 0).trans rfl, (blk_cell BK133.out 1).trans rfl, (blk_cell BK134.out 0).trans rfl, (blk_cell BK134.out 1).trans rfl⟩ (fun hHeld => ?_)
      clear hK K
      refine norm_ (a' := ?_) ?_ ?_
      rotate_left
      ·show Act.put _ (some 38) _ = _
       simp only [Act.put, List.setIfInBounds_toArray, List.set_cons_zero, List.set_cons_succ, i64_w, i32_w]
       rfl
      refine pure_ (i := 13) (N := some 25) (v := ?_) (a' := ?_) #[true, true, true, true, true, true, true, true, true, true, true, true, true, true, false, false, false, false] rfl rfl (any_of HT_.out (by kernel_rfl)) (fun _ _ _ h => h) (Or.inl ⟨by rfl, ?_⟩) ?_ ?_
      rotate_left
      ·intro w'
       go_simp
       with_reducible rfl
      rotate_left
      ·simp only [Act.put, List.setIfInBounds_toArray, List.set_cons_zero, List.set_cons_succ, i64_w, i32_w]
       rfl
      refine pure_ (i := 14) (N := some 39) (v := ?_) (a' := ?_) #[true, true, true, true, true, true, true, true, true, true, true, true, true, true, true, false, false, false] rfl rfl (any_of HT_.out (by kernel_rfl)) (fun _ _ _ h => h) (Or.inl ⟨by rfl, ?_⟩) ?_ ?_
      rotate_left
      ·intro w'
       go_simp
       with_reducible rfl
      rotate_left
      ·simp only [Act.put, List.setIfInBounds_toArray, List.set_cons_zero, List.set_cons_succ, i64_w, i32_w]
       rfl
      refine pure_ (i := 15) (N := some 40) (v := ?_) (a' := ?_) #[true, true, true, true, true, true, true, true, true, true, true, true, true, true, true, true, false, false] rfl rfl (any_of HT_.out (by kernel_rfl)) (fun _ _ _ h => h) (Or.inl ⟨by rfl, ?_⟩) ?_ ?_
      rotate_left
      ·intro w'
       go_simp
       with_reducible rfl
      rotate_left
      ·simp only [Act.put, List.setIfInBounds_toArray, List.set_cons_zero, List.set_cons_succ, i64_w, i32_w]
       rfl
      refine pure_ (i := 16) (N := some 6) (v := ?_) (a' := ?_) #[true, true, true, true, true, true, true, true, true, true, true, true, true, true, true, true, true, false] rfl rfl (any_of HT_.out (by kernel_rfl)) (fun _ _ _ h => h) (Or.inl ⟨by rfl, ?_⟩) ?_ ?_
      rotate_left
      ·intro w'
       go_simp
       with_reducible rfl
      rotate_left
      ·simp only [Act.put, List.setIfInBounds_toArray, List.set_cons_zero, List.set_cons_succ, i64_w, i32_w]
       rfl
      refine pure_ (i := 17) (N := some 7) (v := ?_) (a' := ?_) #[true, true, true, true, true, true, true, true, true, true, true, true, true, true, true, true, true, true] rfl rfl (any_of HT_.out (by kernel_rfl)) (fun _ _ _ h => h) (Or.inl ⟨by rfl, ?_⟩) ?_ ?_
      rotate_left
      ·intro w'
       go_simp
       with_reducible rfl
      rotate_left
      ·simp only [Act.put, List.setIfInBounds_toArray, List.set_cons_zero, List.set_cons_succ, i64_w, i32_w]
       rfl
      refine done_ (done_of HT_.out (by kernel_rfl)) ?_
      try go_wp2_with (first | ((with_reducible refine gate_callee (f := 164) rfl ?_); refine goesL_ (some 48) rfl rfl Tryz.func164 (by kernel_rfl) rfl #[.int .u64 t144, .int .u64 t145, .int .u64 1000] rfl ma ?_; (with_reducible refine (bits_Div64.calls t144 t145 1000 t148 t149 _ A44.out).mono ?_); rintro e w' ⟨rfl, ⟨nd, rfl⟩⟩; refine ⟨_, rfl, ?_⟩; (try (rw [drewN_self w57]; generalize hq_ : World.drewN w57 _ = w57; have n0_ : Sd (w57.heap[gb133]? = some (.cells #[.int .i64 a0_0, .int .i64 a0_1] 25 (0, 0))) := ⟨by rw [← hq_]; exact (by exact blkF BK133.out)⟩; have n1_ : Sd (w57.heap[gb134]? = some (.cells #[.int .i64 a1_0, .int .i64 a1_1] 25 (0, 0))) := ⟨by rw [← hq_]; exact (by exact blkF BK134.out)⟩; have n2_ : Sd (w57.heap[gb135]? = some (.cells #[.int .i64 0, .int .i64 0] 25 (0, 0))) := ⟨by rw [← hq_]; exact (by exact blkF BK135.out)⟩; have n3_ : Sd (Below w.heap.size w w57) := ⟨by rw [← hq_]; exact bbl⟩; clear BK133 BK134 BK135 HB hq_; have BK133 := n0_; have BK134 := n1_; have BK135 := n2_; have HB := n3_; clear n0_ n1_ n2_ n3_))) | ((with_reducible refine gate_callee (f := 76) rfl ?_); refine goesL_ (some 59) rfl rfl Tryz.func76 (by kernel_rfl) rfl #[.int .i64 (wrap64 ((wrap64 (t136 * t137)) * (wrap64 (t148))))] rfl ma ?_; (with_reducible refine (v_Num.calls (wrap64 ((wrap64 (t136 * t137)) * (wrap64 (t148)))) t152 t153 _ A54.out).mono ?_); rintro e w58 ⟨rfl, hb⟩; refine ⟨_, rfl, ?_⟩; replace BK133 := bkb BK133 hb; replace BK134 := bkb BK134 hb; replace BK135 := bkb BK135 hb; replace HB := bsq w hb; (try clear hb); have hnb59 := NB135_133.out; have hnc59 := NB133_135.out; have hnb60 := NB135_134.out; have hnc60 := NB134_135.out; have hcz61_0 := bz0 BK135; have hcz61_1 := bz1 BK135; have hfz61_0 := blk_frozen BK135.out 0; have hfz61_1 := blk_frozen BK135.out 1))
      refine bodyPost_ret (results_cell_row rfl _ _ gb135 25 #[.int .i64 t152, .int .i64 t153] (0, 0) _ rfl (by (repeat refine dw ?_); refine blk_put (cs := #[.int .i64 t152, .int .i64 0]) ?_ 1 _ rfl; (repeat refine dw ?_); refine blk_put (cs := #[.int .i64 0, .int .i64 0]) ?_ 0 _ rfl; (repeat refine dw ?_); exact BK135.out) Tryz.underlying25 rfl (by kernel_rfl)) rfl ?_
      exact ⟨fe, bbl⟩
abbrev V := Int × Int
/-- May it be a value? -/
def isV (a : V) : Prop := (a.1 = 1 ∧ -1000000000000000 ≤ a.2 ∧ a.2 ≤ 1000000000000000) ∨ ((a.1 = 2 ∨ a.1 = 3 ∨ a.1 = 4 ∨ a.1 = 5) ∧ a.2 = 0)
instance (a : V) : Decidable (isV a) := by unfold isV; exact inferInstance
def vNum (n : Int) : V := if n > 1000000000000000 then (4, 0) else if n < -1000000000000000 then (5, 0) else (1, n)
def vRank (a : V) : Int := if a.1 = 4 then 1000000000000001 else if a.1 = 5 then -1000000000000001 else a.2
def vSign (n : Int) : Int := if n < 0 then -1 else if n = 0 then 0 else 1
def vInf (s : Int) : V := if s = 0 then (3, 0) else if s < 0 then (5, 0) else (4, 0)
def vTruth (b : Bool) : V := if b = true then (1, 1000) else (1, 0)
def vTrue (a : V) : Bool := if a.1 = 2 then false else if a.1 = 0 then false else if a.1 = 1 then a.2 != 0 else true
def vAdd (a b : V) : V := if a.1 = 1 then (if b.1 = 1 then vNum (a.2 + b.2) else b) else if b.1 = 1 then a else if a = b then a else (3, 0)
def vMul (a b : V) : V := if a.1 = 1 ∧ b.1 = 1 then vNum (vSign (vRank a) * vSign (vRank b) * ((a.2 * vSign a.2) * (b.2 * vSign b.2) / 1000)) else vInf (vSign (vRank a) * vSign (vRank b))
def vDiv (a b : V) : V := if b.1 = 1 then (if a.1 = 1 then (if b.2 = 0 then vInf a.2 else vNum ((a.2 * 1000).tdiv b.2)) else if b.2 < 0 then vNum (-vRank a) else a) else if a.1 = 1 then vNum 0 else (3, 0)
theorem isV_num {n : Int} : isV (vNum n) := by
  unfold vNum isV
  split
  · exact .inr ⟨.inr (.inr (.inl rfl)), rfl⟩
  · split
    · exact .inr ⟨.inr (.inr (.inr rfl)), rfl⟩
    · exact .inl ⟨rfl, by simp; omega, by simp; omega⟩
theorem vSign_range (n : Int) : vSign n = -1 ∨ vSign n = 0 ∨ vSign n = 1 := by
  unfold vSign
  split
  · simp
  · split <;> simp
theorem num_is (n : Int) : v_Num.f n = some (vNum n) := by
  unfold v_Num.f vNum v_Plus.f v_Minus.f
  split
  · rfl
  · split <;> rfl
theorem truth_is (b : Bool) : v_Truth.f b = some (vTruth b) := by
  unfold v_Truth.f vTruth
  cases b <;> rfl
theorem true_is (a : V) : v_True.f a.1 a.2 = some (vTrue a) := by
  unfold v_True.f vTrue
  split
  · rfl
  · split
    · rfl
    · split <;> rfl
theorem rank_is (a : V) : v_rank.f a.1 a.2 = some (vRank a) := by
  unfold v_rank.f vRank
  split
  · rfl
  · split <;> rfl
theorem sign_mnmx (n : Int) : mn (mx n (-1)) 1 = vSign n := by
  unfold mn mx vSign
  split <;> split <;> (try split) <;> (try split) <;> omega
theorem sign_is (a : V) : v_sign.f a.1 a.2 = some (vSign (vRank a)) := by
  unfold v_sign.f
  rw [rank_is]
  simp only [Option.bind_some, sign_mnmx]
theorem back_is (n : Int) : v_back.f n = some (vNum n) := by
  unfold v_back.f
  rw [num_is]; rfl
theorem infinite_is (s : Int) : v_infinite.f s = some (vInf s) := by
  unfold v_infinite.f vInf
  by_cases h : s = 0
  · rw [if_pos h, if_pos h]; rfl
  · rw [if_neg h, if_neg h, back_is]
    simp only [Option.bind_some, sign_mnmx]
    by_cases h2 : s < 0
    · rw [if_pos h2]; simp [vSign, h2, vNum]
    · rw [if_neg h2]; simp [vSign, h2, h, vNum]
theorem wrap_id {n : Int} (h0 : -9223372036854775808 ≤ n) (h1 : n ≤ 9223372036854775807) : wrap64 n = n := by unfold wrap64; omega
theorem isV_n {a : V} (h : isV a) : -1000000000000000 ≤ a.2 ∧ a.2 ≤ 1000000000000000 := by
  rcases h with ⟨_, h1, h2⟩ | ⟨_, h⟩
  · exact ⟨h1, h2⟩
  · omega
theorem isV_rank {a : V} (h : isV a) : -1000000000000001 ≤ vRank a ∧ vRank a ≤ 1000000000000001 := by
  have := isV_n h
  unfold vRank
  split
  · omega
  · split <;> omega
theorem rank_num {a : V} (h : a.1 = 1) : vRank a = a.2 := by
  unfold vRank
  rw [if_neg (by omega), if_neg (by omega)]
theorem add_is {a b : V} (ha : isV a) (hb : isV b) : v_add.f 3 a.1 a.2 b.1 b.2 = some (vAdd a b) := by
  have na := isV_n ha
  have nb := isV_n hb
  have ew : wrap64 (a.2 + b.2) = a.2 + b.2 := wrap_id (by omega) (by omega)
  unfold v_add.f v_finite.f vAdd
  simp only [Option.bind_some, v_add.j0, v_add.j1, v_finite.f, ew, num_is, v_NaN.f]
  by_cases h1 : a.1 = 1
  · by_cases h2 : b.1 = 1
    · simp [h1, h2]
    · simp [h1, h2]
  · by_cases h2 : b.1 = 1
    · simp [h1, h2]
    · by_cases h3 : a = b
      · subst h3; simp [h1]
      · have : ¬ (a.1 = b.1 ∧ a.2 = b.2) := fun h => h3 (Prod.ext h.1 h.2)
        by_cases h4 : a.1 = b.1
        · have h5 : ¬ a.2 = b.2 := fun h => this ⟨h4, h⟩
          simp [h2, h3, h4, h5]
        · simp [h1, h2, h3, h4]
theorem abs_sign (n : Int) : 0 ≤ n * vSign n ∧ (n * vSign n = n ∨ n * vSign n = -n) := by
  unfold vSign
  split
  · omega
  · split <;> omega
theorem mul128 (x y : Int) (hx0 : 0 ≤ x) (hx : x ≤ 1000000000000000) (hy0 : 0 ≤ y) (hy : y ≤ 1000000000000000) : bits_Mul64.f x y = some (x * y / 18446744073709551616, x * y % 18446744073709551616) := by
  unfold bits_Mul64.f
  obtain ⟨xn, rfl⟩ := Int.eq_ofNat_of_zero_le hx0
  obtain ⟨yn, rfl⟩ := Int.eq_ofNat_of_zero_le hy0
  have ax : Go.bits .and .u64 (xn : Int) 4294967295 = ((xn % 4294967296 : Nat) : Int) := by
    rw [show (4294967295 : Int) = ((4294967295 : Nat) : Int) from rfl, u64_and_nat xn 4294967295 (by omega) (by omega), Nat.and_two_pow_sub_one_eq_mod xn 32]
  have ay : Go.bits .and .u64 (yn : Int) 4294967295 = ((yn % 4294967296 : Nat) : Int) := by
    rw [show (4294967295 : Int) = ((4294967295 : Nat) : Int) from rfl, u64_and_nat yn 4294967295 (by omega) (by omega), Nat.and_two_pow_sub_one_eq_mod yn 32]
  rw [ax, ay]
  -- digits
  obtain ⟨x1, hx1⟩ : ∃ q : Nat, q = xn / 4294967296 := ⟨_, rfl⟩
  obtain ⟨x0, hx0'⟩ : ∃ q : Nat, q = xn % 4294967296 := ⟨_, rfl⟩
  obtain ⟨y1, hy1⟩ : ∃ q : Nat, q = yn / 4294967296 := ⟨_, rfl⟩
  obtain ⟨y0, hy0'⟩ : ∃ q : Nat, q = yn % 4294967296 := ⟨_, rfl⟩
  have ex : (xn : Int) / 4294967296 = (x1 : Int) := by rw [hx1]; omega
  have ey : (yn : Int) / 4294967296 = (y1 : Int) := by rw [hy1]; omega
  rw [ex, ey, ← hx0', ← hy0']
  have bx1 : x1 ≤ 232830 := by omega
  have by1 : y1 ≤ 232830 := by omega
  have bx0 : x0 < 4294967296 := by omega
  have by0 : y0 < 4294967296 := by omega
  have exn : xn = x1 * 4294967296 + x0 := by omega
  have eyn : yn = y1 * 4294967296 + y0 := by omega
  -- partial products
  obtain ⟨p, hp⟩ : ∃ p : Nat, p = x0 * y0 := ⟨_, rfl⟩
  obtain ⟨q, hq⟩ : ∃ p : Nat, p = x1 * y0 := ⟨_, rfl⟩
  obtain ⟨r, hr⟩ : ∃ p : Nat, p = x0 * y1 := ⟨_, rfl⟩
  obtain ⟨s, hs⟩ : ∃ p : Nat, p = x1 * y1 := ⟨_, rfl⟩
  have bp : p ≤ 4294967295 * 4294967295 := by rw [hp]; exact Nat.mul_le_mul (by omega) (by omega)
  have bq : q ≤ 232830 * 4294967295 := by rw [hq]; exact Nat.mul_le_mul (by omega) (by omega)
  have br : r ≤ 4294967295 * 232830 := by rw [hr]; exact Nat.mul_le_mul (by omega) (by omega)
  have bs : s ≤ 232830 * 232830 := by rw [hs]; exact Nat.mul_le_mul (by omega) (by omega)
  have ep : ((x0 : Nat) : Int) * (y0 : Int) = (p : Int) := by rw [hp, Int.natCast_mul]
  have eq' : ((x1 : Nat) : Int) * (y0 : Int) = (q : Int) := by rw [hq, Int.natCast_mul]
  have er : ((x0 : Nat) : Int) * (y1 : Int) = (r : Int) := by rw [hr, Int.natCast_mul]
  have es : ((x1 : Nat) : Int) * (y1 : Int) = (s : Int) := by rw [hs, Int.natCast_mul]
  have exy : (xn : Int) * (yn : Int) = (s : Int) * 18446744073709551616 + ((q : Int) + r) * 4294967296 + p := by
    rw [exn, eyn, ← ep, ← eq', ← er, ← es]
    simp only [Int.natCast_add, Int.natCast_mul]
    rw [show ((4294967296 : Nat) : Int) = 4294967296 from rfl]
    simp only [Int.add_mul, Int.mul_add]
    have m1 : ((x1 : Int) * 4294967296) * ((y1 : Int) * 4294967296) = (x1 : Int) * y1 * 18446744073709551616 := by
      rw [Int.mul_assoc, ← Int.mul_assoc 4294967296, Int.mul_comm 4294967296, Int.mul_assoc, ← Int.mul_assoc (x1 : Int)]
      rfl
    have m2 : ((x1 : Int) * 4294967296) * (y0 : Int) = (x1 : Int) * y0 * 4294967296 := by rw [Int.mul_assoc, Int.mul_comm 4294967296, ← Int.mul_assoc]
    have m3 : (x0 : Int) * ((y1 : Int) * 4294967296) = (x0 : Int) * y1 * 4294967296 := by rw [← Int.mul_assoc]
    rw [m1, m2, m3]; omega
  rw [exy, ep, eq', er, es]
  clear exy ep eq' er es hp hq hr hs
  simp only [IntKind.wrap_u64]
  -- t = q + p / 2^32
  have w1 : (s : Int) % 18446744073709551616 = s := by omega
  have w2 : (q : Int) % 18446744073709551616 = q := by omega
  have w3 : (p : Int) % 18446744073709551616 = p := by omega
  have w4 : (r : Int) % 18446744073709551616 = r := by omega
  rw [w1, w2, w3, w4]
  obtain ⟨t, ht⟩ : ∃ t : Nat, (t : Int) = (q : Int) + (p : Int) / 4294967296 := ⟨q + p / 4294967296, by omega⟩
  rw [← ht]
  have bt : t < 1000000000000000000 := by omega
  have w5 : (t : Int) % 18446744073709551616 = t := by omega
  rw [w5]
  have at' : Go.bits .and .u64 (t : Int) 4294967295 = ((t % 4294967296 : Nat) : Int) := by
    rw [show (4294967295 : Int) = ((4294967295 : Nat) : Int) from rfl, u64_and_nat t 4294967295 (by omega) (by omega), Nat.and_two_pow_sub_one_eq_mod t 32]
  rw [at']
  congr 2 <;> omega
theorem mul_is {a b : V} (ha : isV a) (hb : isV b) : v_mul.f 1 a.1 a.2 b.1 b.2 = some (vMul a b) := by
  have na := isV_n ha
  have nb := isV_n hb
  have sa := vSign_range (vRank a)
  have sb := vSign_range (vRank b)
  have ew : wrap64 (vSign (vRank a) * vSign (vRank b)) = vSign (vRank a) * vSign (vRank b) := by
    rcases sa with sa | sa | sa <;> rcases sb with sb | sb | sb <;> rw [sa, sb] <;> exact wrap_id (by omega) (by omega)
  unfold v_mul.f v_finite.f vMul
  rw [sign_is, sign_is]
  simp only [Option.bind_some, v_mul.j0, ew, infinite_is, sign_is]
  by_cases h1 : a.1 = 1
  · by_cases h2 : b.1 = 1
    · have h12 : a.1 = 1 ∧ b.1 = 1 := ⟨h1, h2⟩
      rw [if_pos h12, if_pos (by simp [h1]), if_neg (by simp [h2])]
      rw [rank_num h1, rank_num h2] at *
      obtain ⟨xa, ya⟩ := abs_sign a.2
      obtain ⟨xb, yb⟩ := abs_sign b.2
      obtain ⟨x, hx⟩ : ∃ x, a.2 * vSign a.2 = x := ⟨_, rfl⟩
      obtain ⟨y, hy⟩ : ∃ y, b.2 * vSign b.2 = y := ⟨_, rfl⟩
      rw [hx] at xa ya ⊢
      rw [hy] at xb yb ⊢
      have bx : x ≤ 1000000000000000 := by omega
      have by' : y ≤ 1000000000000000 := by omega
      have wx : IntKind.u64.wrap (wrap64 x) = x := by rw [wrap_id (by omega) (by omega), IntKind.wrap_u64]; omega
      have wy : IntKind.u64.wrap (wrap64 y) = y := by rw [wrap_id (by omega) (by omega), IntKind.wrap_u64]; omega
      rw [wx, wy, mul128 x y xa bx xb by']
      simp only [Option.bind_some]
      have hxy0 : 0 ≤ x * y := Int.mul_nonneg xa xb
      have hz : vSign a.2 * vSign b.2 = 0 → x * y = 0 := by
        intro h
        rcases Int.mul_eq_zero.1 h with h | h
        · rw [← hx, h, Int.mul_zero, Int.zero_mul]
        · rw [← hy, h, Int.mul_zero, Int.mul_zero]
      obtain ⟨p, hp⟩ : ∃ p, x * y = p := ⟨_, rfl⟩
      rw [hp] at hxy0 hz ⊢
      have key : 1000000000000000 < p / 1000 → vInf (vSign a.2 * vSign b.2) = vNum (vSign a.2 * vSign b.2 * (p / 1000)) := by
        intro hq
        have hs : vSign a.2 * vSign b.2 = -1 ∨ vSign a.2 * vSign b.2 = 1 := by
          have : vSign a.2 * vSign b.2 ≠ 0 := fun h => by have := hz h; omega
          rcases sa with sa | sa | sa <;> rcases sb with sb | sb | sb <;> simp [sa, sb] at this ⊢
        rcases hs with hs | hs
        · rw [hs]; unfold vInf vNum
          rw [if_neg (by decide), if_pos (by decide), if_neg (by omega), if_pos (by omega)]
        · rw [hs]; unfold vInf vNum
          rw [if_neg (by decide), if_neg (by decide), if_pos (by omega)]
      by_cases hh : p / 18446744073709551616 ≥ 1000
      · rw [if_pos hh, key (by omega)]
      · rw [if_neg hh]
        have hd : bits_Div64.f (p / 18446744073709551616) (p % 18446744073709551616) 1000 = some (p / 1000, p % 1000) := by
          unfold bits_Div64.f
          rw [if_pos rfl, if_pos (by omega), if_pos (by omega), if_pos (by omega), if_pos (by omega)]
          rw [show p / 18446744073709551616 * 18446744073709551616 + p % 18446744073709551616 = p by omega]
        rw [hd]
        simp only [Option.bind_some]
        by_cases hq : p / 1000 > 1000000000000000
        · rw [if_pos hq, key (by omega)]
        · rw [if_neg hq, num_is]
          have w1 : wrap64 (p / 1000) = p / 1000 := wrap_id (by omega) (by omega)
          rw [w1]
          have w2 : wrap64 (vSign a.2 * vSign b.2 * (p / 1000)) = vSign a.2 * vSign b.2 * (p / 1000) := by
            rcases sa with sa | sa | sa <;> rcases sb with sb | sb | sb <;> rw [sa, sb] <;> exact wrap_id (by omega) (by omega)
          rw [w2]; rfl
    · simp [h1, h2]
  · simp [h1]
theorem div_is {a b : V} (ha : isV a) (hb : isV b) : v_div.f 2 a.1 a.2 b.1 b.2 = some (vDiv a b) := by
  have na := isV_n ha
  have nb := isV_n hb
  have ra := isV_rank ha
  have e1 : wrap64 (-vRank a) = -vRank a := wrap_id (by omega) (by omega)
  have e2 : wrap64 (a.2 * 1000) = a.2 * 1000 := wrap_id (by omega) (by omega)
  have e3 : wrap64 ((a.2 * 1000).tdiv b.2) = (a.2 * 1000).tdiv b.2 := by
    have h := Int.natAbs_tdiv_le_natAbs (a.2 * 1000) b.2
    exact wrap_id (by omega) (by omega)
  unfold v_div.f v_finite.f vDiv
  simp only [Option.bind_some, v_div.j0, v_div.j1, v_finite.f, rank_is, back_is, e1, e2, e3, num_is, infinite_is, v_NaN.f]
  by_cases h1 : a.1 = 1
  · by_cases h2 : b.1 = 1
    · by_cases h3 : b.2 = 0
      · simp [h1, h2, h3]
      · simp [h1, h2, h3]
    · simp [h1, h2]
  · by_cases h2 : b.1 = 1
    · by_cases h3 : b.2 < 0
      · simp [h1, h2, h3]
      · simp [h1, h2, h3]
    · simp [h1, h2]
theorem is_is (a : V) : v_is.f a.1 a.2 = some (decide (isV a)) := by
  unfold v_is.f isV
  by_cases h1 : a.1 = 1
  · rw [if_pos h1]
    by_cases h2 : a.2 ≥ -1000000000000000
    · rw [if_pos h2]; congr 1; simp [h1, h2]
    · rw [if_neg h2]; congr 1; simp [h1]; omega
  · rw [if_neg h1]
    by_cases h2 : a.1 = 2
    · rw [if_pos h2]; congr 1; simp [h2]; rfl
    · rw [if_neg h2]
      by_cases h3 : a.1 = 3
      · rw [if_pos h3]; congr 1; simp [h3]; rfl
      · rw [if_neg h3]
        by_cases h4 : a.1 = 4
        · rw [if_pos h4]; congr 1; simp [h4]; rfl
        · rw [if_neg h4]
          by_cases h5 : a.1 = 5
          · rw [if_pos h5]; congr 1; simp [h5]; rfl
          · rw [if_neg h5]; congr 1; simp [h1, h2, h3, h4, h5]
end Go.Proofs.YtcmiehddjgfjaaaGreat.A
namespace Go.Proofs.YtcmiehddjgfjaaaGreat.V
open Go.RowKit Go.Proofs.YtcmiehddjgfjaaaGreatW.PrintWords Go.Proofs.YtcmiehddjgfjaaaGreatW.PrintLast Go.Proofs.YtcmiehddjgfjaaaGreatW.PrintMore
/-- The entries, in the order in which they were laid. -/
def ents : List (ByteArray × Value) → Nat → List MapEntry
  | [], _ => []
  | (s, v) :: l, n => { key := .string s, val := v, born := n } :: ents l (n + 1)
theorem ents_snoc (s : ByteArray) (v : Value) : ∀ (l : List (ByteArray × Value)) (n : Nat), ents (l ++ [(s, v)]) n = ents l n ++ [{ key := .string s, val := v, born := n + l.length }]
  | [], n => rfl
  | (t, u) :: l, n => by
    rw [List.cons_append, ents, ents, ents_snoc s v l (n + 1), List.cons_append, List.length_cons]
    congr 4; omega
theorem find_some (op : ByteArray) : ∀ (l : List (ByteArray × Value)) (n i : Nat), ∃ j, Instr.findNow .string (.string op) (ents l n) i = some ((l.lookup op).map fun v => (j, v))
  | [], n, i => ⟨0, rfl⟩
  | (s, v) :: l, n, i => by
    rw [ents, List.lookup_cons]
    unfold Instr.findNow
    simp only [Instr.sameNow]
    cases h : op == s with
    | true => exact ⟨i, rfl⟩
    | false => exact find_some op l (n + 1) (i + 1)
/-- Block r is the map of these entries. -/
def HM (w : World) (r : Nat) (l : List (ByteArray × Value)) : Prop := w.heap[r]? = some (.map (ents l 0).toArray l.length)
theorem HM.below {w w' : World} {r : Nat} {l : List (ByteArray × Value)} (h : HM w r l) (hb : Below w.heap.size w w') : HM w' r l :=
  (hb.block r (Array.getElem?_eq_some_iff.1 h).1).trans h
section
variable {P : Program} {w : World} {r : Nat} {l : List (ByteArray × Value)} {T ks el : TypeId}
theorem run_find (ht : P.underlying T = some (.map ks el)) (hs : P.underlying ks = some .string) (h : HM w r l) (s : ByteArray) (z : Value) (hz : (zeroValue el).run P w = .ok z w) :
    (Instr.lookup T (.map (some r)) (.string s) true).run P w = .ok (match l.lookup s with | some v => .tuple #[v, .bool true] | none => .tuple #[z, .bool false]) w := by
  obtain ⟨j, hf⟩ := find_some s l 0 0
  have hget : w.heap[r]? = some (.map (ents l 0).toArray l.length) := h
  have hfk : (Instr.findKey ks (.string s) (ents l 0)).run P w = .ok ((l.lookup s).map fun v => (j, v)) w := MapKept.run_findKey hs hf
  have hck : ∀ b, (Instr.checkKey b 10000 ks (.string s)).run P w = .ok () w := fun b => MapKept.run_checkKey hs (by simp [MapKept.IsKey]) b 9999
  cases hl : l.lookup s with
  | none =>
    rw [hl] at hfk
    simp [Instr.lookup, run_underlying ht, hck, MapKept.run_getObj_map hget, hfk, hz]
  | some v =>
    rw [hl] at hfk
    simp [Instr.lookup, run_underlying ht, hck, MapKept.run_getObj_map hget, hfk]
end
end Go.Proofs.YtcmiehddjgfjaaaGreat.V
namespace Go.Proofs.YtcmiehddjgfjaaaGreat.A
open Go.RowKit Go.Proofs.YtcmiehddjgfjaaaGreatW.PrintWords Go.Proofs.YtcmiehddjgfjaaaGreatW.PrintLast Go.Proofs.YtcmiehddjgfjaaaGreatW.PrintMore Go.Proofs.YtcmiehddjgfjaaaGreat.V
abbrev vv (a : V) : Value := .agg #[.int .i64 a.1, .int .i64 a.2]
theorem blk_new2' (w : World) (o o' : Obj) : ((w.alloc o).alloc o').heap[w.heap.size + 1]? = some o' := by
  have := blk_new (w.alloc o) o'
  simpa using this
theorem fz_below {w w1 : World} (h : Below w.heap.size w w1) {a : Addr} {v : Value} (hc : w.cell? a = some v) (hf : w.frozen? a = false) : w1.frozen? a = false := (h.frozen (World.block_lt_of_cell? w a hc)).trans hf
def vPlain (F : Int → Int) (a : V) : V := if a.1 = 2 then a else if a.1 = 3 then a else vNum (F (vRank a))
/-- A function of a whole number. -/
def IsI (g : Nat) (F : Int → Int) : Prop := (∀ args w, (callFunc g args).run Tryz.prog w = .ok (.enter g args) w) ∧ ∀ w1 n, -1000000000000001 ≤ n → n ≤ 1000000000000001 → Calls Tryz.prog g #[.int .i64 n] w1 fun e w' => e = .returned (.int .i64 (F n)) ∧ Below w1.heap.size w1 w'
theorem plain1_calls (g : Nat) (F : Int → Int) (hI : IsI g F) (b : Nat) (a : V) (w : World) (hv : isV a) (hc : w.cell? ⟨b, 0, none⟩ = some (.func (.func g) #[] #[])) :
    Calls Tryz.prog 157 #[vv a, .pointer (some ⟨b, 0, none⟩)] w fun e w' => e = .returned (vv (vPlain F a)) ∧ Below w.heap.size w w' := by
  obtain ⟨eg, hf⟩ := hI
  have hlt : b < w.heap.size := World.block_lt_of_cell? w _ hc
  have hr := isV_rank hv
  obtain ⟨ak, an⟩ := a
  have HR := Sd.mk (rank_is (ak, an))
  have HF := Sd.mk hf
  have HRR := Sd.mk hr
  clear hf hr
  by_cases h2 : ak = 2
  · have e : vPlain F (ak, an) = (ak, an) := if_pos h2
    rw [e]
    have c1 : (ak == 2) = true := beq_iff_eq.2 h2
    clear h2 e HR HRR hv
    go_enter Tryz.func157, Tryz.ntmps157
    go_wp2
    refine bodyPost_ret (v := vv (ak, an)) (by simp [results, Tryz.results157, go_sem]) rfl ⟨rfl, ?_⟩
    repeat (first | exact Below.refl _ _ | (refine Below.alloc ?_ (by simp) _) | (refine Below.setCell ?_ (by simp) _))
  · have c1 : (ak == 2) = false := beq_eq_false_iff_ne.2 h2
    by_cases h3 : ak = 3
    · have e : vPlain F (ak, an) = (ak, an) := by unfold vPlain; rw [if_neg h2, if_pos h3]
      rw [e]
      have c2 : (ak == 3) = true := beq_iff_eq.2 h3
      clear h2 h3 e HR HRR hv
      go_enter Tryz.func157, Tryz.ntmps157
      go_wp2
      refine bodyPost_ret (v := vv (ak, an)) (by simp [results, Tryz.results157, go_sem]) rfl ⟨rfl, ?_⟩
      repeat (first | exact Below.refl _ _ | (refine Below.alloc ?_ (by simp) _) | (refine Below.setCell ?_ (by simp) _))
    · have e : vPlain F (ak, an) = vNum (F (vRank (ak, an))) := by unfold vPlain; rw [if_neg h2, if_neg h3]
      rw [e]
      obtain ⟨r1, r2, hrr⟩ : ∃ r1 r2, vNum (F (vRank (ak, an))) = (r1, r2) := ⟨_, _, rfl⟩
      have HBK := Sd.mk ((back_is (F (vRank (ak, an)))).trans (congrArg some hrr))
      rw [hrr]
      clear hrr
      obtain ⟨q, hq⟩ : ∃ q, vRank (ak, an) = q := ⟨_, rfl⟩
      rw [hq] at HR HRR HBK
      clear hq
      obtain ⟨fq, hfq⟩ : ∃ fq, F q = fq := ⟨_, rfl⟩
      have HFQ := Sd.mk (fun w1 (h0 : -1000000000000001 ≤ q) (h1 : q ≤ 1000000000000001) => HF.out w1 q h0 h1)
      rw [hfq] at HBK HFQ
      clear hfq
      have c2 : (ak == 3) = false := beq_eq_false_iff_ne.2 h3
      clear h2 h3 e hv
      go_enter Tryz.func157, Tryz.ntmps157
      go_wp2_with fail
      have hb0 : Below w.heap.size w ((w.alloc (.cells #[.int .i64 ak, .int .i64 an] 25)).alloc (.cells #[.int .i64 0, .int .i64 0] 25)) := ((Below.refl _ _).alloc (Nat.le_refl _) _).alloc (by simp) _
      have s0 : ((w.alloc (.cells #[.int .i64 ak, .int .i64 an] 25)).alloc (.cells #[.int .i64 0, .int .i64 0] 25)).heap.size = w.heap.size + 2 := by simp
      have cb : ((w.alloc (.cells #[.int .i64 ak, .int .i64 an] 25)).alloc (.cells #[.int .i64 0, .int .i64 0] 25)).cell? ⟨b, 0, none⟩ = some (.func (.func g) #[] #[]) := (hb0.cell hlt).trans hc
      have k0 : ((w.alloc (.cells #[.int .i64 ak, .int .i64 an] 25)).alloc (.cells #[.int .i64 0, .int .i64 0] 25)).cell? ⟨w.heap.size, 0, none⟩ = some (.int .i64 ak) := by simp
      have k1 : ((w.alloc (.cells #[.int .i64 ak, .int .i64 an] 25)).alloc (.cells #[.int .i64 0, .int .i64 0] 25)).cell? ⟨w.heap.size, 1, none⟩ = some (.int .i64 an) := by simp
      have r0 : ((w.alloc (.cells #[.int .i64 ak, .int .i64 an] 25)).alloc (.cells #[.int .i64 0, .int .i64 0] 25)).heap[w.heap.size + 1]? = some (.cells #[.int .i64 0, .int .i64 0] 25 (0, 0)) := blk_new2' _ _ _
      have m0 := cell_of_row _ _ 0 _ _ _ r0
      have m1 := cell_of_row _ _ 1 _ _ _ r0
      have z0 := blk_frozen r0 0
      have z1 := blk_frozen r0 1
      simp only [List.getElem?_toArray, List.getElem?_cons_zero, List.getElem?_cons_succ] at m0 m1
      have HB0 := Sd.mk hb0
      have RB := Sd.mk r0
      have SZ := Sd.mk s0
      generalize (w.alloc (.cells #[.int .i64 ak, .int .i64 an] 25)).alloc (.cells #[.int .i64 0, .int .i64 0] 25) = W2 at HB0 RB SZ cb k0 k1 m0 m1 z0 z1 ⊢
      clear hb0 r0 s0 hc
      have n0 : q ≤ 1000000000000001 := HRR.out.2
      have n1 : -1000000000000001 ≤ q := HRR.out.1
      go_region_with (first
          | (go_at_call 130; refine (v_rank.calls ak an q _ HR.out).mono ?_; rintro e w1 ⟨rfl, hb1⟩; have m0_ := m0; have m1_ := m1; have cb := pw_cell_below hb1 cb; have k0 := pw_cell_below hb1 k0; have k1 := pw_cell_below hb1 k1; have m0 := pw_cell_below hb1 m0_; have m1 := pw_cell_below hb1 m1_; have z0 := fz_below hb1 m0_ z0; have z1 := fz_below hb1 m1_ z1; clear m0_ m1_; have HB1 := Sd.mk (HB0.out.trans ((Below.refl W2.heap.size W2).drew.trans hb1 |>.mono HB0.out.size)); clear hb1)
          | (go_at_fn g; refine (HFQ.out _ n1 n0).mono ?_; rintro e w2 ⟨rfl, hb2⟩; have m0_ := m0; have m1_ := m1; have cb := pw_cell_below hb2 cb; have k0 := pw_cell_below hb2 k0; have k1 := pw_cell_below hb2 k1; have m0 := pw_cell_below hb2 m0_; have m1 := pw_cell_below hb2 m1_; have z0 := fz_below hb2 m0_ z0; have z1 := fz_below hb2 m1_ z1; clear m0_ m1_; have HB2 := Sd.mk (HB1.out.trans (hb2.mono HB1.out.size)); clear hb2)
          | (go_at_call 129; refine (v_back.calls fq r1 r2 _ HBK.out).mono ?_; rintro e w3 ⟨rfl, hb3⟩; have m0_ := m0; have m1_ := m1; have cb := pw_cell_below hb3 cb; have k0 := pw_cell_below hb3 k0; have k1 := pw_cell_below hb3 k1; have m0 := pw_cell_below hb3 m0_; have m1 := pw_cell_below hb3 m1_; have z0 := fz_below hb3 m0_ z0; have z1 := fz_below hb3 m1_ z1; clear m0_ m1_; have HB3 := Sd.mk (HB2.out.trans (hb3.mono HB2.out.size)); clear hb3))
      all_goals
        go_wp2_with fail
        exact bodyPost_ret (v := vv (r1, r2)) (by simp [results, Tryz.results157, go_sem, m0, m1]) rfl ⟨rfl, (HB3.out.setCell (by simp) _).setCell (by simp) _⟩
theorem blk_new3' (w : World) (o o' o'' : Obj) : (((w.alloc o).alloc o').alloc o'').heap[w.heap.size + 2]? = some o'' := by
  have := blk_new ((w.alloc o).alloc o') o''
  simpa using this
theorem below_one (w : World) (o : Obj) : Below w.heap.size w (w.alloc o) := (Below.refl _ _).alloc (Nat.le_refl _) _
theorem below_two (w : World) (o o' : Obj) : Below w.heap.size w ((w.alloc o).alloc o') := (below_one w o).alloc (by simp) _
theorem cell_new0 (w : World) (a b : Value) (t : TypeId) : (w.alloc (.cells #[a, b] t)).cell? ⟨w.heap.size, 0, none⟩ = some a := by simp
theorem cell_new1 (w : World) (a b : Value) (t : TypeId) : (w.alloc (.cells #[a, b] t)).cell? ⟨w.heap.size, 1, none⟩ = some b := by simp
/-- A function of two values. -/
def IsP (g : Nat) (F : V → V → V) : Prop := (∀ args w, (callFunc g args).run Tryz.prog w = .ok (.enter g args) w) ∧ ∀ w1 a b, isV a → isV b → Calls Tryz.prog g #[vv a, vv b] w1 fun e w' => e = .returned (vv (F a b)) ∧ Below w1.heap.size w1 w'
def vNumbers (F : V → V → V) (a b : V) : V := if a.1 = 3 ∨ b.1 = 3 then (3, 0) else F a b
theorem numbers1_calls (g : Nat) (F : V → V → V) (hI : IsP g F) (b : Nat) (x y : V) (w : World) (hx : isV x) (hy : isV y) (hc : w.cell? ⟨b, 0, none⟩ = some (.func (.func g) #[] #[])) :
    Calls Tryz.prog 160 #[vv x, vv y, .pointer (some ⟨b, 0, none⟩)] w fun e w' => e = .returned (vv (vNumbers F x y)) ∧ Below w.heap.size w w' := by
  obtain ⟨eg, hf⟩ := hI
  have hlt : b < w.heap.size := World.block_lt_of_cell? w _ hc
  have HF := Sd.mk (fun w1 => hf w1 x y hx hy)
  clear hf hx hy
  obtain ⟨r1, r2, hrr⟩ : ∃ r1 r2, F x y = (r1, r2) := ⟨_, _, rfl⟩
  rw [hrr] at HF
  have e : vNumbers F x y = if x.1 = 3 ∨ y.1 = 3 then (3, 0) else (r1, r2) := by unfold vNumbers; rw [hrr]
  rw [e]
  clear e hrr
  obtain ⟨xk, xn⟩ := x
  obtain ⟨yk, yn⟩ := y
  have hb0 : Below w.heap.size w (((w.alloc (.cells #[.int .i64 xk, .int .i64 xn] 25)).alloc (.cells #[.int .i64 yk, .int .i64 yn] 25)).alloc (.cells #[.int .i64 0, .int .i64 0] 25)) := (((Below.refl _ _).alloc (Nat.le_refl _) _).alloc (by simp) _).alloc (by simp; omega) _
  have cb : (((w.alloc (.cells #[.int .i64 xk, .int .i64 xn] 25)).alloc (.cells #[.int .i64 yk, .int .i64 yn] 25)).alloc (.cells #[.int .i64 0, .int .i64 0] 25)).cell? ⟨b, 0, none⟩ = some (.func (.func g) #[] #[]) := (hb0.cell hlt).trans hc
  have k0 : (((w.alloc (.cells #[.int .i64 xk, .int .i64 xn] 25)).alloc (.cells #[.int .i64 yk, .int .i64 yn] 25)).alloc (.cells #[.int .i64 0, .int .i64 0] 25)).cell? ⟨w.heap.size, 0, none⟩ = some (.int .i64 xk) := pw_cell_below (below_two (w.alloc _) _ _) (cell_new0 w _ _ _)
  have k1 : (((w.alloc (.cells #[.int .i64 xk, .int .i64 xn] 25)).alloc (.cells #[.int .i64 yk, .int .i64 yn] 25)).alloc (.cells #[.int .i64 0, .int .i64 0] 25)).cell? ⟨w.heap.size, 1, none⟩ = some (.int .i64 xn) := pw_cell_below (below_two (w.alloc _) _ _) (cell_new1 w _ _ _)
  have l0 : (((w.alloc (.cells #[.int .i64 xk, .int .i64 xn] 25)).alloc (.cells #[.int .i64 yk, .int .i64 yn] 25)).alloc (.cells #[.int .i64 0, .int .i64 0] 25)).cell? ⟨w.heap.size + 1, 0, none⟩ = some (.int .i64 yk) := pw_cell_below (below_one ((w.alloc _).alloc _) _) (by simp)
  have l1 : (((w.alloc (.cells #[.int .i64 xk, .int .i64 xn] 25)).alloc (.cells #[.int .i64 yk, .int .i64 yn] 25)).alloc (.cells #[.int .i64 0, .int .i64 0] 25)).cell? ⟨w.heap.size + 1, 1, none⟩ = some (.int .i64 yn) := pw_cell_below (below_one ((w.alloc _).alloc _) _) (by simp)
  have r0 : (((w.alloc (.cells #[.int .i64 xk, .int .i64 xn] 25)).alloc (.cells #[.int .i64 yk, .int .i64 yn] 25)).alloc (.cells #[.int .i64 0, .int .i64 0] 25)).heap[w.heap.size + 2]? = some (.cells #[.int .i64 0, .int .i64 0] 25 (0, 0)) := blk_new3' _ _ _ _
  have m0 := cell_of_row _ _ 0 _ _ _ r0
  have m1 := cell_of_row _ _ 1 _ _ _ r0
  have z0 := blk_frozen r0 0
  have z1 := blk_frozen r0 1
  simp only [List.getElem?_toArray, List.getElem?_cons_zero, List.getElem?_cons_succ] at m0 m1
  have HB0 := Sd.mk hb0
  by_cases h1 : xk = 3
  · subst h1
    rw [if_pos (Or.inl rfl)]
    clear HF eg hc r0
    go_enter Tryz.func160, Tryz.ntmps160
    go_wp2_with fail
    generalize ((w.alloc (.cells #[.int .i64 3, .int .i64 xn] 25)).alloc (.cells #[.int .i64 yk, .int .i64 yn] 25)).alloc (.cells #[.int .i64 0, .int .i64 0] 25) = W2 at HB0 cb k0 k1 l0 l1 m0 m1 z0 z1 ⊢
    clear hb0
    go_wp2_with (go_at_call 42; refine (v_NaN.calls 3 0 _ (by rfl)).mono ?_; rintro e w1 ⟨rfl, hb1⟩; have m0_ := m0; have m1_ := m1; have m0 := pw_cell_below hb1 m0_; have m1 := pw_cell_below hb1 m1_; have z0 := fz_below hb1 m0_ z0; have z1 := fz_below hb1 m1_ z1; clear m0_ m1_; have HB1 := Sd.mk (HB0.out.trans (hb1.mono HB0.out.size)); clear hb1)
    exact bodyPost_ret (v := vv (3, 0)) (by simp [results, Tryz.results160, go_sem, m0, m1]) rfl ⟨rfl, (HB1.out.setCell (by simp; omega) _).setCell (by simp; omega) _⟩
  · have c1 : (xk == 3) = false := beq_eq_false_iff_ne.2 h1
    by_cases h2 : yk = 3
    · subst h2
      rw [if_pos (Or.inr rfl)]
      clear h1
      clear HF eg hc r0
      go_enter Tryz.func160, Tryz.ntmps160
      go_wp2_with fail
      generalize ((w.alloc (.cells #[.int .i64 xk, .int .i64 xn] 25)).alloc (.cells #[.int .i64 3, .int .i64 yn] 25)).alloc (.cells #[.int .i64 0, .int .i64 0] 25) = W2 at HB0 cb k0 k1 l0 l1 m0 m1 z0 z1 ⊢
      clear hb0
      go_wp2_with (go_at_call 42; refine (v_NaN.calls 3 0 _ (by rfl)).mono ?_; rintro e w1 ⟨rfl, hb1⟩; have m0_ := m0; have m1_ := m1; have m0 := pw_cell_below hb1 m0_; have m1 := pw_cell_below hb1 m1_; have z0 := fz_below hb1 m0_ z0; have z1 := fz_below hb1 m1_ z1; clear m0_ m1_; have HB1 := Sd.mk (HB0.out.trans (hb1.mono HB0.out.size)); clear hb1)
      exact bodyPost_ret (v := vv (3, 0)) (by simp [results, Tryz.results160, go_sem, m0, m1]) rfl ⟨rfl, (HB1.out.setCell (by simp; omega) _).setCell (by simp; omega) _⟩
    · have c2 : (yk == 3) = false := beq_eq_false_iff_ne.2 h2
      rw [if_neg (fun h => h.elim h1 h2)]
      clear h1 h2 hc r0
      go_enter Tryz.func160, Tryz.ntmps160
      go_wp2_with fail
      generalize ((w.alloc (.cells #[.int .i64 xk, .int .i64 xn] 25)).alloc (.cells #[.int .i64 yk, .int .i64 yn] 25)).alloc (.cells #[.int .i64 0, .int .i64 0] 25) = W2 at HB0 cb k0 k1 l0 l1 m0 m1 z0 z1 ⊢
      clear hb0
      go_wp2_with (go_at_fn g; refine (HF.out _).mono ?_; rintro e w1 ⟨rfl, hb1⟩; have m0_ := m0; have m1_ := m1; have m0 := pw_cell_below hb1 m0_; have m1 := pw_cell_below hb1 m1_; have z0 := fz_below hb1 m0_ z0; have z1 := fz_below hb1 m1_ z1; clear m0_ m1_; have HB1 := Sd.mk (HB0.out.trans (hb1.mono HB0.out.size)); clear hb1)
      exact bodyPost_ret (v := vv (r1, r2)) (by simp [results, Tryz.results160, go_sem, m0, m1]) rfl ⟨rfl, (HB1.out.setCell (by simp; omega) _).setCell (by simp; omega) _⟩
theorem rank_calls (k n : Int) (w : World) : Calls Tryz.prog 130 #[.agg #[.int .i64 k, .int .i64 n]] w fun e w' => e = .returned (.int .i64 (vRank (k, n))) ∧ Below w.heap.size w w' := v_rank.calls k n _ w (rank_is (k, n))
/-- A test of two whole numbers. -/
def IsB (g : Nat) (F : Int → Int → Bool) : Prop := (∀ args w, (callFunc g args).run Tryz.prog w = .ok (.enter g args) w) ∧ ∀ w1 m n, Calls Tryz.prog g #[.int .i64 m, .int .i64 n] w1 fun e w' => e = .returned (.bool (F m n)) ∧ Drawn0 w1 w'
def vOrder (no : Bool) (F : Int → Int → Bool) (a b : V) : V := vTruth (if a.1 = 3 ∨ b.1 = 3 then no else F (vRank a) (vRank b))
theorem order1_calls (g : Nat) (no : Bool) (F : Int → Int → Bool) (hI : IsB g F) (b d : Nat) (x y : V) (w : World) (hc : w.cell? ⟨b, 0, none⟩ = some (.bool no)) (hd : w.cell? ⟨d, 0, none⟩ = some (.func (.func g) #[] #[])) :
    Calls Tryz.prog 165 #[vv x, vv y, .pointer (some ⟨b, 0, none⟩), .pointer (some ⟨d, 0, none⟩)] w fun e w' => e = .returned (vv (vOrder no F x y)) ∧ Below w.heap.size w w' := by
  obtain ⟨eg, hf⟩ := hI
  have hlt : b < w.heap.size := World.block_lt_of_cell? w _ hc
  have hlt' : d < w.heap.size := World.block_lt_of_cell? w _ hd
  obtain ⟨r1, r2, hrr⟩ : ∃ r1 r2, vOrder no F x y = (r1, r2) := ⟨_, _, rfl⟩
  have HT := Sd.mk ((truth_is (if x.1 = 3 ∨ y.1 = 3 then no else F (vRank x) (vRank y))).trans (congrArg some hrr))
  have HF := Sd.mk (fun w1 => hf w1 (vRank x) (vRank y))
  rw [hrr]
  clear hrr hf
  generalize F (vRank x) (vRank y) = fb at HF HT
  obtain ⟨xk, xn⟩ := x
  obtain ⟨yk, yn⟩ := y
  have hb0 : Below w.heap.size w (((w.alloc (.cells #[.int .i64 xk, .int .i64 xn] 25)).alloc (.cells #[.int .i64 yk, .int .i64 yn] 25)).alloc (.cells #[.int .i64 0, .int .i64 0] 25)) := (((Below.refl _ _).alloc (Nat.le_refl _) _).alloc (by simp) _).alloc (by simp; omega) _
  have cb : (((w.alloc (.cells #[.int .i64 xk, .int .i64 xn] 25)).alloc (.cells #[.int .i64 yk, .int .i64 yn] 25)).alloc (.cells #[.int .i64 0, .int .i64 0] 25)).cell? ⟨b, 0, none⟩ = some (.bool no) := (hb0.cell hlt).trans hc
  have cc : (((w.alloc (.cells #[.int .i64 xk, .int .i64 xn] 25)).alloc (.cells #[.int .i64 yk, .int .i64 yn] 25)).alloc (.cells #[.int .i64 0, .int .i64 0] 25)).cell? ⟨d, 0, none⟩ = some (.func (.func g) #[] #[]) := (hb0.cell hlt').trans hd
  have k0 : (((w.alloc (.cells #[.int .i64 xk, .int .i64 xn] 25)).alloc (.cells #[.int .i64 yk, .int .i64 yn] 25)).alloc (.cells #[.int .i64 0, .int .i64 0] 25)).cell? ⟨w.heap.size, 0, none⟩ = some (.int .i64 xk) := pw_cell_below (below_two (w.alloc _) _ _) (cell_new0 w _ _ _)
  have k1 : (((w.alloc (.cells #[.int .i64 xk, .int .i64 xn] 25)).alloc (.cells #[.int .i64 yk, .int .i64 yn] 25)).alloc (.cells #[.int .i64 0, .int .i64 0] 25)).cell? ⟨w.heap.size, 1, none⟩ = some (.int .i64 xn) := pw_cell_below (below_two (w.alloc _) _ _) (cell_new1 w _ _ _)
  have l0 : (((w.alloc (.cells #[.int .i64 xk, .int .i64 xn] 25)).alloc (.cells #[.int .i64 yk, .int .i64 yn] 25)).alloc (.cells #[.int .i64 0, .int .i64 0] 25)).cell? ⟨w.heap.size + 1, 0, none⟩ = some (.int .i64 yk) := pw_cell_below (below_one ((w.alloc _).alloc _) _) (by simp)
  have l1 : (((w.alloc (.cells #[.int .i64 xk, .int .i64 xn] 25)).alloc (.cells #[.int .i64 yk, .int .i64 yn] 25)).alloc (.cells #[.int .i64 0, .int .i64 0] 25)).cell? ⟨w.heap.size + 1, 1, none⟩ = some (.int .i64 yn) := pw_cell_below (below_one ((w.alloc _).alloc _) _) (by simp)
  have r0 : (((w.alloc (.cells #[.int .i64 xk, .int .i64 xn] 25)).alloc (.cells #[.int .i64 yk, .int .i64 yn] 25)).alloc (.cells #[.int .i64 0, .int .i64 0] 25)).heap[w.heap.size + 2]? = some (.cells #[.int .i64 0, .int .i64 0] 25 (0, 0)) := blk_new3' _ _ _ _
  have m0 := cell_of_row _ _ 0 _ _ _ r0
  have m1 := cell_of_row _ _ 1 _ _ _ r0
  have z0 := blk_frozen r0 0
  have z1 := blk_frozen r0 1
  simp only [List.getElem?_toArray, List.getElem?_cons_zero, List.getElem?_cons_succ] at m0 m1
  have HB0 := Sd.mk hb0
  by_cases h1 : xk = 3
  · subst h1
    rw [if_pos (Or.inl rfl)] at HT
    clear HF eg hc hd r0
    go_enter Tryz.func165, Tryz.ntmps165
    go_wp2_with fail
    generalize ((w.alloc (.cells #[.int .i64 3, .int .i64 xn] 25)).alloc (.cells #[.int .i64 yk, .int .i64 yn] 25)).alloc (.cells #[.int .i64 0, .int .i64 0] 25) = W2 at HB0 cb cc k0 k1 l0 l1 m0 m1 z0 z1 ⊢
    clear hb0
    go_wp2_with (go_at_call 124; refine (v_Truth.calls _ r1 r2 _ HT.out).mono ?_; rintro e w1 ⟨rfl, hb1⟩; have m0_ := m0; have m1_ := m1; have cb := pw_cell_below hb1 cb; have cc := pw_cell_below hb1 cc; have k0 := pw_cell_below hb1 k0; have k1 := pw_cell_below hb1 k1; have l0 := pw_cell_below hb1 l0; have l1 := pw_cell_below hb1 l1; have m0 := pw_cell_below hb1 m0_; have m1 := pw_cell_below hb1 m1_; have z0 := fz_below hb1 m0_ z0; have z1 := fz_below hb1 m1_ z1; clear m0_ m1_; have HB0 := Sd.mk (HB0.out.trans (hb1.mono HB0.out.size)); clear hb1)
    exact bodyPost_ret (v := vv (r1, r2)) (by simp [results, Tryz.results165, go_sem, m0, m1]) rfl ⟨rfl, (HB0.out.setCell (by simp; omega) _).setCell (by simp; omega) _⟩
  · have c1 : (xk == 3) = false := beq_eq_false_iff_ne.2 h1
    by_cases h2 : yk = 3
    · subst h2
      rw [if_pos (Or.inr rfl)] at HT
      clear h1
      clear HF eg hc hd r0
      go_enter Tryz.func165, Tryz.ntmps165
      go_wp2_with fail
      generalize ((w.alloc (.cells #[.int .i64 xk, .int .i64 xn] 25)).alloc (.cells #[.int .i64 3, .int .i64 yn] 25)).alloc (.cells #[.int .i64 0, .int .i64 0] 25) = W2 at HB0 cb cc k0 k1 l0 l1 m0 m1 z0 z1 ⊢
      clear hb0
      go_wp2_with (go_at_call 124; refine (v_Truth.calls _ r1 r2 _ HT.out).mono ?_; rintro e w1 ⟨rfl, hb1⟩; have m0_ := m0; have m1_ := m1; have cb := pw_cell_below hb1 cb; have cc := pw_cell_below hb1 cc; have k0 := pw_cell_below hb1 k0; have k1 := pw_cell_below hb1 k1; have l0 := pw_cell_below hb1 l0; have l1 := pw_cell_below hb1 l1; have m0 := pw_cell_below hb1 m0_; have m1 := pw_cell_below hb1 m1_; have z0 := fz_below hb1 m0_ z0; have z1 := fz_below hb1 m1_ z1; clear m0_ m1_; have HB0 := Sd.mk (HB0.out.trans (hb1.mono HB0.out.size)); clear hb1)
      exact bodyPost_ret (v := vv (r1, r2)) (by simp [results, Tryz.results165, go_sem, m0, m1]) rfl ⟨rfl, (HB0.out.setCell (by simp; omega) _).setCell (by simp; omega) _⟩
    · have c2 : (yk == 3) = false := beq_eq_false_iff_ne.2 h2
      rw [if_neg (fun h => h.elim h1 h2)] at HT
      clear h1 h2 hc hd r0
      go_enter Tryz.func165, Tryz.ntmps165
      go_wp2_with fail
      generalize ((w.alloc (.cells #[.int .i64 xk, .int .i64 xn] 25)).alloc (.cells #[.int .i64 yk, .int .i64 yn] 25)).alloc (.cells #[.int .i64 0, .int .i64 0] 25) = W2 at HB0 cb cc k0 k1 l0 l1 m0 m1 z0 z1 ⊢
      clear hb0
      go_region_with (first
          | (go_at_call 130; refine (rank_calls _ _ _).mono ?_; rintro e w1 ⟨rfl, hb1⟩; first | (have m0_ := m0; have m1_ := m1; have cb := pw_cell_below hb1 cb; have cc := pw_cell_below hb1 cc; have k0 := pw_cell_below hb1 k0; have k1 := pw_cell_below hb1 k1; have l0 := pw_cell_below hb1 l0; have l1 := pw_cell_below hb1 l1; have m0 := pw_cell_below hb1 m0_; have m1 := pw_cell_below hb1 m1_; have z0 := fz_below hb1 m0_ z0; have z1 := fz_below hb1 m1_ z1; clear m0_ m1_; have HB0 := Sd.mk (HB0.out.trans (hb1.mono HB0.out.size)); clear hb1) | (have m0_ := m0; have m1_ := m1; have cb := pw_cell_below hb1 cb; have cc := pw_cell_below hb1 cc; have k0 := pw_cell_below hb1 k0; have k1 := pw_cell_below hb1 k1; have l0 := pw_cell_below hb1 l0; have l1 := pw_cell_below hb1 l1; have m0 := pw_cell_below hb1 m0_; have m1 := pw_cell_below hb1 m1_; have z0 := fz_below hb1 m0_ z0; have z1 := fz_below hb1 m1_ z1; clear m0_ m1_; have HB0 := Sd.mk (HB0.out.trans (((Below.refl _ _).drew.trans hb1).mono HB0.out.size)); clear hb1))
          | (go_at_fn g; refine (HF.out _).mono ?_; rintro e w1 ⟨rfl, hb1'⟩; have hb1 := hb1'.below; clear hb1'; have m0_ := m0; have m1_ := m1; have cb := pw_cell_below hb1 cb; have cc := pw_cell_below hb1 cc; have k0 := pw_cell_below hb1 k0; have k1 := pw_cell_below hb1 k1; have l0 := pw_cell_below hb1 l0; have l1 := pw_cell_below hb1 l1; have m0 := pw_cell_below hb1 m0_; have m1 := pw_cell_below hb1 m1_; have z0 := fz_below hb1 m0_ z0; have z1 := fz_below hb1 m1_ z1; clear m0_ m1_; have HB0 := Sd.mk (HB0.out.trans (hb1.mono HB0.out.size)); clear hb1)
          | (go_at_call 124; refine (v_Truth.calls _ r1 r2 _ HT.out).mono ?_; rintro e w1 ⟨rfl, hb1⟩; have m0_ := m0; have m1_ := m1; have cb := pw_cell_below hb1 cb; have cc := pw_cell_below hb1 cc; have k0 := pw_cell_below hb1 k0; have k1 := pw_cell_below hb1 k1; have l0 := pw_cell_below hb1 l0; have l1 := pw_cell_below hb1 l1; have m0 := pw_cell_below hb1 m0_; have m1 := pw_cell_below hb1 m1_; have z0 := fz_below hb1 m0_ z0; have z1 := fz_below hb1 m1_ z1; clear m0_ m1_; have HB0 := Sd.mk (HB0.out.trans (hb1.mono HB0.out.size)); clear hb1))
      all_goals
        go_wp2_with fail
        exact bodyPost_ret (v := vv (r1, r2)) (by simp [results, Tryz.results165, go_sem, m0, m1]) rfl ⟨rfl, (HB0.out.setCell (by simp; omega) _).setCell (by simp; omega) _⟩
def layC_ren : Go.Shelf.Ren := ⟨fun | 29 => 173 | 31 => 159 | n => n, fun | 22 => 148 | 23 => 3 | n => n, fun | n => n⟩
theorem layC : Go.Proofs.SlLaysE.n31 Tryz.prog layC_ren := {
  mixed := by kernel_rfl
  f29 := ⟨Tryz.f173.name, by decide, Tryz.func173.trans (congrArg some (by kernel_rfl))⟩
  f31 := ⟨Tryz.f159.name, by decide, Tryz.func159.trans (congrArg some (by kernel_rfl))⟩
  t0 := Tryz.underlying0
  a0 := Tryz.isAgg0
  z0 := Tryz.sizeOf0
  v0 := Tryz.zeroValue0
  t3 := Tryz.underlying3
  a3 := Tryz.isAgg3
  z3 := Tryz.sizeOf3
  v3 := Tryz.zeroValue3
  t4 := Tryz.underlying4
  a4 := Tryz.isAgg4
  z4 := Tryz.sizeOf4
  v4 := Tryz.zeroValue4
  t22 := Tryz.underlying148
  a22 := Tryz.isAgg148
  z22 := Tryz.sizeOf148
  v22 := Tryz.zeroValue148
  a23 := Tryz.isAgg3
  z23 := Tryz.sizeOf3 }
def vKind (ks : List Int) (a : V) : V := vTruth (ks.any fun y => a.1 == y)
theorem kind1_calls (ks : List Int) (bb cap b : Nat) (x : V) (w : World) (hl : ks.length ≤ 9223372036854775807) (hc : w.cell? ⟨b, 0, none⟩ = some (.slice (some ⟨bb, 0, none⟩) ks.length cap)) (hk : ∀ j, j < ks.length → w.cell? ⟨bb, j, none⟩ = some (.int .i64 ks[j]!)) :
    Calls Tryz.prog 158 #[vv x, .pointer (some ⟨b, 0, none⟩)] w fun e w' => e = .returned (vv (vKind ks x)) ∧ Below w.heap.size w w' := by
  have hlt : b < w.heap.size := World.block_lt_of_cell? w _ hc
  obtain ⟨xk, xn⟩ := x
  have HCON := Sd.mk (fun (w1 : World) (h1 : Below w.heap.size w w1) => AnyE.slices_Contains layC (Value.int .i64) (fun x y => x == y) (EqlAt.int _ _ .i64) bb 0 ks.length cap ks xk w1 (Nat.le_refl _) hl (fun j hj => (h1.cell (p := ⟨bb, 0 + j, none⟩) (World.block_lt_of_cell? w ⟨bb, j, none⟩ (hk j hj))).trans (by rw [Nat.zero_add]; exact hk j hj)))
  obtain ⟨r1, r2, hrr⟩ : ∃ r1 r2, vKind ks (xk, xn) = (r1, r2) := ⟨_, _, rfl⟩
  have HT := Sd.mk ((truth_is (ks.any fun y => xk == y)).trans (congrArg some hrr))
  rw [hrr]
  clear hrr hk
  rw [List.take_length] at HCON
  generalize (ks.any fun y => xk == y) = q at HT HCON
  generalize ks.length = n at hc HCON
  have hb0 : Below w.heap.size w ((w.alloc (.cells #[.int .i64 xk, .int .i64 xn] 25)).alloc (.cells #[.int .i64 0, .int .i64 0] 25)) := below_two w _ _
  have cb : ((w.alloc (.cells #[.int .i64 xk, .int .i64 xn] 25)).alloc (.cells #[.int .i64 0, .int .i64 0] 25)).cell? ⟨b, 0, none⟩ = some (.slice (some ⟨bb, 0, none⟩) n cap) := (hb0.cell hlt).trans hc
  have k0 : ((w.alloc (.cells #[.int .i64 xk, .int .i64 xn] 25)).alloc (.cells #[.int .i64 0, .int .i64 0] 25)).cell? ⟨w.heap.size, 0, none⟩ = some (.int .i64 xk) := pw_cell_below (below_one (w.alloc _) _) (cell_new0 w _ _ _)
  have r0 : ((w.alloc (.cells #[.int .i64 xk, .int .i64 xn] 25)).alloc (.cells #[.int .i64 0, .int .i64 0] 25)).heap[w.heap.size + 1]? = some (.cells #[.int .i64 0, .int .i64 0] 25 (0, 0)) := blk_new2' _ _ _
  have m0 := cell_of_row _ _ 0 _ _ _ r0
  have m1 := cell_of_row _ _ 1 _ _ _ r0
  have z0 := blk_frozen r0 0
  have z1 := blk_frozen r0 1
  simp only [List.getElem?_toArray, List.getElem?_cons_zero, List.getElem?_cons_succ] at m0 m1
  have HB0 := Sd.mk hb0
  clear hc r0 hl
  go_enter Tryz.func158, Tryz.ntmps158
  go_wp2_with fail
  generalize (w.alloc (.cells #[.int .i64 xk, .int .i64 xn] 25)).alloc (.cells #[.int .i64 0, .int .i64 0] 25) = W2 at HB0 cb k0 m0 m1 z0 z1 ⊢
  clear hb0
  go_wp2_with (first
    | (go_at_call 159; refine (HCON.out _ HB0.out).mono ?_; rintro e w' ⟨rfl, rfl⟩)
    | (go_at_call 124; refine (v_Truth.calls _ r1 r2 _ HT.out).mono ?_; rintro e w1 ⟨rfl, hb1⟩; have m0_ := m0; have m1_ := m1; have m0 := pw_cell_below hb1 m0_; have m1 := pw_cell_below hb1 m1_; have z0 := fz_below hb1 m0_ z0; have z1 := fz_below hb1 m1_ z1; clear m0_ m1_; have HB0 := Sd.mk (HB0.out.trans (hb1.mono HB0.out.size)); clear hb1))
  exact bodyPost_ret (v := vv (r1, r2)) (by simp [results, Tryz.results158, go_sem, m0, m1]) rfl ⟨rfl, (HB0.out.setCell (by simp) _).setCell (by simp) _⟩
end Go.Proofs.YtcmiehddjgfjaaaGreat.A
namespace Go.Proofs.YtcmiehddjgfjaaaGreat.V
open Go.RowKit Go.Proofs.YtcmiehddjgfjaaaGreatW.PrintWords Go.Proofs.YtcmiehddjgfjaaaGreatW.PrintLast Go.Proofs.YtcmiehddjgfjaaaGreatW.PrintMore
/-- All blocks but r are as they were. -/
def Keeps (r : Nat) (w w1 : World) : Prop := w.heap.size ≤ w1.heap.size ∧ ∀ b, b < w.heap.size → b ≠ r → w1.heap[b]? = w.heap[b]?
theorem Keeps.refl (r : Nat) (w : World) : Keeps r w w := ⟨Nat.le_refl _, fun _ _ _ => rfl⟩
theorem Keeps.trans {r : Nat} {w w1 w2 : World} (h : Keeps r w w1) (h' : Keeps r w1 w2) : Keeps r w w2 := ⟨Nat.le_trans h.1 h'.1, fun b hb hn => (h'.2 b (Nat.lt_of_lt_of_le hb h.1) hn).trans (h.2 b hb hn)⟩
theorem Keeps.of_below {r : Nat} {w w1 : World} (h : Below w.heap.size w w1) : Keeps r w w1 := ⟨h.size, fun b hb _ => h.block b hb⟩
theorem cell_of_block {w w1 : World} {a : Addr} (h : w1.heap[a.block]? = w.heap[a.block]?) : w1.cell? a = w.cell? a := by
  unfold World.cell?
  rw [h]
theorem Keeps.cell {r : Nat} {w w1 : World} (h : Keeps r w w1) {b o : Nat} {v : Value} (hn : b ≠ r) (hc : w.cell? ⟨b, o, none⟩ = some v) : w1.cell? ⟨b, o, none⟩ = some v :=
  (cell_of_block (a := ⟨b, o, none⟩) (h.2 b (World.block_lt_of_cell? w _ hc) hn)).trans hc
section
variable {P : Program} {w : World} {r : Nat} {l : List (ByteArray × Value)} {T ks el : TypeId}
theorem run_insertK (ht : P.underlying T = some (.map ks el)) (hs : P.underlying ks = some .string) (h : HM w r l) (s : ByteArray) (v : Value) (hno : l.lookup s = none) :
    ∃ w', (Instr.mapUpdate T (.map (some r)) (.string s) v).run P w = .ok () w' ∧ HM w' r (l ++ [(s, v)]) ∧ (∀ B w0, B ≤ r → Below B w0 w → Below B w0 w') ∧ Keeps r w w' := by
  have hlt : r < w.heap.size := (Array.getElem?_eq_some_iff.1 h).1
  obtain ⟨j, hf⟩ := find_some s l 0 0
  rw [hno] at hf
  refine ⟨{ w with heap := w.heap.setIfInBounds r (.map ((ents l 0).toArray.push { key := .string s, val := v, born := l.length }) (l.length + 1)) }, ?_, ?_, ?_, ?_⟩
  · have hget : w.heap[r]? = some (.map (ents l 0).toArray l.length) := h
    have hfk : (Instr.findKey ks (.string s) (ents l 0)).run P w = .ok none w := MapKept.run_findKey hs hf
    have hck : (Instr.checkKey false 10000 ks (.string s)).run P w = .ok () w := MapKept.run_checkKey hs (by simp [MapKept.IsKey]) false 9999
    have hst := fun o => MapKept.run_setObj_map (P := P) o hget
    simp [Instr.mapUpdate, run_underlying ht, hck, MapKept.run_getObj_map hget, hst, hfk]
  · unfold HM
    simp [hlt, ents_snoc]
  · intro B w0 hB hb
    refine hb.trans ⟨rfl, rfl, rfl, by simp, fun k hk => ?_⟩
    simp only
    rw [Array.getElem?_setIfInBounds_ne (by omega)]
  · refine ⟨by simp, fun b hb hn => ?_⟩
    simp only
    rw [Array.getElem?_setIfInBounds_ne (by omega)]
end
section
variable {P : Program} {ops : Array Oper} {rest : List Oper} {o : Oper} {a : Act} {Q : Exit → Act → World → Prop} {w w0 : World} {r B : Nat} {l : List (ByteArray × Value)} {T ks el : TypeId}
/-- One entry more, in a literal. -/
theorem wpList_insertK (s : ByteArray) {m v : Operand} (hd : o.dst = none) (hgd : o.guard = none) (ho : o.op = .insert T m (.const (.string s)) v) (ht : P.underlying T = some (.map ks el)) (hs : P.underlying ks = some .string)
    (u : Value) (hm : a.eval m = .map (some r)) (hv : a.eval v = u) (h : HM w r l) (hno : l.lookup s = none) (hB : B ≤ r) (HB : Below B w0 w)
    (hK : ∀ w', HM w' r (l ++ [(s, u)]) → Below B w0 w' → Keeps r w w' → wpList P ops Q rest a w') : wpList P ops Q (o :: rest) a w := by
  subst hv
  obtain ⟨w', h1, h2, h3, h4⟩ := run_insertK ht hs h s (a.eval v) hno
  refine wpList_plain hgd fun K hK' => ?_
  unfold Oper.wp execOp
  have hc : a.eval (.const (.string s)) = .string s := rfl
  simp only [ho, hm, hc, Sem.run_bind, Sem.run_pure, Result.andThen_ok, h1]
  show K (a.put o.dst undef) _
  rw [hd]
  exact hK' a _ (hK w' h2 (h3 B w0 hB HB) h4)
end
end Go.Proofs.YtcmiehddjgfjaaaGreat.V
namespace Go.Proofs.YtcmiehddjgfjaaaGreat.A
open Go.RowKit Go.Proofs.YtcmiehddjgfjaaaGreatW.PrintWords Go.Proofs.YtcmiehddjgfjaaaGreatW.PrintLast Go.Proofs.YtcmiehddjgfjaaaGreatW.PrintMore Go.Proofs.YtcmiehddjgfjaaaGreat.V
/-- f tells F of a value, in whatever world in which all but block r lies as it does here. -/
def At1 (f : Value) (r : Nat) (w : World) (F : V → V) : Prop := ∃ (g : Nat) (cb : Array Value), f = .func (.func g) #[] cb ∧ (∀ args w, (callFunc g args).run Tryz.prog w = .ok (.enter g args) w) ∧
  ∀ w1, Keeps r w w1 → ∀ a, isV a → Calls Tryz.prog g (#[vv a] ++ cb) w1 fun e w' => e = .returned (vv (F a)) ∧ Below w1.heap.size w1 w'
def At2 (f : Value) (r : Nat) (w : World) (F : V → V → V) : Prop := ∃ (g : Nat) (cb : Array Value), f = .func (.func g) #[] cb ∧ (∀ args w, (callFunc g args).run Tryz.prog w = .ok (.enter g args) w) ∧
  ∀ w1, Keeps r w w1 → ∀ a b, isV a → isV b → Calls Tryz.prog g (#[vv a, vv b] ++ cb) w1 fun e w' => e = .returned (vv (F a b)) ∧ Below w1.heap.size w1 w'
theorem At1.keeps {f : Value} {r : Nat} {w w' : World} {F : V → V} (h : At1 f r w F) (hb : Keeps r w w') : At1 f r w' F := by
  obtain ⟨g, cb, rfl, eg, hc⟩ := h
  exact ⟨g, cb, rfl, eg, fun w1 h1 => hc w1 (hb.trans h1)⟩
theorem At2.keeps {f : Value} {r : Nat} {w w' : World} {F : V → V → V} (h : At2 f r w F) (hb : Keeps r w w') : At2 f r w' F := by
  obtain ⟨g, cb, rfl, eg, hc⟩ := h
  exact ⟨g, cb, rfl, eg, fun w1 h1 => hc w1 (hb.trans h1)⟩
theorem plain_calls (g : Nat) (F : Int → Int) (hI : IsI g F) (r : Nat) (w : World) (hr : r < w.heap.size) :
    Calls Tryz.prog 118 #[.func (.func g) #[] #[]] w fun e w' => ∃ f, e = .returned f ∧ At1 f r w' (vPlain F) ∧ Below w.heap.size w w' := by
  have HI := Sd.mk hI
  clear hI
  go_enter Tryz.func118, Tryz.ntmps118
  go_wp2
  go_ret
  refine ⟨_, rfl, ⟨157, #[.pointer (some ⟨w.heap.size, 0, none⟩)], rfl, enters_of Tryz.func157 (by kernel_rfl) rfl, fun w1 h1 a ha => ?_⟩, below_one w _⟩
  exact plain1_calls g F HI.out w.heap.size a w1 ha (h1.cell (by omega) (by simp))
theorem numbers_calls (g : Nat) (F : V → V → V) (hI : IsP g F) (r : Nat) (w : World) (hr : r < w.heap.size) :
    Calls Tryz.prog 126 #[.func (.func g) #[] #[]] w fun e w' => ∃ f, e = .returned f ∧ At2 f r w' (vNumbers F) ∧ Below w.heap.size w w' := by
  have HI := Sd.mk hI
  clear hI
  go_enter Tryz.func126, Tryz.ntmps126
  go_wp2
  go_ret
  refine ⟨_, rfl, ⟨160, #[.pointer (some ⟨w.heap.size, 0, none⟩)], rfl, enters_of Tryz.func160 (by kernel_rfl) rfl, fun w1 h1 a b ha hb => ?_⟩, below_one w _⟩
  exact numbers1_calls g F HI.out w.heap.size a b w1 ha hb (h1.cell (by omega) (by simp))
theorem order_calls (no : Bool) (g : Nat) (F : Int → Int → Bool) (hI : IsB g F) (r : Nat) (w : World) (hr : r < w.heap.size) :
    Calls Tryz.prog 133 #[.bool no, .func (.func g) #[] #[]] w fun e w' => ∃ f, e = .returned f ∧ At2 f r w' (vOrder no F) ∧ Below w.heap.size w w' := by
  have HI := Sd.mk hI
  clear hI
  go_enter Tryz.func133, Tryz.ntmps133
  go_wp2
  go_ret
  refine ⟨_, rfl, ⟨165, #[.pointer (some ⟨w.heap.size, 0, none⟩), .pointer (some ⟨w.heap.size + 1, 0, none⟩)], rfl, enters_of Tryz.func165 (by kernel_rfl) rfl, fun w1 h1 a b ha hb => ?_⟩, below_two w _ _⟩
  exact order1_calls g no F HI.out w.heap.size (w.heap.size + 1) a b w1 (h1.cell (by omega) (by simp)) (h1.cell (by omega) (by simp))
theorem kind_calls (ks : List Int) (bb cap r : Nat) (w : World) (hr : r < w.heap.size) (hbr : bb ≠ r) (hl : ks.length ≤ 9223372036854775807) (hk : ∀ j, j < ks.length → w.cell? ⟨bb, j, none⟩ = some (.int .i64 ks[j]!)) :
    Calls Tryz.prog 125 #[.slice (some ⟨bb, 0, none⟩) ks.length cap] w fun e w' => ∃ f, e = .returned f ∧ At1 f r w' (vKind ks) ∧ Below w.heap.size w w' := by
  have HK := Sd.mk hk
  clear hk
  go_enter Tryz.func125, Tryz.ntmps125
  go_wp2
  go_ret
  refine ⟨_, rfl, ⟨158, #[.pointer (some ⟨w.heap.size, 0, none⟩)], rfl, enters_of Tryz.func158 (by kernel_rfl) rfl, fun w1 h1 a ha => ?_⟩, below_one w _⟩
  exact kind1_calls ks bb cap w.heap.size a w1 hl (h1.cell (by omega) (by simp)) fun j hj => h1.cell hbr (pw_cell_below (below_one w _) (HK.out j hj))
theorem ones1_is : IsI 119 (fun n => -n) := ⟨enters_of Tryz.func119 (by kernel_rfl) rfl, fun w1 n h0 h1 => by
  refine (v_ones_1.calls n (-n) w1 ?_).mono fun e w' h => ⟨h.1, h.2.below⟩
  unfold v_ones_1.f
  rw [wrap_id (by omega) (by omega)]⟩
def vMax (n : Int) : Int := if n < -n then -n else n
theorem ones2_is : IsI 120 vMax := ⟨enters_of Tryz.func120 (by kernel_rfl) rfl, fun w1 n h0 h1 => by
  refine v_ones_2.calls n (vMax n) w1 ?_
  unfold v_ones_2.f
  rw [wrap_id (by omega) (by omega)]; rfl⟩
def vFloor (a : V) : V := if a.1 = 1 then vNum (a.2 - (a.2.tmod 1000 + 1000).tmod 1000) else a
def vNot (a : V) : V := if a.1 = 2 then a else vTruth (!vTrue a)
theorem tmod_bd (x : Int) : -1000 < x.tmod 1000 ∧ x.tmod 1000 < 1000 := ⟨Int.lt_tmod_of_pos x (by decide), Int.tmod_lt_of_pos x (by decide)⟩
theorem ones3_is {a : V} (ha : isV a) : v_ones_3.f a.1 a.2 = some (vFloor a) := by
  unfold v_ones_3.f vFloor
  have e : v_finite.f a.1 a.2 = some (decide (a.1 = 1)) := by
    unfold v_finite.f
    first | rfl | (congr 1)
  rw [e]
  show (if decide (a.1 = 1) = true then _ else _) = _
  by_cases h : a.1 = 1
  · have hb : -1000000000000000 ≤ a.2 ∧ a.2 ≤ 1000000000000000 := by
      rcases ha with ⟨_, h1, h2⟩ | ⟨_, h2⟩
      · exact ⟨h1, h2⟩
      · omega
    rw [if_pos (decide_eq_true h), if_pos h]
    have t1 := tmod_bd a.2
    have t2 := tmod_bd (a.2.tmod 1000 + 1000)
    have e1 : wrap64 (a.2.tmod 1000 + 1000) = a.2.tmod 1000 + 1000 := wrap_id (by omega) (by omega)
    rw [e1, wrap_id (by omega) (by omega), num_is]; rfl
  · rw [if_neg (by simpa using h), if_neg h]
theorem ones4_is (a : V) : v_ones_4.f a.1 a.2 = some (vNot a) := by
  unfold v_ones_4.f vNot
  rw [true_is a]
  by_cases h : a.1 = 2
  · rw [if_pos h, if_pos h]
  · rw [if_neg h, if_neg h]
    show (v_Truth.f (!vTrue a)).bind _ = _
    rw [truth_is]; rfl
theorem is1_ones3 (r : Nat) (w : World) : At1 (.func (.func 121) #[] #[]) r w vFloor := ⟨_, _, rfl, enters_of Tryz.func121 (by kernel_rfl) rfl, fun w1 _ a ha => v_ones_3.calls a.1 a.2 _ _ w1 (ones3_is ha)⟩
theorem is1_ones4 (r : Nat) (w : World) : At1 (.func (.func 123) #[] #[]) r w vNot := ⟨_, _, rfl, enters_of Tryz.func123 (by kernel_rfl) rfl, fun w1 _ a ha => v_ones_4.calls a.1 a.2 _ _ w1 (ones4_is a)⟩
theorem add_isP : IsP 127 vAdd := ⟨enters_of Tryz.func127 (by kernel_rfl) rfl, fun w1 a b ha hb => v_add.calls 3 a.1 a.2 b.1 b.2 _ _ w1 (add_is ha hb)⟩
theorem mul_isP : IsP 131 vMul := ⟨enters_of Tryz.func131 (by kernel_rfl) rfl, fun w1 a b ha hb => v_mul.calls 1 a.1 a.2 b.1 b.2 _ _ w1 (mul_is ha hb)⟩
theorem div_isP : IsP 132 vDiv := ⟨enters_of Tryz.func132 (by kernel_rfl) rfl, fun w1 a b ha hb => v_div.calls 2 a.1 a.2 b.1 b.2 _ _ w1 (div_is ha hb)⟩
def vSub (a b : V) : V := vAdd a (vNum (-vRank b))
theorem sub_is {a b : V} (ha : isV a) (hb : isV b) : v_twos_1.f 3 a.1 a.2 b.1 b.2 = some (vSub a b) := by
  have hr := isV_rank hb
  unfold v_twos_1.f vSub
  rw [rank_is b]
  show (v_back.f (wrap64 (-vRank b))).bind _ = _
  rw [wrap_id (by omega) (by omega), back_is]
  show (v_add.f 3 a.1 a.2 (vNum (-vRank b)).1 (vNum (-vRank b)).2).bind _ = _
  rw [add_is ha isV_num]; rfl
theorem sub_isP : IsP 128 vSub := ⟨enters_of Tryz.func128 (by kernel_rfl) rfl, fun w1 a b ha hb => v_twos_1.calls 3 a.1 a.2 b.1 b.2 _ _ w1 (sub_is ha hb)⟩
theorem eq_isB : IsB 134 (fun m n => m == n) := ⟨enters_of Tryz.func134 (by kernel_rfl) rfl, fun w1 m n => v_twos_2.calls m n _ w1 rfl⟩
theorem ne_isB : IsB 135 (fun m n => m != n) := ⟨enters_of Tryz.func135 (by kernel_rfl) rfl, fun w1 m n => v_twos_3.calls m n _ w1 rfl⟩
theorem lt_isB : IsB 136 (fun m n => decide (m < n)) := ⟨enters_of Tryz.func136 (by kernel_rfl) rfl, fun w1 m n => v_twos_4.calls m n _ w1 rfl⟩
theorem le_isB : IsB 137 (fun m n => decide (m ≤ n)) := ⟨enters_of Tryz.func137 (by kernel_rfl) rfl, fun w1 m n => v_twos_5.calls m n _ w1 rfl⟩
theorem gt_isB : IsB 138 (fun m n => decide (m > n)) := ⟨enters_of Tryz.func138 (by kernel_rfl) rfl, fun w1 m n => v_twos_6.calls m n _ w1 rfl⟩
theorem ge_isB : IsB 139 (fun m n => decide (m ≥ n)) := ⟨enters_of Tryz.func139 (by kernel_rfl) rfl, fun w1 m n => v_twos_7.calls m n _ w1 rfl⟩
def vAnd (a b : V) : V := vTruth (vTrue a && vTrue b)
def vOr (a b : V) : V := vTruth (vTrue a || vTrue b)
theorem and_is (a b : V) : v_twos_8.f a.1 a.2 b.1 b.2 = some (vAnd a b) := by
  unfold v_twos_8.f vAnd
  rw [true_is a, true_is b]
  cases vTrue a <;> simp [truth_is]
theorem or_is (a b : V) : v_twos_9.f a.1 a.2 b.1 b.2 = some (vOr a b) := by
  unfold v_twos_9.f vOr
  rw [true_is a, true_is b]
  cases vTrue a <;> simp [truth_is]
theorem is2_and (r : Nat) (w : World) : At2 (.func (.func 140) #[] #[]) r w vAnd := ⟨_, _, rfl, enters_of Tryz.func140 (by kernel_rfl) rfl, fun w1 _ a b ha hb => v_twos_8.calls a.1 a.2 b.1 b.2 _ _ w1 (and_is a b)⟩
theorem is2_or (r : Nat) (w : World) : At2 (.func (.func 141) #[] #[]) r w vOr := ⟨_, _, rfl, enters_of Tryz.func141 (by kernel_rfl) rfl, fun w1 _ a b ha hb => v_twos_9.calls a.1 a.2 b.1 b.2 _ _ w1 (or_is a b)⟩
def oneI (g : Nat) : Int → Int := if g = 119 then (fun n => -n) else vMax
theorem oneI_is {g : Nat} (h : g = 119 ∨ g = 120) : IsI g (oneI g) := by
  rcases h with rfl | rfl
  · exact ones1_is
  · exact ones2_is
def twoP (g : Nat) : V → V → V := if g = 127 then vAdd else if g = 128 then vSub else if g = 131 then vMul else vDiv
theorem twoP_is {g : Nat} (h : g = 127 ∨ g = 128 ∨ g = 131 ∨ g = 132) : IsP g (twoP g) := by
  rcases h with rfl | rfl | rfl | rfl
  · exact add_isP
  · exact sub_isP
  · exact mul_isP
  · exact div_isP
def twoB (g : Nat) : Int → Int → Bool := if g = 134 then (fun m n => m == n) else if g = 135 then (fun m n => m != n) else if g = 136 then (fun m n => decide (m < n)) else if g = 137 then (fun m n => decide (m ≤ n)) else if g = 138 then (fun m n => decide (m > n)) else (fun m n => decide (m ≥ n))
theorem twoB_is {g : Nat} (h : g = 134 ∨ g = 135 ∨ g = 136 ∨ g = 137 ∨ g = 138 ∨ g = 139) : IsB g (twoB g) := by
  rcases h with rfl | rfl | rfl | rfl | rfl | rfl
  · exact eq_isB
  · exact ne_isB
  · exact lt_isB
  · exact le_isB
  · exact gt_isB
  · exact ge_isB
theorem kind_one (k : Int) (r : Nat) (w : World) (hr : r < w.heap.size) : Calls Tryz.prog 125 #[.slice (some ⟨w.heap.size, 0, none⟩) 1 1] (w.alloc (.cells #[.int .i64 k] 3)) fun e w' => ∃ f, e = .returned f ∧ At1 f r w' (vKind [k]) ∧ Below w.heap.size w w' :=
  (kind_calls [k] w.heap.size 1 r _ (by simp; omega) (by omega) (by simp) (fun j hj => by
    have : j = 0 := by simp at hj; exact hj
    subst this; simp)).mono fun e w' ⟨f, h1, h2, h3⟩ => ⟨f, h1, h2, (below_one w _).trans (h3.mono (by simp))⟩
theorem kind_two (k l : Int) (r : Nat) (w : World) (hr : r < w.heap.size) : Calls Tryz.prog 125 #[.slice (some ⟨w.heap.size, 0, none⟩) 2 2] (w.alloc (.cells #[.int .i64 k, .int .i64 l] 3)) fun e w' => ∃ f, e = .returned f ∧ At1 f r w' (vKind [k, l]) ∧ Below w.heap.size w w' :=
  (kind_calls [k, l] w.heap.size 2 r _ (by simp; omega) (by omega) (by simp) (fun j hj => by
    have : j = 0 ∨ j = 1 := by simp at hj; omega
    rcases this with rfl | rfl <;> simp)).mono fun e w' ⟨f, h1, h2, h3⟩ => ⟨f, h1, h2, (below_one w _).trans (h3.mono (by simp))⟩
/-- The entries are these functions. -/
inductive Ents1 (r : Nat) (w : World) : List (ByteArray × Value) → List (ByteArray × (V → V)) → Prop
  | nil : Ents1 r w [] []
  | snoc {l t s f F} : Ents1 r w l t → At1 f r w F → Ents1 r w (l ++ [(s, f)]) (t ++ [(s, F)])
inductive Ents2 (r : Nat) (w : World) : List (ByteArray × Value) → List (ByteArray × (V → V → V)) → Prop
  | nil : Ents2 r w [] []
  | snoc {l t s f F} : Ents2 r w l t → At2 f r w F → Ents2 r w (l ++ [(s, f)]) (t ++ [(s, F)])
theorem Ents1.keeps {r : Nat} {w w' : World} {l t} (h : Ents1 r w l t) (hk : Keeps r w w') : Ents1 r w' l t := by
  induction h with
  | nil => exact .nil
  | snoc _ hf ih => exact .snoc ih (hf.keeps hk)
theorem Ents2.keeps {r : Nat} {w w' : World} {l t} (h : Ents2 r w l t) (hk : Keeps r w w') : Ents2 r w' l t := by
  induction h with
  | nil => exact .nil
  | snoc _ hf ih => exact .snoc ih (hf.keeps hk)
theorem lookup_snoc {α : Type} (op s : ByteArray) (f : α) : ∀ l : List (ByteArray × α), (l ++ [(s, f)]).lookup op = (l.lookup op).or (if (op == s) = true then some f else none)
  | [] => by rw [List.nil_append, List.lookup_cons]; cases op == s <;> rfl
  | (t, g) :: l => by
    rw [List.cons_append, List.lookup_cons, List.lookup_cons]
    cases op == t
    · exact lookup_snoc op s f l
    · rfl
/-- What is found. -/
theorem Ents1.find {r : Nat} {w : World} {l t} (h : Ents1 r w l t) (op : ByteArray) : (l.lookup op = none ∧ t.lookup op = none) ∨ ∃ f F, l.lookup op = some f ∧ t.lookup op = some F ∧ At1 f r w F := by
  induction h with
  | nil => exact .inl ⟨rfl, rfl⟩
  | @snoc l t s f F _ hf ih =>
    rw [lookup_snoc, lookup_snoc]
    rcases ih with ⟨h1, h2⟩ | ⟨f', F', h1, h2, h3⟩
    · rw [h1, h2]
      cases hs : op == s
      · exact .inl ⟨rfl, rfl⟩
      · exact .inr ⟨f, F, rfl, rfl, hf⟩
    · rw [h1, h2]
      exact .inr ⟨f', F', rfl, rfl, h3⟩
theorem Ents2.find {r : Nat} {w : World} {l t} (h : Ents2 r w l t) (op : ByteArray) : (l.lookup op = none ∧ t.lookup op = none) ∨ ∃ f F, l.lookup op = some f ∧ t.lookup op = some F ∧ At2 f r w F := by
  induction h with
  | nil => exact .inl ⟨rfl, rfl⟩
  | @snoc l t s f F _ hf ih =>
    rw [lookup_snoc, lookup_snoc]
    rcases ih with ⟨h1, h2⟩ | ⟨f', F', h1, h2, h3⟩
    · rw [h1, h2]
      cases hs : op == s
      · exact .inl ⟨rfl, rfl⟩
      · exact .inr ⟨f, F, rfl, rfl, hf⟩
    · rw [h1, h2]
      exact .inr ⟨f', F', rfl, rfl, h3⟩
/-- A map in the making. -/
structure Mk1 (w0 : World) (r : Nat) (l : List (ByteArray × Value)) (t : List (ByteArray × (V → V))) (w : World) : Prop where
  m : HM w r l
  e : Ents1 r w l t
  b : Below w0.heap.size w0 w
  h : w0.heap.size ≤ r
structure Mk2 (w0 : World) (r : Nat) (l : List (ByteArray × Value)) (t : List (ByteArray × (V → V → V))) (w : World) : Prop where
  m : HM w r l
  e : Ents2 r w l t
  b : Below w0.heap.size w0 w
  h : w0.heap.size ≤ r
theorem Mk1.lt {w0 w : World} {r l t} (h : Mk1 w0 r l t w) : r < w.heap.size := (Array.getElem?_eq_some_iff.1 h.m).1
theorem Mk2.lt {w0 w : World} {r l t} (h : Mk2 w0 r l t w) : r < w.heap.size := (Array.getElem?_eq_some_iff.1 h.m).1
theorem Mk1.below {w0 w w' : World} {r l t} (h : Mk1 w0 r l t w) (hb : Below w.heap.size w w') : Mk1 w0 r l t w' := ⟨h.m.below hb, h.e.keeps (.of_below hb), h.b.trans (hb.mono h.b.size), h.h⟩
theorem Mk2.below {w0 w w' : World} {r l t} (h : Mk2 w0 r l t w) (hb : Below w.heap.size w w') : Mk2 w0 r l t w' := ⟨h.m.below hb, h.e.keeps (.of_below hb), h.b.trans (hb.mono h.b.size), h.h⟩
theorem Mk1.more {w0 w w' : World} {r l t s f F} (h : Mk1 w0 r l t w) (hf : At1 f r w F) (hm : HM w' r (l ++ [(s, f)])) (hb : Below w0.heap.size w0 w') (hk : Keeps r w w') : Mk1 w0 r (l ++ [(s, f)]) (t ++ [(s, F)]) w' := ⟨hm, .snoc (h.e.keeps hk) (hf.keeps hk), hb, h.h⟩
theorem Mk2.more {w0 w w' : World} {r l t s f F} (h : Mk2 w0 r l t w) (hf : At2 f r w F) (hm : HM w' r (l ++ [(s, f)])) (hb : Below w0.heap.size w0 w') (hk : Keeps r w w') : Mk2 w0 r (l ++ [(s, f)]) (t ++ [(s, F)]) w' := ⟨hm, .snoc (h.e.keeps hk) (hf.keeps hk), hb, h.h⟩
def tab1 : List (ByteArray × (V → V)) := [(⟨#[45]⟩, vPlain (oneI 119)), (⟨#[97, 98, 115]⟩, vPlain (oneI 120)), (⟨#[102, 108, 111, 111, 114]⟩, vFloor), (⟨#[33]⟩, vNot), (⟨#[105, 115, 95, 110, 117, 108, 108]⟩, vKind [2]), (⟨#[105, 115, 95, 110, 97, 110]⟩, vKind [3]), (⟨#[105, 115, 95, 105, 110, 102]⟩, vKind [4, 5]), (⟨#[105, 115, 95, 110, 117, 109, 98, 101, 114]⟩, vKind [1])]
def tab2 : List (ByteArray × (V → V → V)) := [(⟨#[43]⟩, vNumbers (twoP 127)), (⟨#[45]⟩, vNumbers (twoP 128)), (⟨#[42]⟩, vNumbers (twoP 131)), (⟨#[47]⟩, vNumbers (twoP 132)), (⟨#[61, 61]⟩, vOrder false (twoB 134)), (⟨#[33, 61]⟩, vOrder true (twoB 135)), (⟨#[60]⟩, vOrder false (twoB 136)), (⟨#[60, 61]⟩, vOrder false (twoB 137)), (⟨#[62]⟩, vOrder false (twoB 138)), (⟨#[62, 61]⟩, vOrder false (twoB 139)), (⟨#[38, 38]⟩, vAnd), (⟨#[124, 124]⟩, vOr)]
theorem ones_calls (w : World) : Calls Tryz.prog 82 #[] w fun e w' => ∃ r l, e = .returned (.map (some r)) ∧ Mk1 w r l tab1 w' := by
  have hut := Tryz.underlying103
  have hus := Tryz.underlying9
  have hmm := @Go.RowKit.run_makeMap Tryz.prog
  have MK := Sd.mk (show Mk1 w w.heap.size [] [] (w.alloc (.map #[] 0)) from ⟨by exact blk_new w _, .nil, below_one w _, Nat.le_refl _⟩)
  go_enter Tryz.func82, Tryz.ntmps82
  go_wp2_with (first
    | (go_at_call 118; refine (plain_calls _ (oneI _) (oneI_is (by decide)) _ _ MK.out.lt).mono ?_; rintro e w1 ⟨f, rfl, hf, hb⟩; have MK := Sd.mk (MK.out.below hb); have HF := Sd.mk hf; clear hf hb)
    | (go_at_call 125; refine (kind_one _ _ _ MK.out.lt).mono ?_; rintro e w1 ⟨f, rfl, hf, hb⟩; have MK := Sd.mk (MK.out.below hb); have HF := Sd.mk hf; clear hf hb)
    | (go_at_call 125; refine (kind_two _ _ _ _ MK.out.lt).mono ?_; rintro e w1 ⟨f, rfl, hf, hb⟩; have MK := Sd.mk (MK.out.below hb); have HF := Sd.mk hf; clear hf hb)
    | ((with_reducible refine gate_ (.insert 103 (.tmp 1) (.const (.string ⟨#[45]⟩)) _) rfl ?_); refine wpList_insertK ⟨#[45]⟩ rfl rfl rfl hut hus _ rfl rfl MK.out.m (by first | rfl | decide) MK.out.h MK.out.b ?_; intro w1 hm hb hk; have MK := Sd.mk (MK.out.more HF.out hm hb hk); clear hm hb hk)
    | ((with_reducible refine gate_ (.insert 103 (.tmp 1) (.const (.string ⟨#[97, 98, 115]⟩)) _) rfl ?_); refine wpList_insertK ⟨#[97, 98, 115]⟩ rfl rfl rfl hut hus _ rfl rfl MK.out.m (by first | rfl | decide) MK.out.h MK.out.b ?_; intro w1 hm hb hk; have MK := Sd.mk (MK.out.more HF.out hm hb hk); clear hm hb hk)
    | ((with_reducible refine gate_ (.insert 103 (.tmp 1) (.const (.string ⟨#[102, 108, 111, 111, 114]⟩)) _) rfl ?_); refine wpList_insertK ⟨#[102, 108, 111, 111, 114]⟩ rfl rfl rfl hut hus _ rfl rfl MK.out.m (by first | rfl | decide) MK.out.h MK.out.b ?_; intro w1 hm hb hk; have MK := Sd.mk (MK.out.more (is1_ones3 _ _) hm hb hk); clear hm hb hk)
    | ((with_reducible refine gate_ (.insert 103 (.tmp 1) (.const (.string ⟨#[33]⟩)) _) rfl ?_); refine wpList_insertK ⟨#[33]⟩ rfl rfl rfl hut hus _ rfl rfl MK.out.m (by first | rfl | decide) MK.out.h MK.out.b ?_; intro w1 hm hb hk; have MK := Sd.mk (MK.out.more (is1_ones4 _ _) hm hb hk); clear hm hb hk)
    | ((with_reducible refine gate_ (.insert 103 (.tmp 1) (.const (.string ⟨#[105, 115, 95, 110, 117, 108, 108]⟩)) _) rfl ?_); refine wpList_insertK ⟨#[105, 115, 95, 110, 117, 108, 108]⟩ rfl rfl rfl hut hus _ rfl rfl MK.out.m (by first | rfl | decide) MK.out.h MK.out.b ?_; intro w1 hm hb hk; have MK := Sd.mk (MK.out.more HF.out hm hb hk); clear hm hb hk)
    | ((with_reducible refine gate_ (.insert 103 (.tmp 1) (.const (.string ⟨#[105, 115, 95, 110, 97, 110]⟩)) _) rfl ?_); refine wpList_insertK ⟨#[105, 115, 95, 110, 97, 110]⟩ rfl rfl rfl hut hus _ rfl rfl MK.out.m (by first | rfl | decide) MK.out.h MK.out.b ?_; intro w1 hm hb hk; have MK := Sd.mk (MK.out.more HF.out hm hb hk); clear hm hb hk)
    | ((with_reducible refine gate_ (.insert 103 (.tmp 1) (.const (.string ⟨#[105, 115, 95, 105, 110, 102]⟩)) _) rfl ?_); refine wpList_insertK ⟨#[105, 115, 95, 105, 110, 102]⟩ rfl rfl rfl hut hus _ rfl rfl MK.out.m (by first | rfl | decide) MK.out.h MK.out.b ?_; intro w1 hm hb hk; have MK := Sd.mk (MK.out.more HF.out hm hb hk); clear hm hb hk)
    | ((with_reducible refine gate_ (.insert 103 (.tmp 1) (.const (.string ⟨#[105, 115, 95, 110, 117, 109, 98, 101, 114]⟩)) _) rfl ?_); refine wpList_insertK ⟨#[105, 115, 95, 110, 117, 109, 98, 101, 114]⟩ rfl rfl rfl hut hus _ rfl rfl MK.out.m (by first | rfl | decide) MK.out.h MK.out.b ?_; intro w1 hm hb hk; have MK := Sd.mk (MK.out.more HF.out hm hb hk); clear hm hb hk))
  go_ret
  exact ⟨_, _, rfl, MK.out⟩
theorem twos_calls (w : World) : Calls Tryz.prog 83 #[] w fun e w' => ∃ r l, e = .returned (.map (some r)) ∧ Mk2 w r l tab2 w' := by
  have hut := Tryz.underlying107
  have hus := Tryz.underlying9
  have hmm := @Go.RowKit.run_makeMap Tryz.prog
  have MK := Sd.mk (show Mk2 w w.heap.size [] [] (w.alloc (.map #[] 0)) from ⟨by exact blk_new w _, .nil, below_one w _, Nat.le_refl _⟩)
  go_enter Tryz.func83, Tryz.ntmps83
  go_wp2_with (first
    | (go_at_call 126; refine (numbers_calls _ (twoP _) (twoP_is (by decide)) _ _ MK.out.lt).mono ?_; rintro e w1 ⟨f, rfl, hf, hb⟩; have MK := Sd.mk (MK.out.below hb); have HF := Sd.mk hf; clear hf hb)
    | (go_at_call 133; refine (order_calls _ _ (twoB _) (twoB_is (by decide)) _ _ MK.out.lt).mono ?_; rintro e w1 ⟨f, rfl, hf, hb⟩; have MK := Sd.mk (MK.out.below hb); have HF := Sd.mk hf; clear hf hb)
    | ((with_reducible refine gate_ (.insert 107 (.tmp 1) (.const (.string ⟨#[43]⟩)) _) rfl ?_); refine wpList_insertK ⟨#[43]⟩ rfl rfl rfl hut hus _ rfl rfl MK.out.m (by first | rfl | decide) MK.out.h MK.out.b ?_; intro w1 hm hb hk; have MK := Sd.mk (MK.out.more HF.out hm hb hk); clear hm hb hk)
    | ((with_reducible refine gate_ (.insert 107 (.tmp 1) (.const (.string ⟨#[45]⟩)) _) rfl ?_); refine wpList_insertK ⟨#[45]⟩ rfl rfl rfl hut hus _ rfl rfl MK.out.m (by first | rfl | decide) MK.out.h MK.out.b ?_; intro w1 hm hb hk; have MK := Sd.mk (MK.out.more HF.out hm hb hk); clear hm hb hk)
    | ((with_reducible refine gate_ (.insert 107 (.tmp 1) (.const (.string ⟨#[42]⟩)) _) rfl ?_); refine wpList_insertK ⟨#[42]⟩ rfl rfl rfl hut hus _ rfl rfl MK.out.m (by first | rfl | decide) MK.out.h MK.out.b ?_; intro w1 hm hb hk; have MK := Sd.mk (MK.out.more HF.out hm hb hk); clear hm hb hk)
    | ((with_reducible refine gate_ (.insert 107 (.tmp 1) (.const (.string ⟨#[47]⟩)) _) rfl ?_); refine wpList_insertK ⟨#[47]⟩ rfl rfl rfl hut hus _ rfl rfl MK.out.m (by first | rfl | decide) MK.out.h MK.out.b ?_; intro w1 hm hb hk; have MK := Sd.mk (MK.out.more HF.out hm hb hk); clear hm hb hk)
    | ((with_reducible refine gate_ (.insert 107 (.tmp 1) (.const (.string ⟨#[61, 61]⟩)) _) rfl ?_); refine wpList_insertK ⟨#[61, 61]⟩ rfl rfl rfl hut hus _ rfl rfl MK.out.m (by first | rfl | decide) MK.out.h MK.out.b ?_; intro w1 hm hb hk; have MK := Sd.mk (MK.out.more HF.out hm hb hk); clear hm hb hk)
    | ((with_reducible refine gate_ (.insert 107 (.tmp 1) (.const (.string ⟨#[33, 61]⟩)) _) rfl ?_); refine wpList_insertK ⟨#[33, 61]⟩ rfl rfl rfl hut hus _ rfl rfl MK.out.m (by first | rfl | decide) MK.out.h MK.out.b ?_; intro w1 hm hb hk; have MK := Sd.mk (MK.out.more HF.out hm hb hk); clear hm hb hk)
    | ((with_reducible refine gate_ (.insert 107 (.tmp 1) (.const (.string ⟨#[60]⟩)) _) rfl ?_); refine wpList_insertK ⟨#[60]⟩ rfl rfl rfl hut hus _ rfl rfl MK.out.m (by first | rfl | decide) MK.out.h MK.out.b ?_; intro w1 hm hb hk; have MK := Sd.mk (MK.out.more HF.out hm hb hk); clear hm hb hk)
    | ((with_reducible refine gate_ (.insert 107 (.tmp 1) (.const (.string ⟨#[60, 61]⟩)) _) rfl ?_); refine wpList_insertK ⟨#[60, 61]⟩ rfl rfl rfl hut hus _ rfl rfl MK.out.m (by first | rfl | decide) MK.out.h MK.out.b ?_; intro w1 hm hb hk; have MK := Sd.mk (MK.out.more HF.out hm hb hk); clear hm hb hk)
    | ((with_reducible refine gate_ (.insert 107 (.tmp 1) (.const (.string ⟨#[62]⟩)) _) rfl ?_); refine wpList_insertK ⟨#[62]⟩ rfl rfl rfl hut hus _ rfl rfl MK.out.m (by first | rfl | decide) MK.out.h MK.out.b ?_; intro w1 hm hb hk; have MK := Sd.mk (MK.out.more HF.out hm hb hk); clear hm hb hk)
    | ((with_reducible refine gate_ (.insert 107 (.tmp 1) (.const (.string ⟨#[62, 61]⟩)) _) rfl ?_); refine wpList_insertK ⟨#[62, 61]⟩ rfl rfl rfl hut hus _ rfl rfl MK.out.m (by first | rfl | decide) MK.out.h MK.out.b ?_; intro w1 hm hb hk; have MK := Sd.mk (MK.out.more HF.out hm hb hk); clear hm hb hk)
    | ((with_reducible refine gate_ (.insert 107 (.tmp 1) (.const (.string ⟨#[38, 38]⟩)) _) rfl ?_); refine wpList_insertK ⟨#[38, 38]⟩ rfl rfl rfl hut hus _ rfl rfl MK.out.m (by first | rfl | decide) MK.out.h MK.out.b ?_; intro w1 hm hb hk; have MK := Sd.mk (MK.out.more (is2_and _ _) hm hb hk); clear hm hb hk)
    | ((with_reducible refine gate_ (.insert 107 (.tmp 1) (.const (.string ⟨#[124, 124]⟩)) _) rfl ?_); refine wpList_insertK ⟨#[124, 124]⟩ rfl rfl rfl hut hus _ rfl rfl MK.out.m (by first | rfl | decide) MK.out.h MK.out.b ?_; intro w1 hm hb hk; have MK := Sd.mk (MK.out.more (is2_or _ _) hm hb hk); clear hm hb hk))
  go_ret
  exact ⟨_, _, rfl, MK.out⟩
def layV_ren : Go.Shelf.Ren := ⟨fun | 6 => 110 | 8 => 73 | n => n, fun | 22 => 47 | 23 => 25 | 25 => 49 | n => n, fun | n => n⟩
theorem layV : Go.Proofs.SlLaysH0.n8 Tryz.prog layV_ren := {
  mixed := by kernel_rfl
  f6 := ⟨Tryz.f110.name, by decide, Tryz.func110.trans (congrArg some (by kernel_rfl))⟩
  f8 := ⟨Tryz.f73.name, by decide, Tryz.func73.trans (congrArg some (by kernel_rfl))⟩
  t0 := Tryz.underlying0
  a0 := Tryz.isAgg0
  z0 := Tryz.sizeOf0
  v0 := Tryz.zeroValue0
  t3 := Tryz.underlying3
  a3 := Tryz.isAgg3
  z3 := Tryz.sizeOf3
  v3 := Tryz.zeroValue3
  t4 := Tryz.underlying4
  a4 := Tryz.isAgg4
  z4 := Tryz.sizeOf4
  v4 := Tryz.zeroValue4
  t22 := Tryz.underlying47
  a22 := Tryz.isAgg47
  z22 := Tryz.sizeOf47
  v22 := Tryz.zeroValue47
  t25 := Tryz.underlying49
  a25 := Tryz.isAgg49
  z25 := Tryz.sizeOf49
  v25 := Tryz.zeroValue49 }
abbrev sv (x : S25) : V := (x.f0, x.f1)
def badV (x : S25) : Bool := !decide (isV (sv x))
theorem check1_calls (x : S25) (w : World) : Calls Tryz.prog 74 #[.agg #[.int .i64 x.f0, .int .i64 x.f1]] w fun e w' => e = .returned (.bool (badV x)) ∧ Below w.heap.size w w' :=
  v_Check_1.calls x.f0 x.f1 _ w (by
    unfold v_Check_1.f
    rw [is_is (sv x)]; rfl)
def v_Check.f (l : List S25) : Option Int := some (if l.any badV then 80 else 0)
theorem v_Check.calls (A0 : Option Addr) (c0 : Nat) (l0 : List S25) (r : Int) (w : World) (hr0 : Kd.C k25 w A0 l0.length l0) (hc0 : l0.length ≤ c0) (h : v_Check.f l0 = some r) :
    Calls Tryz.prog 33 #[.slice A0 l0.length c0] w fun e w' => e = .returned (.int .i64 r) ∧ Below w.heap.size w w' := by
  injection h with h
  subst h
  have eg : ∀ args w, (callFunc 74 args).run Tryz.prog w = .ok (.enter 74 args) w := enters_of Tryz.func74 (by kernel_rfl) rfl
  have hi := Go.Proofs.YtcmiehddjgfjaaaGreat.I.containsFunc layV k25 z25 Tryz.isAgg25 Tryz.sizeOf25 badV 74 #[] eg A0 c0 l0 w hr0 (fun x _ w1 cs _ hK => by
    obtain rfl := k25_open hK
    exact check1_calls x w1)
  change Calls Tryz.prog 73 _ _ _ at hi
  generalize l0.any badV = r at hi
  have HI := Sd.mk hi
  clear hi hr0
  go_enter Tryz.func33, Tryz.ntmps33
  go_wp2_with (go_at_call 73; refine HI.out.mono ?_; rintro e w' ⟨rfl, hb'⟩; have HB := Sd.mk hb'; clear hb')
  all_goals
    go_ret
    exact ⟨by simp_all, HB.out⟩
def vDo (op : ByteArray) (l : List V) : V × Int :=
  if l.any (fun x => !decide (isV x)) = true then ((0, 0), 80) else
  match l with
  | [a] => (match tab1.lookup op with | some F => (F a, 0) | none => ((0, 0), 2))
  | [a, b] => (match tab2.lookup op with | some F => (if a.1 = 2 ∨ b.1 = 2 then ((2, 0), 0) else (F a b, 0)) | none => ((0, 0), 2))
  | _ => ((0, 0), 2)
theorem any_sv (l : List S25) : (l.map sv).any (fun x => !decide (isV x)) = l.any badV := by rw [List.any_map]; rfl
theorem Ents1.find_none {r : Nat} {w : World} {l t} (h : Ents1 r w l t) {op : ByteArray} (ht : t.lookup op = none) : l.lookup op = none := by
  rcases h.find op with ⟨h1, _⟩ | ⟨f, F, _, h2, _⟩
  · exact h1
  · rw [ht] at h2; exact absurd h2 (by simp)
theorem Ents1.find_some {r : Nat} {w : World} {l t} (h : Ents1 r w l t) {op : ByteArray} {F : V → V} (ht : t.lookup op = some F) : ∃ f, l.lookup op = some f ∧ At1 f r w F := by
  rcases h.find op with ⟨_, h2⟩ | ⟨f, F', h1, h2, h3⟩
  · rw [ht] at h2; exact absurd h2 (by simp)
  · rw [ht] at h2; injection h2 with h2; subst h2; exact ⟨f, h1, h3⟩
theorem Ents2.find_none {r : Nat} {w : World} {l t} (h : Ents2 r w l t) {op : ByteArray} (ht : t.lookup op = none) : l.lookup op = none := by
  rcases h.find op with ⟨h1, _⟩ | ⟨f, F, _, h2, _⟩
  · exact h1
  · rw [ht] at h2; exact absurd h2 (by simp)
theorem Ents2.find_some {r : Nat} {w : World} {l t} (h : Ents2 r w l t) {op : ByteArray} {F : V → V → V} (ht : t.lookup op = some F) : ∃ f, l.lookup op = some f ∧ At2 f r w F := by
  rcases h.find op with ⟨_, h2⟩ | ⟨f, F', h1, h2, h3⟩
  · rw [ht] at h2; exact absurd h2 (by simp)
  · rw [ht] at h2; injection h2 with h2; subst h2; exact ⟨f, h1, h3⟩
theorem null_calls (w : World) : Calls Tryz.prog 39 #[] w fun e w' => e = .returned (vv (2, 0)) ∧ Below w.heap.size w w' := by
  go_enter Tryz.func39, Tryz.ntmps39
  go_wp2
  refine bodyPost_ret (v := vv (2, 0)) (by simp [results, Tryz.results39, go_sem]) rfl ⟨rfl, ?_⟩
  repeat (first | exact Below.refl _ _ | (refine Below.alloc ?_ (by simp) _) | (refine Below.setCell ?_ (by simp) _))
section
variable (a0 : ByteArray) (c1 : Nat) (w : World)
theorem do_bad (A1 : Option Addr) (n : Nat) (hC : ∀ w1, Below w.heap.size w w1 → Calls Tryz.prog 33 #[.slice A1 n c1] w1 fun e w' => e = .returned (.int .i64 80) ∧ Below w1.heap.size w1 w') :
    Calls Tryz.prog 45 #[.string a0, .slice A1 n c1] w fun e w' => e = .returned (.tuple #[vv (0, 0), .int .i64 80]) ∧ Below w.heap.size w w' := by
  have hb0 : Below w.heap.size w (w.alloc (.cells #[.int .i64 0, .int .i64 0] 25)) := below_one w _
  have r0 : (w.alloc (.cells #[.int .i64 0, .int .i64 0] 25)).heap[w.heap.size]? = some (.cells #[.int .i64 0, .int .i64 0] 25 (0, 0)) := blk_new w _
  have m0 := cell_of_row _ _ 0 _ _ _ r0
  have m1 := cell_of_row _ _ 1 _ _ _ r0
  have z0 := blk_frozen r0 0
  have z1 := blk_frozen r0 1
  simp only [List.getElem?_toArray, List.getElem?_cons_zero, List.getElem?_cons_succ] at m0 m1
  have HB := Sd.mk hb0
  have HC := Sd.mk (hC _ hb0)
  clear hC
  go_enter Tryz.func45, Tryz.ntmps45
  go_wp2_with fail
  generalize w.alloc (.cells #[.int .i64 0, .int .i64 0] 25) = W1 at HB HC m0 m1 z0 z1 ⊢
  clear hb0 r0
  go_wp2_with (go_at_call 33; refine HC.out.mono ?_; rintro e w1 ⟨rfl, hb1⟩; have m0_ := m0; have m1_ := m1; have m0 := pw_cell_below hb1 m0_; have m1 := pw_cell_below hb1 m1_; have z0 := fz_below hb1 m0_ z0; have z1 := fz_below hb1 m1_ z1; clear m0_ m1_; have HB := Sd.mk (HB.out.trans (hb1.mono HB.out.size)); clear hb1)
  exact bodyPost_ret (v := .tuple #[vv (0, 0), .int .i64 80]) (by simp [results, Tryz.results45, go_sem, m0, m1]) rfl ⟨rfl, (HB.out.setCell (by simp) _).setCell (by simp) _⟩
theorem do_len (A1 : Option Addr) (n : Nat) (h1 : n ≠ 1) (h2 : n ≠ 2) (hC : ∀ w1, Below w.heap.size w w1 → Calls Tryz.prog 33 #[.slice A1 n c1] w1 fun e w' => e = .returned (.int .i64 0) ∧ Below w1.heap.size w1 w') :
    Calls Tryz.prog 45 #[.string a0, .slice A1 n c1] w fun e w' => e = .returned (.tuple #[vv (0, 0), .int .i64 2]) ∧ Below w.heap.size w w' := by
  have n1 : ((n : Int) == 1) = false := beq_eq_false_iff_ne.2 (by omega)
  have n2 : ((n : Int) == 2) = false := beq_eq_false_iff_ne.2 (by omega)
  clear h1 h2
  have hb0 : Below w.heap.size w (w.alloc (.cells #[.int .i64 0, .int .i64 0] 25)) := below_one w _
  have r0 : (w.alloc (.cells #[.int .i64 0, .int .i64 0] 25)).heap[w.heap.size]? = some (.cells #[.int .i64 0, .int .i64 0] 25 (0, 0)) := blk_new w _
  have m0 := cell_of_row _ _ 0 _ _ _ r0
  have m1 := cell_of_row _ _ 1 _ _ _ r0
  have z0 := blk_frozen r0 0
  have z1 := blk_frozen r0 1
  simp only [List.getElem?_toArray, List.getElem?_cons_zero, List.getElem?_cons_succ] at m0 m1
  have HB := Sd.mk hb0
  have HC := Sd.mk (hC _ hb0)
  clear hC
  go_enter Tryz.func45, Tryz.ntmps45
  go_wp2_with fail
  generalize w.alloc (.cells #[.int .i64 0, .int .i64 0] 25) = W1 at HB HC m0 m1 z0 z1 ⊢
  clear hb0 r0
  go_wp2_with (go_at_call 33; refine HC.out.mono ?_; rintro e w1 ⟨rfl, hb1⟩; have m0_ := m0; have m1_ := m1; have m0 := pw_cell_below hb1 m0_; have m1 := pw_cell_below hb1 m1_; have z0 := fz_below hb1 m0_ z0; have z1 := fz_below hb1 m1_ z1; clear m0_ m1_; have HB := Sd.mk (HB.out.trans (hb1.mono HB.out.size)); clear hb1)
  exact bodyPost_ret (v := .tuple #[vv (0, 0), .int .i64 2]) (by simp [results, Tryz.results45, go_sem, m0, m1]) rfl ⟨rfl, (HB.out.setCell (by simp) _).setCell (by simp) _⟩
theorem do_one_none (A : Addr) (x0 x1 : Int) (ht : tab1.lookup a0 = none) (hp0 : w.cell? A = some (.int .i64 x0)) (hp1 : w.cell? ⟨A.block, A.off + 1, none⟩ = some (.int .i64 x1)) (hC : ∀ w1, Below w.heap.size w w1 → Calls Tryz.prog 33 #[.slice (some A) 1 c1] w1 fun e w' => e = .returned (.int .i64 0) ∧ Below w1.heap.size w1 w') :
    Calls Tryz.prog 45 #[.string a0, .slice (some A) 1 c1] w fun e w' => e = .returned (.tuple #[vv (0, 0), .int .i64 2]) ∧ Below w.heap.size w w' := by
  have HT := Sd.mk ht
  clear ht
  have hb0 : Below w.heap.size w (w.alloc (.cells #[.int .i64 0, .int .i64 0] 25)) := below_one w _
  have r0 : (w.alloc (.cells #[.int .i64 0, .int .i64 0] 25)).heap[w.heap.size]? = some (.cells #[.int .i64 0, .int .i64 0] 25 (0, 0)) := blk_new w _
  have m0 := cell_of_row _ _ 0 _ _ _ r0
  have m1 := cell_of_row _ _ 1 _ _ _ r0
  have z0 := blk_frozen r0 0
  have z1 := blk_frozen r0 1
  simp only [List.getElem?_toArray, List.getElem?_cons_zero, List.getElem?_cons_succ] at m0 m1
  have HB := Sd.mk hb0
  have p0 := pw_cell_below hb0 hp0
  have p1 := pw_cell_below hb0 hp1
  have HC := Sd.mk (hC _ hb0)
  clear hC hp0 hp1
  go_enter Tryz.func45, Tryz.ntmps45
  go_wp2_with fail
  generalize w.alloc (.cells #[.int .i64 0, .int .i64 0] 25) = W1 at HB HC p0 p1 m0 m1 z0 z1 ⊢
  clear hb0 r0
  go_wp2_with (first
    | (go_at_call 33; refine HC.out.mono ?_; rintro e w1 ⟨rfl, hb1⟩; have p0 := pw_cell_below hb1 p0; have p1 := pw_cell_below hb1 p1; have m0_ := m0; have m1_ := m1; have m0 := pw_cell_below hb1 m0_; have m1 := pw_cell_below hb1 m1_; have z0 := fz_below hb1 m0_ z0; have z1 := fz_below hb1 m1_ z1; clear m0_ m1_; have HB := Sd.mk (HB.out.trans (hb1.mono HB.out.size)); clear hb1)
    | (go_at_call 82; refine (ones_calls _).mono ?_; rintro e w1 ⟨r, l, rfl, mk⟩; have hb1 := mk.b; have p0 := pw_cell_below hb1 p0; have p1 := pw_cell_below hb1 p1; have hlk := run_find (Tryz.underlying103) (Tryz.underlying9) mk.m a0 .nilFunc (Tryz.zeroValue101 _); rw [mk.e.find_none HT.out] at hlk; clear mk; have m0_ := m0; have m1_ := m1; have m0 := pw_cell_below hb1 m0_; have m1 := pw_cell_below hb1 m1_; have z0 := fz_below hb1 m0_ z0; have z1 := fz_below hb1 m1_ z1; clear m0_ m1_; have HB := Sd.mk (HB.out.trans (hb1.mono HB.out.size)); clear hb1))
  exact bodyPost_ret (v := .tuple #[vv (0, 0), .int .i64 2]) (by simp [results, Tryz.results45, go_sem, m0, m1]) rfl ⟨rfl, (HB.out.setCell (by simp) _).setCell (by simp) _⟩
theorem do_one (A : Addr) (x0 x1 : Int) (F : V → V) (ht : tab1.lookup a0 = some F) (r1 r2 : Int) (hF : F (x0, x1) = (r1, r2)) (hv : isV (x0, x1)) (hp0 : w.cell? A = some (.int .i64 x0)) (hp1 : w.cell? ⟨A.block, A.off + 1, none⟩ = some (.int .i64 x1)) (hC : ∀ w1, Below w.heap.size w w1 → Calls Tryz.prog 33 #[.slice (some A) 1 c1] w1 fun e w' => e = .returned (.int .i64 0) ∧ Below w1.heap.size w1 w') :
    Calls Tryz.prog 45 #[.string a0, .slice (some A) 1 c1] w fun e w' => e = .returned (.tuple #[vv (r1, r2), .int .i64 0]) ∧ Below w.heap.size w w' := by
  have HT := Sd.mk ht
  clear ht
  have HF := Sd.mk hF
  have HV := Sd.mk hv
  clear hF hv
  have hb0 : Below w.heap.size w (w.alloc (.cells #[.int .i64 0, .int .i64 0] 25)) := below_one w _
  have r0 : (w.alloc (.cells #[.int .i64 0, .int .i64 0] 25)).heap[w.heap.size]? = some (.cells #[.int .i64 0, .int .i64 0] 25 (0, 0)) := blk_new w _
  have m0 := cell_of_row _ _ 0 _ _ _ r0
  have m1 := cell_of_row _ _ 1 _ _ _ r0
  have z0 := blk_frozen r0 0
  have z1 := blk_frozen r0 1
  simp only [List.getElem?_toArray, List.getElem?_cons_zero, List.getElem?_cons_succ] at m0 m1
  have HB := Sd.mk hb0
  have p0 := pw_cell_below hb0 hp0
  have p1 := pw_cell_below hb0 hp1
  have HC := Sd.mk (hC _ hb0)
  clear hC hp0 hp1
  go_enter Tryz.func45, Tryz.ntmps45
  go_wp2_with fail
  generalize w.alloc (.cells #[.int .i64 0, .int .i64 0] 25) = W1 at HB HC p0 p1 m0 m1 z0 z1 ⊢
  clear hb0 r0
  go_wp2_with (first
    | (go_at_call 33; refine HC.out.mono ?_; rintro e w1 ⟨rfl, hb1⟩; have p0 := pw_cell_below hb1 p0; have p1 := pw_cell_below hb1 p1; have m0_ := m0; have m1_ := m1; have m0 := pw_cell_below hb1 m0_; have m1 := pw_cell_below hb1 m1_; have z0 := fz_below hb1 m0_ z0; have z1 := fz_below hb1 m1_ z1; clear m0_ m1_; have HB := Sd.mk (HB.out.trans (hb1.mono HB.out.size)); clear hb1)
    | (first
      | (go_at_call 82; refine (ones_calls _).mono ?_; rintro e w1 ⟨r, l, rfl, mk⟩; have hb1 := mk.b; have p0 := pw_cell_below hb1 p0; have p1 := pw_cell_below hb1 p1; obtain ⟨f, hf1, g, cb, rfl, eg, hf2⟩ := mk.e.find_some HT.out; have hlk := run_find (Tryz.underlying103) (Tryz.underlying9) mk.m a0 .nilFunc (Tryz.zeroValue101 _); rw [hf1] at hlk; have HG := Sd.mk (hf2 w1 (Keeps.refl _ _) (x0, x1) HV.out); clear mk hf1 hf2; simp only at hlk; have m0_ := m0; have m1_ := m1; have m0 := pw_cell_below hb1 m0_; have m1 := pw_cell_below hb1 m1_; have z0 := fz_below hb1 m0_ z0; have z1 := fz_below hb1 m1_ z1; clear m0_ m1_; have HB := Sd.mk (HB.out.trans (hb1.mono HB.out.size)); clear hb1; rw [HF.out] at HG)
      | (go_at_fn g; refine HG.out.mono ?_; rintro e w1 ⟨rfl, hb1⟩; have m0_ := m0; have m1_ := m1; have m0 := pw_cell_below hb1 m0_; have m1 := pw_cell_below hb1 m1_; have z0 := fz_below hb1 m0_ z0; have z1 := fz_below hb1 m1_ z1; clear m0_ m1_; have HB := Sd.mk (HB.out.trans (hb1.mono HB.out.size)); clear hb1)))
  exact bodyPost_ret (v := .tuple #[vv (r1, r2), .int .i64 0]) (by simp [results, Tryz.results45, go_sem, m0, m1]) rfl ⟨rfl, (HB.out.setCell (by simp) _).setCell (by simp) _⟩
theorem do_two_none (A : Addr) (x0 x1 y0 y1 : Int) (ht : tab2.lookup a0 = none) (hp0 : w.cell? A = some (.int .i64 x0)) (hp1 : w.cell? ⟨A.block, A.off + 1, none⟩ = some (.int .i64 x1)) (hq0 : w.cell? ⟨A.block, A.off + 2, none⟩ = some (.int .i64 y0)) (hq1 : w.cell? ⟨A.block, A.off + 2 + 1, none⟩ = some (.int .i64 y1)) (hC : ∀ w1, Below w.heap.size w w1 → Calls Tryz.prog 33 #[.slice (some A) 2 c1] w1 fun e w' => e = .returned (.int .i64 0) ∧ Below w1.heap.size w1 w') :
    Calls Tryz.prog 45 #[.string a0, .slice (some A) 2 c1] w fun e w' => e = .returned (.tuple #[vv (0, 0), .int .i64 2]) ∧ Below w.heap.size w w' := by
  have HT := Sd.mk ht
  clear ht
  have hb0 : Below w.heap.size w (w.alloc (.cells #[.int .i64 0, .int .i64 0] 25)) := below_one w _
  have r0 : (w.alloc (.cells #[.int .i64 0, .int .i64 0] 25)).heap[w.heap.size]? = some (.cells #[.int .i64 0, .int .i64 0] 25 (0, 0)) := blk_new w _
  have m0 := cell_of_row _ _ 0 _ _ _ r0
  have m1 := cell_of_row _ _ 1 _ _ _ r0
  have z0 := blk_frozen r0 0
  have z1 := blk_frozen r0 1
  simp only [List.getElem?_toArray, List.getElem?_cons_zero, List.getElem?_cons_succ] at m0 m1
  have HB := Sd.mk hb0
  have p0 := pw_cell_below hb0 hp0
  have p1 := pw_cell_below hb0 hp1
  have q0 := pw_cell_below hb0 hq0
  have q1 := pw_cell_below hb0 hq1
  have q2 : (w.alloc (.cells #[.int .i64 0, .int .i64 0] 25)).cell? ⟨A.block, A.off + 3, none⟩ = some (.int .i64 y1) := q1
  have HC := Sd.mk (hC _ hb0)
  clear hC hp0 hp1 hq0 hq1
  go_enter Tryz.func45, Tryz.ntmps45
  go_wp2_with fail
  generalize w.alloc (.cells #[.int .i64 0, .int .i64 0] 25) = W1 at HB HC p0 p1 q0 q1 q2 m0 m1 z0 z1 ⊢
  clear hb0 r0
  go_wp2_with (first
    | (go_at_call 33; refine HC.out.mono ?_; rintro e w1 ⟨rfl, hb1⟩; have p0 := pw_cell_below hb1 p0; have p1 := pw_cell_below hb1 p1; have q0 := pw_cell_below hb1 q0; have q1 := pw_cell_below hb1 q1; have q2 := pw_cell_below hb1 q2; have m0_ := m0; have m1_ := m1; have m0 := pw_cell_below hb1 m0_; have m1 := pw_cell_below hb1 m1_; have z0 := fz_below hb1 m0_ z0; have z1 := fz_below hb1 m1_ z1; clear m0_ m1_; have HB := Sd.mk (HB.out.trans (hb1.mono HB.out.size)); clear hb1)
    | (go_at_call 83; refine (twos_calls _).mono ?_; rintro e w1 ⟨r, l, rfl, mk⟩; have hb1 := mk.b; have p0 := pw_cell_below hb1 p0; have p1 := pw_cell_below hb1 p1; have q0 := pw_cell_below hb1 q0; have q1 := pw_cell_below hb1 q1; have q2 := pw_cell_below hb1 q2; have hlk := run_find (Tryz.underlying107) (Tryz.underlying9) mk.m a0 .nilFunc (Tryz.zeroValue105 _); rw [mk.e.find_none HT.out] at hlk; clear mk; have m0_ := m0; have m1_ := m1; have m0 := pw_cell_below hb1 m0_; have m1 := pw_cell_below hb1 m1_; have z0 := fz_below hb1 m0_ z0; have z1 := fz_below hb1 m1_ z1; clear m0_ m1_; have HB := Sd.mk (HB.out.trans (hb1.mono HB.out.size)); clear hb1))
  exact bodyPost_ret (v := .tuple #[vv (0, 0), .int .i64 2]) (by simp [results, Tryz.results45, go_sem, m0, m1]) rfl ⟨rfl, (HB.out.setCell (by simp) _).setCell (by simp) _⟩
theorem do_two_null (A : Addr) (x0 x1 y0 y1 : Int) (F : V → V → V) (ht : tab2.lookup a0 = some F) (hn : x0 = 2 ∨ y0 = 2) (hp0 : w.cell? A = some (.int .i64 x0)) (hp1 : w.cell? ⟨A.block, A.off + 1, none⟩ = some (.int .i64 x1)) (hq0 : w.cell? ⟨A.block, A.off + 2, none⟩ = some (.int .i64 y0)) (hq1 : w.cell? ⟨A.block, A.off + 2 + 1, none⟩ = some (.int .i64 y1)) (hC : ∀ w1, Below w.heap.size w w1 → Calls Tryz.prog 33 #[.slice (some A) 2 c1] w1 fun e w' => e = .returned (.int .i64 0) ∧ Below w1.heap.size w1 w') :
    Calls Tryz.prog 45 #[.string a0, .slice (some A) 2 c1] w fun e w' => e = .returned (.tuple #[vv (2, 0), .int .i64 0]) ∧ Below w.heap.size w w' := by
  have HT := Sd.mk ht
  clear ht
  have hb0 : Below w.heap.size w (w.alloc (.cells #[.int .i64 0, .int .i64 0] 25)) := below_one w _
  have r0 : (w.alloc (.cells #[.int .i64 0, .int .i64 0] 25)).heap[w.heap.size]? = some (.cells #[.int .i64 0, .int .i64 0] 25 (0, 0)) := blk_new w _
  have m0 := cell_of_row _ _ 0 _ _ _ r0
  have m1 := cell_of_row _ _ 1 _ _ _ r0
  have z0 := blk_frozen r0 0
  have z1 := blk_frozen r0 1
  simp only [List.getElem?_toArray, List.getElem?_cons_zero, List.getElem?_cons_succ] at m0 m1
  have HB := Sd.mk hb0
  have p0 := pw_cell_below hb0 hp0
  have p1 := pw_cell_below hb0 hp1
  have q0 := pw_cell_below hb0 hq0
  have q1 := pw_cell_below hb0 hq1
  have q2 : (w.alloc (.cells #[.int .i64 0, .int .i64 0] 25)).cell? ⟨A.block, A.off + 3, none⟩ = some (.int .i64 y1) := q1
  have HC := Sd.mk (hC _ hb0)
  clear hC hp0 hp1 hq0 hq1
  have c12 : (x0 = 2) ∨ ((x0 == 2) = false ∧ y0 = 2) := by
    by_cases h : x0 = 2
    · exact .inl h
    · exact .inr ⟨beq_eq_false_iff_ne.2 h, hn.resolve_left h⟩
  clear hn
  rcases c12 with rfl | ⟨c1, rfl⟩
  · go_enter Tryz.func45, Tryz.ntmps45
    go_wp2_with fail
    generalize w.alloc (.cells #[.int .i64 0, .int .i64 0] 25) = W1 at HB HC p0 p1 q0 q1 q2 m0 m1 z0 z1 ⊢
    clear hb0 r0
    go_wp2_with (first
      | (go_at_call 33; refine HC.out.mono ?_; rintro e w1 ⟨rfl, hb1⟩; have p0 := pw_cell_below hb1 p0; have p1 := pw_cell_below hb1 p1; have q0 := pw_cell_below hb1 q0; have q1 := pw_cell_below hb1 q1; have q2 := pw_cell_below hb1 q2; have m0_ := m0; have m1_ := m1; have m0 := pw_cell_below hb1 m0_; have m1 := pw_cell_below hb1 m1_; have z0 := fz_below hb1 m0_ z0; have z1 := fz_below hb1 m1_ z1; clear m0_ m1_; have HB := Sd.mk (HB.out.trans (hb1.mono HB.out.size)); clear hb1)
      | (go_at_call 83; refine (twos_calls _).mono ?_; rintro e w1 ⟨r, l, rfl, mk⟩; have hb1 := mk.b; have p0 := pw_cell_below hb1 p0; have p1 := pw_cell_below hb1 p1; have q0 := pw_cell_below hb1 q0; have q1 := pw_cell_below hb1 q1; have q2 := pw_cell_below hb1 q2; obtain ⟨f, hf1, g, cb, rfl, eg, hf2⟩ := mk.e.find_some HT.out; have hlk := run_find (Tryz.underlying107) (Tryz.underlying9) mk.m a0 .nilFunc (Tryz.zeroValue105 _); rw [hf1] at hlk; clear mk hf1 hf2; simp only at hlk; have m0_ := m0; have m1_ := m1; have m0 := pw_cell_below hb1 m0_; have m1 := pw_cell_below hb1 m1_; have z0 := fz_below hb1 m0_ z0; have z1 := fz_below hb1 m1_ z1; clear m0_ m1_; have HB := Sd.mk (HB.out.trans (hb1.mono HB.out.size)); clear hb1)
      | (go_at_call 39; refine (null_calls _).mono ?_; rintro e w1 ⟨rfl, hb1⟩; have m0_ := m0; have m1_ := m1; have m0 := pw_cell_below hb1 m0_; have m1 := pw_cell_below hb1 m1_; have z0 := fz_below hb1 m0_ z0; have z1 := fz_below hb1 m1_ z1; clear m0_ m1_; have HB := Sd.mk (HB.out.trans (hb1.mono HB.out.size)); clear hb1))
    exact bodyPost_ret (v := .tuple #[vv (2, 0), .int .i64 0]) (by simp [results, Tryz.results45, go_sem, m0, m1]) rfl ⟨rfl, (HB.out.setCell (by simp) _).setCell (by simp) _⟩
  · go_enter Tryz.func45, Tryz.ntmps45
    go_wp2_with fail
    generalize w.alloc (.cells #[.int .i64 0, .int .i64 0] 25) = W1 at HB HC p0 p1 q0 q1 q2 m0 m1 z0 z1 ⊢
    clear hb0 r0
    go_wp2_with (first
      | (go_at_call 33; refine HC.out.mono ?_; rintro e w1 ⟨rfl, hb1⟩; have p0 := pw_cell_below hb1 p0; have p1 := pw_cell_below hb1 p1; have q0 := pw_cell_below hb1 q0; have q1 := pw_cell_below hb1 q1; have q2 := pw_cell_below hb1 q2; have m0_ := m0; have m1_ := m1; have m0 := pw_cell_below hb1 m0_; have m1 := pw_cell_below hb1 m1_; have z0 := fz_below hb1 m0_ z0; have z1 := fz_below hb1 m1_ z1; clear m0_ m1_; have HB := Sd.mk (HB.out.trans (hb1.mono HB.out.size)); clear hb1)
      | (go_at_call 83; refine (twos_calls _).mono ?_; rintro e w1 ⟨r, l, rfl, mk⟩; have hb1 := mk.b; have p0 := pw_cell_below hb1 p0; have p1 := pw_cell_below hb1 p1; have q0 := pw_cell_below hb1 q0; have q1 := pw_cell_below hb1 q1; have q2 := pw_cell_below hb1 q2; obtain ⟨f, hf1, g, cb, rfl, eg, hf2⟩ := mk.e.find_some HT.out; have hlk := run_find (Tryz.underlying107) (Tryz.underlying9) mk.m a0 .nilFunc (Tryz.zeroValue105 _); rw [hf1] at hlk; clear mk hf1 hf2; simp only at hlk; have m0_ := m0; have m1_ := m1; have m0 := pw_cell_below hb1 m0_; have m1 := pw_cell_below hb1 m1_; have z0 := fz_below hb1 m0_ z0; have z1 := fz_below hb1 m1_ z1; clear m0_ m1_; have HB := Sd.mk (HB.out.trans (hb1.mono HB.out.size)); clear hb1)
      | (go_at_call 39; refine (null_calls _).mono ?_; rintro e w1 ⟨rfl, hb1⟩; have m0_ := m0; have m1_ := m1; have m0 := pw_cell_below hb1 m0_; have m1 := pw_cell_below hb1 m1_; have z0 := fz_below hb1 m0_ z0; have z1 := fz_below hb1 m1_ z1; clear m0_ m1_; have HB := Sd.mk (HB.out.trans (hb1.mono HB.out.size)); clear hb1))
    exact bodyPost_ret (v := .tuple #[vv (2, 0), .int .i64 0]) (by simp [results, Tryz.results45, go_sem, m0, m1]) rfl ⟨rfl, (HB.out.setCell (by simp) _).setCell (by simp) _⟩
theorem do_two (A : Addr) (x0 x1 y0 y1 : Int) (F : V → V → V) (ht : tab2.lookup a0 = some F) (r1 r2 : Int) (hn : ¬ (x0 = 2 ∨ y0 = 2)) (hF : F (x0, x1) (y0, y1) = (r1, r2)) (hv : isV (x0, x1)) (hu : isV (y0, y1)) (hp0 : w.cell? A = some (.int .i64 x0)) (hp1 : w.cell? ⟨A.block, A.off + 1, none⟩ = some (.int .i64 x1)) (hq0 : w.cell? ⟨A.block, A.off + 2, none⟩ = some (.int .i64 y0)) (hq1 : w.cell? ⟨A.block, A.off + 2 + 1, none⟩ = some (.int .i64 y1)) (hC : ∀ w1, Below w.heap.size w w1 → Calls Tryz.prog 33 #[.slice (some A) 2 c1] w1 fun e w' => e = .returned (.int .i64 0) ∧ Below w1.heap.size w1 w') :
    Calls Tryz.prog 45 #[.string a0, .slice (some A) 2 c1] w fun e w' => e = .returned (.tuple #[vv (r1, r2), .int .i64 0]) ∧ Below w.heap.size w w' := by
  have HT := Sd.mk ht
  clear ht
  have HF := Sd.mk hF
  have HV := Sd.mk hv
  have HU := Sd.mk hu
  have c1 : (x0 == 2) = false := beq_eq_false_iff_ne.2 fun h => hn (Or.inl h)
  have c2 : (y0 == 2) = false := beq_eq_false_iff_ne.2 fun h => hn (Or.inr h)
  clear hF hv hu hn
  have hb0 : Below w.heap.size w (w.alloc (.cells #[.int .i64 0, .int .i64 0] 25)) := below_one w _
  have r0 : (w.alloc (.cells #[.int .i64 0, .int .i64 0] 25)).heap[w.heap.size]? = some (.cells #[.int .i64 0, .int .i64 0] 25 (0, 0)) := blk_new w _
  have m0 := cell_of_row _ _ 0 _ _ _ r0
  have m1 := cell_of_row _ _ 1 _ _ _ r0
  have z0 := blk_frozen r0 0
  have z1 := blk_frozen r0 1
  simp only [List.getElem?_toArray, List.getElem?_cons_zero, List.getElem?_cons_succ] at m0 m1
  have HB := Sd.mk hb0
  have p0 := pw_cell_below hb0 hp0
  have p1 := pw_cell_below hb0 hp1
  have q0 := pw_cell_below hb0 hq0
  have q1 := pw_cell_below hb0 hq1
  have q2 : (w.alloc (.cells #[.int .i64 0, .int .i64 0] 25)).cell? ⟨A.block, A.off + 3, none⟩ = some (.int .i64 y1) := q1
  have HC := Sd.mk (hC _ hb0)
  clear hC hp0 hp1 hq0 hq1
  go_enter Tryz.func45, Tryz.ntmps45
  go_wp2_with fail
  generalize w.alloc (.cells #[.int .i64 0, .int .i64 0] 25) = W1 at HB HC p0 p1 q0 q1 q2 m0 m1 z0 z1 ⊢
  clear hb0 r0
  go_wp2_with (first
    | (go_at_call 33; refine HC.out.mono ?_; rintro e w1 ⟨rfl, hb1⟩; have p0 := pw_cell_below hb1 p0; have p1 := pw_cell_below hb1 p1; have q0 := pw_cell_below hb1 q0; have q1 := pw_cell_below hb1 q1; have q2 := pw_cell_below hb1 q2; have m0_ := m0; have m1_ := m1; have m0 := pw_cell_below hb1 m0_; have m1 := pw_cell_below hb1 m1_; have z0 := fz_below hb1 m0_ z0; have z1 := fz_below hb1 m1_ z1; clear m0_ m1_; have HB := Sd.mk (HB.out.trans (hb1.mono HB.out.size)); clear hb1)
    | (go_at_call 83; refine (twos_calls _).mono ?_; rintro e w1 ⟨r, l, rfl, mk⟩; have hb1 := mk.b; have p0 := pw_cell_below hb1 p0; have p1 := pw_cell_below hb1 p1; have q0 := pw_cell_below hb1 q0; have q1 := pw_cell_below hb1 q1; have q2 := pw_cell_below hb1 q2; obtain ⟨f, hf1, g, cb, rfl, eg, hf2⟩ := mk.e.find_some HT.out; have hlk := run_find (Tryz.underlying107) (Tryz.underlying9) mk.m a0 .nilFunc (Tryz.zeroValue105 _); rw [hf1] at hlk; have HG := Sd.mk (fun w2 (h2 : Keeps r w1 w2) => hf2 w2 h2 (x0, x1) (y0, y1) HV.out HU.out); clear mk hf1 hf2; simp only at hlk; have m0_ := m0; have m1_ := m1; have m0 := pw_cell_below hb1 m0_; have m1 := pw_cell_below hb1 m1_; have z0 := fz_below hb1 m0_ z0; have z1 := fz_below hb1 m1_ z1; clear m0_ m1_; have HB := Sd.mk (HB.out.trans (hb1.mono HB.out.size)); clear hb1; rw [HF.out] at HG))
  go_region_with (go_at_fn g; refine (HG.out _ (Keeps.of_below (Below.refl _ _).drew)).mono ?_; rintro e w1 ⟨rfl, hb1⟩; have m0_ := m0; have m1_ := m1; have m0 := pw_cell_below hb1 m0_; have m1 := pw_cell_below hb1 m1_; have z0 := fz_below hb1 m0_ z0; have z1 := fz_below hb1 m1_ z1; clear m0_ m1_; have HB := Sd.mk (HB.out.trans (((Below.refl _ _).drew.trans hb1).mono HB.out.size)); clear hb1)
  all_goals
    go_wp2_with fail
    exact bodyPost_ret (v := .tuple #[vv (r1, r2), .int .i64 0]) (by simp [results, Tryz.results45, go_sem, m0, m1]) rfl ⟨rfl, (HB.out.setCell (by simp) _).setCell (by simp) _⟩
end
def v_Do.f (a0 : ByteArray) (l1 : List S25) : Option (Int × Int × Int) := some ((vDo a0 (l1.map sv)).1.1, (vDo a0 (l1.map sv)).1.2, (vDo a0 (l1.map sv)).2)
theorem cellz {w : World} {A : Option Addr} {n : Nat} {xs : List S25} (h : Kd.C k25 w A n xs) (i : Nat) (h1 : i < n) : ∃ ad, A = some ad ∧ w.cell? (ad.add (i * 2)) = some (.int .i64 (rd_T25 xs i).f0) ∧ w.cell? ⟨(ad.add (i * 2)).block, (ad.add (i * 2)).off + 1, none⟩ = some (.int .i64 (rd_T25 xs i).f1) := by
  obtain ⟨ad, e, p0, p1⟩ := at_T25 h (i : Int) (by omega) (by omega)
  rw [Int.toNat_natCast] at p0 p1
  exact ⟨ad, e, p0, p1⟩
theorem v_Do.calls (a0 : ByteArray) (A1 : Option Addr) (c1 : Nat) (l1 : List S25) (r1 r2 r3 : Int) (w : World) (hr1 : Kd.C k25 w A1 l1.length l1) (hc1 : l1.length ≤ c1) (h : v_Do.f a0 l1 = some (r1, r2, r3)) :
    Calls Tryz.prog 45 #[.string a0, .slice A1 l1.length c1] w fun e w' => e = .returned (.tuple #[.agg #[.int .i64 r1, .int .i64 r2], .int .i64 r3]) ∧ Below w.heap.size w w' := by
  have hcall : Calls Tryz.prog 45 #[.string a0, .slice A1 l1.length c1] w fun e w' => e = .returned (.tuple #[vv (vDo a0 (l1.map sv)).1, .int .i64 (vDo a0 (l1.map sv)).2]) ∧ Below w.heap.size w w' := by
    clear h
    have hC : ∀ w1, Below w.heap.size w w1 → Calls Tryz.prog 33 #[.slice A1 l1.length c1] w1 fun e w' => e = .returned (.int .i64 (if l1.any badV then 80 else 0)) ∧ Below w1.heap.size w1 w' := fun w1 h1 => v_Check.calls A1 c1 l1 _ w1 (Kd.C_below hr1 h1) hc1 rfl
    by_cases hb : l1.any badV = true
    · rw [if_pos hb] at hC
      have e : vDo a0 (l1.map sv) = ((0, 0), 80) := by unfold vDo; rw [any_sv, if_pos hb]
      rw [e]
      exact do_bad a0 c1 w A1 l1.length hC
    · rw [if_neg hb] at hC
      match l1, hr1, hb, hC with
      | [], hr1, hb, hC =>
        have e : vDo a0 (([] : List S25).map sv) = ((0, 0), 2) := rfl
        rw [e]
        exact do_len a0 c1 w A1 0 (by decide) (by decide) hC
      | [x], hr1, hb, hC =>
        obtain ⟨ad, rfl, p0, p1⟩ := cellz hr1 0 (by simp)
        have hv : isV (x.f0, x.f1) := by simpa [badV, sv] using hb
        cases ht : tab1.lookup a0 with
        | none =>
          have e : vDo a0 ([x].map sv) = ((0, 0), 2) := by unfold vDo; rw [any_sv, if_neg hb]; simp [ht]
          rw [e]
          exact do_one_none a0 c1 w ad x.f0 x.f1 ht p0 p1 hC
        | some F =>
          have e : vDo a0 ([x].map sv) = (F (x.f0, x.f1), 0) := by unfold vDo; rw [any_sv, if_neg hb]; simp [ht]
          rw [e]
          exact do_one a0 c1 w ad x.f0 x.f1 F ht _ _ rfl hv p0 p1 hC
      | [x, y], hr1, hb, hC =>
        obtain ⟨ad, rfl, p0, p1⟩ := cellz hr1 0 (by simp)
        obtain ⟨ad', e', q0, q1⟩ := cellz hr1 1 (by simp)
        injection e' with e'
        subst e'
        have hv : isV (x.f0, x.f1) ∧ isV (y.f0, y.f1) := by simpa [badV, sv] using hb
        cases ht : tab2.lookup a0 with
        | none =>
          have e : vDo a0 ([x, y].map sv) = ((0, 0), 2) := by unfold vDo; rw [any_sv, if_neg hb]; simp [ht]
          rw [e]
          exact do_two_none a0 c1 w ad x.f0 x.f1 y.f0 y.f1 ht p0 p1 q0 q1 hC
        | some F =>
          by_cases hn : x.f0 = 2 ∨ y.f0 = 2
          · have e : vDo a0 ([x, y].map sv) = ((2, 0), 0) := by unfold vDo; rw [any_sv, if_neg hb]; simp [ht, hn]
            rw [e]
            exact do_two_null a0 c1 w ad x.f0 x.f1 y.f0 y.f1 F ht hn p0 p1 q0 q1 hC
          · have e : vDo a0 ([x, y].map sv) = (F (x.f0, x.f1) (y.f0, y.f1), 0) := by unfold vDo; rw [any_sv, if_neg hb]; simp [ht, hn]
            rw [e]
            exact do_two a0 c1 w ad x.f0 x.f1 y.f0 y.f1 F ht _ _ hn rfl hv.1 hv.2 p0 p1 q0 q1 hC
      | x :: y :: z :: l, hr1, hb, hC =>
        have e : vDo a0 ((x :: y :: z :: l).map sv) = ((0, 0), 2) := by unfold vDo; rw [any_sv, if_neg hb]; rfl
        rw [e]
        exact do_len a0 c1 w A1 _ (by simp) (by simp) hC
  injection h with h
  injection h with h1 h
  injection h with h2 h3
  subst h1 h2 h3
  exact hcall
theorem below1 (w : World) (o : Obj) : Below w.heap.size w (w.alloc o) := (Below.refl _ _).alloc (Nat.le_refl _) _
theorem fresh_C1 (w : World) (a1 a2 : Int) : Kd.C k25 (w.alloc (.cells #[.int .i64 a1, .int .i64 a2] 25)) (some ⟨w.heap.size, 0, none⟩) 1 [⟨a1, a2⟩] := by
  have r := blk_new w (.cells #[.int .i64 a1, .int .i64 a2] 25)
  refine ⟨rfl, by have : maxLen = 9223372036854775807 := rfl; simp, fun _ => ⟨_, rfl, fun j p hp => ?_⟩⟩
  match j, hp with
  | 0, hp =>
    injection hp with hp
    subst hp
    exact ⟨[.int .i64 a1, .int .i64 a2], rfl, k25_mk _ _, fun i u hu => by
      match i, hu with
      | 0, hu => exact (blk_cell r 0).trans hu
      | 1, hu => exact (blk_cell r 1).trans hu
      | i + 2, hu => simp at hu⟩
  | j + 1, hp => simp at hp
theorem fresh_C2 (w : World) (a1 a2 b1 b2 : Int) : Kd.C k25 (w.alloc (.cells #[.int .i64 a1, .int .i64 a2, .int .i64 b1, .int .i64 b2] 25)) (some ⟨w.heap.size, 0, none⟩) 2 [⟨a1, a2⟩, ⟨b1, b2⟩] := by
  have r := blk_new w (.cells #[.int .i64 a1, .int .i64 a2, .int .i64 b1, .int .i64 b2] 25)
  refine ⟨rfl, by have : maxLen = 9223372036854775807 := rfl; simp, fun _ => ⟨_, rfl, fun j p hp => ?_⟩⟩
  match j, hp with
  | 0, hp =>
    injection hp with hp
    subst hp
    exact ⟨[.int .i64 a1, .int .i64 a2], rfl, k25_mk _ _, fun i u hu => by
      match i, hu with
      | 0, hu => exact (blk_cell r 0).trans hu
      | 1, hu => exact (blk_cell r 1).trans hu
      | i + 2, hu => simp at hu⟩
  | 1, hp =>
    injection hp with hp
    subst hp
    exact ⟨[.int .i64 b1, .int .i64 b2], rfl, k25_mk _ _, fun i u hu => by
      match i, hu with
      | 0, hu => exact (blk_cell r 2).trans hu
      | 1, hu => exact (blk_cell r 3).trans hu
      | i + 2, hu => simp at hu⟩
  | j + 2, hp => simp at hp
theorem check1_fresh (a1 a2 : Int) (w : World) : Calls Tryz.prog 33 #[.slice (some ⟨w.heap.size, 0, none⟩) 1 1] (w.alloc (.cells #[.int .i64 a1, .int .i64 a2] 25)) fun e w' => e = .returned (.int .i64 (if isV (a1, a2) then 0 else 80)) ∧ Below w.heap.size w w' := by
  refine (v_Check.calls _ 1 [⟨a1, a2⟩] _ _ (fresh_C1 w a1 a2) (Nat.le_refl _) rfl).mono fun e w' ⟨he, hb⟩ => ⟨?_, (below1 w _).trans (hb.mono (below1 w _).size)⟩
  rw [he]
  congr 2
  by_cases h : isV (a1, a2)
  · simp [badV, sv, h]
  · simp [badV, sv, h]
theorem do2_any (op : ByteArray) (a1 a2 b1 b2 : Int) (w : World) {x y z : Int} (h : vDo op [(a1, a2), (b1, b2)] = ((x, y), z)) :
    Calls Tryz.prog 45 #[.string op, .slice (some ⟨w.heap.size, 0, none⟩) 2 2] (w.alloc (.cells #[.int .i64 a1, .int .i64 a2, .int .i64 b1, .int .i64 b2] 25)) fun e w' => e = .returned (.tuple #[.agg #[.int .i64 x, .int .i64 y], .int .i64 z]) ∧ Below w.heap.size w w' :=
  (v_Do.calls op _ 2 [⟨a1, a2⟩, ⟨b1, b2⟩] _ _ _ _ (fresh_C2 w a1 a2 b1 b2) (Nat.le_refl _) (by show some ((vDo op [(a1, a2), (b1, b2)]).1.1, (vDo op [(a1, a2), (b1, b2)]).1.2, (vDo op [(a1, a2), (b1, b2)]).2) = _; rw [h])).mono fun e w' ⟨he, hb⟩ => ⟨he, (below1 w _).trans (hb.mono (below1 w _).size)⟩
@[local go_sem] theorem eql_nilLabel (w : World) (a : Option Addr) (n c : Nat) : (binOp .eql 35 (.slice a n c) (.slice none 0 0)).run Tryz.prog w = .ok (.bool a.isNone) w := Lib.run_eql_slice_nil w 35 62 a n c 0 0 Tryz.underlying35
theorem cloneLabel (A : Option Addr) (c : Nat) (l : List S62) (w : World) (hr : Kd.C k62 w A l.length l) (hl : l.length * 32 ≤ 140737488355328) :
    Calls Tryz.prog 105 #[.slice A l.length c] w fun e w' => ∃ v0_ : Value, e = .returned v0_ ∧ Kd.R k62 62 w' w.heap.size (fun _ => True) v0_ l ∧ Below w.heap.size w w' := by
  have hu := Tryz.underlying62
  have HR := Sd.mk hr
  have HL := Sd.mk hl
  have HB := Sd.mk (Below.refl w.heap.size w)
  clear hr hl
  cases A with
  | none =>
    have hnil : l = [] := by
      cases l with
      | nil => rfl
      | cons x l =>
        obtain ⟨ad, h, _⟩ := HR.out.2.2 (by simp)
        cases h
    subst hnil
    go_enter Tryz.func105, Tryz.ntmps105
    go_wp2
    go_ret
    exact ⟨_, rfl, Kd.R_nil _ _ _ _ _, Below.refl _ _⟩
  | some ad =>
    go_enter Tryz.func105, Tryz.ntmps105
    go_wp2_with (first | ((with_reducible refine gate_dst (N := 5) rfl ?_); refine Kd.R_lit k62 _ 62 ?hg (N := 5) ?hd (xs := ([] : List (S62))) (inner := []) (ok := fun _ => True) (okp := fun _ => True) ?hr ?hp (fun _ hk => hk) trivial (Below.refl _ _) (Nat.le_refl _) (by simp) ?_; (case hd => rfl); (case hg => rfl); (case hr => first | (go_simp; done) | (go_simp; rfl)); (case hp => exact (Reps.none _ _)); intro v191 w34 ho35 hb hg_ hnew_; clear hg_ hnew_; have n0_ := Sd.mk (Kd.R_lower ho35 (below_size HB.out)); have n1_ := Sd.mk (below_step HB.out hb); clear HB; have HO192 := n0_; have HB := n1_; clear n0_ n1_; clear hb ho35) | ((with_reducible refine gate_builtin (b := .append) (xs := #[.tmp 5, .tmp 6]) rfl ?_); at_builtin; refine Kd.R_append_rows k62 (w0 := w) w.heap.size rfl (.tmp 5) (.tmp 6) 35 62 (.agg #[(.string ⟨#[]⟩), (.string ⟨#[]⟩)]) 32 rfl Tryz.underlying35 info62 rfl (by decide) (by omega) v191 [] l _ _ _ (fun _ => True) (fun _ => False) rfl rfl ?aO ?aR (fun _ _ h => h) (fun _ h => h.elim) ?aF ?aB ?aS ?aL ?_; (case aR => exact (Kd.C_below HR.out HB.out)); (case aB => exact HB.out); (case aF => exact (fun _ _ => trivial)); (case aO => exact HO192.out); (case aS => exact (below_size HB.out)); (case aL => have := HL.out; simp; omega); intro v194 w36 ho hb hg hat; have n0_ := Sd.mk (hb); have n1_ := Sd.mk (ho); clear HB; clear HO192; have HB := n0_; have HO195 := n1_; clear n0_ n1_; clear ho hb hg hat))
    go_ret
    exact ⟨_, rfl, HO195.out, HB.out⟩
@[local go_sem] theorem eql_nilPoint (w : World) (a : Option Addr) (n c : Nat) : (binOp .eql 22 (.slice a n c) (.slice none 0 0)).run Tryz.prog w = .ok (.bool a.isNone) w := Lib.run_eql_slice_nil w 22 39 a n c 0 0 Tryz.underlying22
theorem clonePoint (A : Option Addr) (c : Nat) (l : List S39) (w : World) (hr : Kd.C k39 w A l.length l) (hl : l.length * 24 ≤ 140737488355328) :
    Calls Tryz.prog 35 #[.slice A l.length c] w fun e w' => ∃ v0_ : Value, e = .returned v0_ ∧ Kd.R k39 39 w' w.heap.size (fun _ => True) v0_ l ∧ Below w.heap.size w w' := by
  have hu := Tryz.underlying39
  have HR := Sd.mk hr
  have HL := Sd.mk hl
  have HB := Sd.mk (Below.refl w.heap.size w)
  clear hr hl
  cases A with
  | none =>
    have hnil : l = [] := by
      cases l with
      | nil => rfl
      | cons x l =>
        obtain ⟨ad, h, _⟩ := HR.out.2.2 (by simp)
        cases h
    subst hnil
    go_enter Tryz.func35, Tryz.ntmps35
    go_wp2
    go_ret
    exact ⟨_, rfl, Kd.R_nil _ _ _ _ _, Below.refl _ _⟩
  | some ad =>
    go_enter Tryz.func35, Tryz.ntmps35
    go_wp2_with (first | ((with_reducible refine gate_dst (N := 5) rfl ?_); refine Kd.R_lit k39 _ 39 ?hg (N := 5) ?hd (xs := ([] : List (S39))) (inner := []) (ok := fun _ => True) (okp := fun _ => True) ?hr ?hp (fun _ hk => hk) trivial (Below.refl _ _) (Nat.le_refl _) (by simp) ?_; (case hd => rfl); (case hg => rfl); (case hr => first | (go_simp; done) | (go_simp; rfl)); (case hp => exact (Reps.none _ _)); intro v191 w34 ho35 hb hg_ hnew_; clear hg_ hnew_; have n0_ := Sd.mk (Kd.R_lower ho35 (below_size HB.out)); have n1_ := Sd.mk (below_step HB.out hb); clear HB; have HO192 := n0_; have HB := n1_; clear n0_ n1_; clear hb ho35) | ((with_reducible refine gate_builtin (b := .append) (xs := #[.tmp 5, .tmp 6]) rfl ?_); at_builtin; refine Kd.R_append_rows k39 (w0 := w) w.heap.size rfl (.tmp 5) (.tmp 6) 22 39 (.agg #[(.int .i64 0), (.int .i64 0), (.int .i64 0)]) 24 rfl Tryz.underlying22 info39 rfl (by decide) (by omega) v191 [] l _ _ _ (fun _ => True) (fun _ => False) rfl rfl ?aO ?aR (fun _ _ h => h) (fun _ h => h.elim) ?aF ?aB ?aS ?aL ?_; (case aR => exact (Kd.C_below HR.out HB.out)); (case aB => exact HB.out); (case aF => exact (fun _ _ => trivial)); (case aO => exact HO192.out); (case aS => exact (below_size HB.out)); (case aL => have := HL.out; simp; omega); intro v194 w36 ho hb hg hat; have n0_ := Sd.mk (hb); have n1_ := Sd.mk (ho); clear HB; clear HO192; have HB := n0_; have HO195 := n1_; clear n0_ n1_; clear ho hb hg hat))
    go_ret
    exact ⟨_, rfl, HO195.out, HB.out⟩
abbrev Pt := S39
def oddP (x : Pt) : Bool := decide (x.f1.f0 = 2 ∨ x.f1.f0 = 3)
theorem odd_is (k n : Int) : s_odd.f k n = some (decide (k = 2 ∨ k = 3)) := by
  unfold s_odd.f
  by_cases h : k = 2
  · rw [if_pos h, decide_eq_true (.inl h)]
  · rw [if_neg h]
    congr 1
    by_cases h3 : k = 3
    · rw [decide_eq_true (.inr h3)]; simpa using h3
    · rw [decide_eq_false (fun e => e.elim h h3)]; simpa using h3
theorem odd2_calls (x : Pt) (w : World) : Calls Tryz.prog 36 #[.agg #[.int .i64 x.f0, .int .i64 x.f1.f0, .int .i64 x.f1.f1]] w fun e w' => e = .returned (.bool (oddP x)) ∧ Below w.heap.size w w' := by
  have hb := below1 w (.cells #[.int .i64 x.f0, .int .i64 x.f1.f0, .int .i64 x.f1.f1] 39)
  have HC := Sd.mk (s_odd.calls x.f1.f0 x.f1.f1 _ (w.alloc (.cells #[.int .i64 x.f0, .int .i64 x.f1.f0, .int .i64 x.f1.f1] 39)) (odd_is _ _))
  have HB := Sd.mk hb
  unfold oddP
  generalize decide (x.f1.f0 = 2 ∨ x.f1.f0 = 3) = r at HC ⊢
  clear hb
  go_enter Tryz.func36, Tryz.ntmps36
  go_wp2_with (go_at_call 37; refine HC.out.mono ?_; rintro e w1 ⟨rfl, hb1⟩; have HE := Sd.mk (HB.out.trans (hb1.mono HB.out.size)); clear hb1)
  go_ret
  exact ⟨by first | rfl | simp, HE.out⟩
theorem odd3_calls (x : Pt) (w : World) : Calls Tryz.prog 41 #[.agg #[.int .i64 x.f0, .int .i64 x.f1.f0, .int .i64 x.f1.f1]] w fun e w' => e = .returned (.bool (oddP x)) ∧ Below w.heap.size w w' := by
  have hb := below1 w (.cells #[.int .i64 x.f0, .int .i64 x.f1.f0, .int .i64 x.f1.f1] 39)
  have HC := Sd.mk (s_odd.calls x.f1.f0 x.f1.f1 _ (w.alloc (.cells #[.int .i64 x.f0, .int .i64 x.f1.f0, .int .i64 x.f1.f1] 39)) (odd_is _ _))
  have HB := Sd.mk hb
  unfold oddP
  generalize decide (x.f1.f0 = 2 ∨ x.f1.f0 = 3) = r at HC ⊢
  clear hb
  go_enter Tryz.func41, Tryz.ntmps41
  go_wp2_with (go_at_call 37; refine HC.out.mono ?_; rintro e w1 ⟨rfl, hb1⟩; have HE := Sd.mk (HB.out.trans (hb1.mono HB.out.size)); clear hb1)
  go_ret
  exact ⟨by first | rfl | simp, HE.out⟩
theorem addP_own (g k : Nat) : (⟨g, 0, none⟩ : Addr).add k = ⟨g, k, none⟩ := by
  unfold Addr.add
  split
  · rename_i h; subst h; rfl
  · simp
theorem ownP_at {w : World} {base : Nat} {ok : Nat → Prop} {g n c : Nat} {xs : List Pt} (h : Kd.R k39 39 w base ok (.slice (some ⟨g, 0, none⟩) n c) xs) (j : Nat) (hj : j < xs.length) :
    w.cell? ⟨g, j * 3, none⟩ = some (.int .i64 (rd_T39 xs j).f0) ∧ w.cell? ⟨g, j * 3 + 1, none⟩ = some (.int .i64 (rd_T39 xs j).f1.f0) ∧ w.cell? ⟨g, j * 3 + 2, none⟩ = some (.int .i64 (rd_T39 xs j).f1.f1) := by
  obtain ⟨ad0, e0, p⟩ := at_T39 (Kd.R_reads' h).2.2 (j : Int) (by omega) (by omega)
  injection e0 with e0
  subst e0
  rw [Int.toNat_natCast, addP_own] at p
  exact p
theorem kP_flat {w w' : World} {b b' : Nat} {ok ok' : Nat → Prop} {x : Pt} {cs : List Value} (h : k39.M w b ok x cs) : k39.M w' b' ok' x cs := by
  obtain rfl := k39_openM h
  exact k39_mkM _ _ _ _
def zPt : Array Value := #[.int .i64 0, .int .i64 0, .int .i64 0]
theorem zPt_one (m : Nat) (h : m < 3) : (zPt[m]!).oneCell' = true := by
  match m, h with
  | 0, _ => rfl
  | 1, _ => rfl
  | 2, _ => rfl
/-- What a cleared tail leaves: the elements ahead of it. -/
theorem clearP_own {w0 W : World} {g n c : Nat} {xs : List Pt} (h : Kd.R k39 39 W w0.heap.size (fun _ => True) (.slice (some ⟨g, 0, none⟩) n c) xs) (hB : Below w0.heap.size w0 W) (i : Nat) (hi : i < n) :
    ∃ W1, (∀ ty, (Builtin.clear_ #[22] ty #[.slice (some ⟨g, i * 3, none⟩) (n - i) (c - i)]).run Tryz.prog W = .ok (.tuple #[]) W1) ∧ Kd.R k39 39 W1 w0.heap.size (fun _ => True) (.slice (some ⟨g, 0, none⟩) i c) (xs.take i) ∧ Below w0.heap.size w0 W1 := by
  have hn : n = xs.length := (Kd.R_reads' h).1
  have hnc : n ≤ c := (Kd.R_reads' h).2.1
  have h' := Kd.R_take h (m := i) (by omega)
  obtain ⟨h0, inner, hown, hr⟩ := h'
  rcases hown.2 with ⟨hv, _⟩ | ⟨g', cap', cur, hv, hb, hh, hic, hcm, hcs, htk⟩
  · cases hv
  injection hv with ha h2 h3
  injection ha with ha
  injection ha with hg'
  subst hg'; subst h3
  have hk3 : k39.sz = 3 := rfl
  rw [hk3] at hcs htk
  obtain ⟨zs, hzs⟩ : ∃ zs, zs = (Builtin.zeroCells zPt (n - i)).toList := ⟨_, rfl⟩
  have zl : zs.length = (n - i) * 3 := by rw [hzs]; simp [Builtin.zeroCells, zPt]
  have z1 : ∀ u ∈ zs, u.oneCell' = true := by
    intro u hu
    rw [hzs] at hu
    simp only [Builtin.zeroCells, Array.toList_map, List.mem_map] at hu
    obtain ⟨j, _, rfl⟩ := hu
    exact zPt_one _ (Nat.mod_lt _ (by decide))
  have hfit : i * 3 + zs.length ≤ cur.size := by rw [zl, hcs]; omega
  have hst := run_storeCells_cells (P := Tryz.prog) g (i * 3) zs 0 W (fun j hj => by
    rw [cell_of_row W g _ cur 39 (0, 0) hh]; simp; omega) (fun j _ => blk_frozen hh _) z1
  simp only [Nat.add_zero] at hst
  obtain ⟨cur', hh', hcs', hl'⟩ := setCells_row (e := 39) zs (i * 3) W cur hh hfit
  refine ⟨W.setCells g (i * 3) zs, fun ty => ?_, ⟨h0, inner, ⟨hown.1, .inr ⟨g, c, cur', by rw [← h2], hb, hh', hic, hcm, by rw [hcs', hcs, hk3], ?_⟩⟩, hr.imp_ (fun _ _ hp => kP_flat hp)⟩, ?_⟩
  · obtain ⟨m, hm⟩ : ∃ m, n - i = m + 1 := ⟨n - i - 1, by omega⟩
    rw [hm] at hzs
    rw [hm]
    have hzc : (Value.agg zPt).cells = zPt := by simp [Value.cells, zPt]
    have hz : (zeroValue 39).run Tryz.prog W = .ok (.agg zPt) W := Tryz.zeroValue39 W
    rw [hzs] at hst ⊢
    simp [Builtin.clear_, run_underlying Tryz.underlying22, hz, hzc, hst]
  · rw [hk3, ← h2, hl', List.append_assoc, List.take_append_of_le_length (by rw [List.length_take, Array.length_toList, hcs]; omega), List.take_take, Nat.min_self, ← htk, ← h2]
  · obtain ⟨s1, s2, s3, s4⟩ := setCells_same g zs (i * 3) W
    exact hB.trans ⟨s1, s2, s3, by rw [s4]; exact Nat.le_refl _, fun k hk => setCells_far zs _ k (by omega)⟩
theorem info39s : (Tryz.prog.info? 39).map (·.size) = some 3 := by kernel_rfl
abbrev ptL (x : Pt) : List Value := [.int .i64 x.f0, .int .i64 x.f1.f0, .int .i64 x.f1.f1]
/-- xs[i] = x, in a row of the call's own. -/
theorem store_pt {ops : Array Oper} {rest : List Oper} {o : Oper} {a : Act} {Q : Exit → Act → World → Prop} {W : World} {B : Nat} {w0 : World} (x' y' : Operand) (hN : o.dst = none) (hgd : o.guard = none) (ho : o.op = .store 39 x' y') {g n c o' : Nat} (i : Nat) (xs : List Pt) (x : Pt)
    (haddr : a.eval x' = .pointer (some ⟨g, o', none⟩)) (hoff : o' = i * 3) (hx : a.eval y' = .agg #[.int .i64 x.f0, .int .i64 x.f1.f0, .int .i64 x.f1.f1])
    (HO : Kd.R k39 39 W B (fun _ => True) (.slice (some ⟨g, 0, none⟩) n c) xs) (hi : i < xs.length) (HB : Below B w0 W)
    (h : ∀ w1, Kd.R k39 39 w1 B (fun _ => True) (.slice (some ⟨g, 0, none⟩) n c) (xs.set i x) → Below B w0 w1 → W.grownBy w1 (some g) → wpList Tryz.prog ops Q rest a w1) : wpList Tryz.prog ops Q (o :: rest) a W := by
  obtain ⟨o0, o1, o2⟩ := ownP_at HO i hi
  have hn := (Kd.R_reads' HO).1
  refine Kd.R_store k39 (w0 := w0) B hN hgd 39 x' y' ho 39 (i : Int) 0 xs x (.agg #[.int .i64 x.f0, .int .i64 x.f1.f0, .int .i64 x.f1.f1]) (ptL x) (ptL (rd_T39 xs i)) (fun _ => True) (fun _ => False) haddr (by rw [hoff]; rfl) hx (by simp [Value.cells]) info39s ?_ HO (by omega) (by omega) rfl ?_ (Nat.le_refl 3) (k39_mkM _ _ _ _) (fun _ hk => hk.elim) HB (by rw [Int.toNat_natCast]; exact h)
  · intro q hq
    simp only [List.mem_cons, List.not_mem_nil, or_false] at hq
    rcases hq with rfl | rfl | rfl <;> rfl
  · intro m u hu
    rw [Int.toNat_natCast]
    match m, hu with
    | 0, hu => injection hu with hu; subst hu; exact o0
    | 1, hu => injection hu with hu; subst hu; exact o1
    | 2, hu => injection hu with hu; subst hu; exact o2
    | m + 3, hu => simp at hu
theorem keep_step {p : Pt → Bool} {l xs : List Pt} {i j : Nat} (hl : xs.length = l.length) (ht : xs.take i = (l.take j).filter p) (hd : xs.drop j = l.drop j) (hij : i < j) (hj : j < l.length) (hp : p l[j] = true) :
    (xs.set i l[j]).length = l.length ∧ (xs.set i l[j]).take (i + 1) = (l.take (j + 1)).filter p ∧ (xs.set i l[j]).drop (j + 1) = l.drop (j + 1) := by
  refine ⟨by rw [List.length_set, hl], ?_, ?_⟩
  · rw [List.take_add_one, List.take_set_of_le (Nat.le_refl _), ht, List.getElem?_set_self (by omega), List.take_add_one (i := j), List.getElem?_eq_getElem hj, List.filter_append]
    simp [hp]
  · rw [List.drop_set_of_lt (by omega), ← List.drop_drop, hd, List.drop_drop]
theorem drop_step {p : Pt → Bool} {l xs : List Pt} {i j : Nat} (ht : xs.take i = (l.take j).filter p) (hd : xs.drop j = l.drop j) (hj : j < l.length) (hp : ¬ p l[j] = true) :
    xs.take i = (l.take (j + 1)).filter p ∧ xs.drop (j + 1) = l.drop (j + 1) := by
  refine ⟨?_, ?_⟩
  · rw [ht, List.take_add_one (i := j), List.getElem?_eq_getElem hj, List.filter_append]
    simp [hp]
  · rw [← List.drop_drop, hd, List.drop_drop]
theorem idxP_at (q : Pt → Bool) : ∀ (l : List Pt) (i : Nat), (Go.Proofs.YtcmiehddjgfjaaaGreat.I.idxP q l i = -1 ∧ l.filter (fun x => !q x) = l) ∨ ∃ k : Nat, Go.Proofs.YtcmiehddjgfjaaaGreat.I.idxP q l i = ((i + k : Nat) : Int) ∧ k < l.length ∧ (l.take (k + 1)).filter (fun x => !q x) = l.take k
  | [], i => .inl ⟨rfl, rfl⟩
  | x :: l, i => by
    rw [Go.Proofs.YtcmiehddjgfjaaaGreat.I.idxP]
    by_cases h : q x = true
    · rw [if_pos h]
      refine .inr ⟨0, rfl, by simp, ?_⟩
      rw [List.take_succ_cons, List.filter_cons_of_neg (by rw [h]; simp)]
      simp
    · rw [if_neg h]
      have hn : (!q x) = true := by simpa using h
      rcases idxP_at q l (i + 1) with ⟨h1, h2⟩ | ⟨k, h1, h2, h3⟩
      · exact .inl ⟨h1, by rw [List.filter_cons_of_pos (p := fun x => !q x) hn, h2]⟩
      · refine .inr ⟨k + 1, by rw [h1]; congr 1; omega, by simp; omega, ?_⟩
        rw [List.take_succ_cons, List.filter_cons_of_pos (p := fun x => !q x) hn, h3, List.take_succ_cons]
theorem deleteP_calls (l : List Pt) (v : Value) (w0 w : World) (hv : Kd.R k39 39 w w0.heap.size (fun _ => True) v l) (hb : Below w0.heap.size w0 w) :
    Calls Tryz.prog 34 #[v, .func (.func 36) #[] #[]] w fun e w' => ∃ v0_ : Value, e = .returned v0_ ∧ Kd.R k39 39 w' w0.heap.size (fun _ => True) v0_ (l.filter fun x => !oddP x) ∧ Below w0.heap.size w0 w' := by
  have eg : ∀ args w, (callFunc 36 args).run Tryz.prog w = .ok (.enter 36 args) w := enters_of Tryz.func36 (by kernel_rfl) rfl
  have HEG := Sd.mk eg
  clear eg
  have hu39 := Tryz.underlying39
  have HV := Sd.mk hv
  have HB := Sd.mk hb
  obtain ⟨A, c, rfl, hlc, hC⟩ := Kd.R_reads hv
  have HR := Sd.mk hC
  have hm : l.length ≤ 9223372036854775807 := Kd.C_max hC
  clear hv hb hC
  go_enter Tryz.func34, Tryz.ntmps34
  go_wp2_with fail
  refine (indexPoint oddP 36 #[] HEG.out A c l _ HR.out (fun x hx w1 cs _ hK => by obtain rfl := k39_open hK; exact odd2_calls x w1)).mono ?_
  rintro e w1 ⟨rfl, hb1⟩
  have HV1 := Sd.mk (Kd.R_below HV.out hb1)
  have HB1 := Sd.mk (below_step HB.out hb1)
  clear hb1 HV HB HR
  rcases idxP_at oddP l 0 with ⟨hi, hf⟩ | ⟨k, hi, hk, hf⟩
  · rw [hi]
    go_wp2
    go_ret
    exact ⟨_, rfl, by rw [hf]; exact HV1.out, HB1.out⟩
  · rw [hi, Nat.zero_add]
    have HF := Sd.mk hf
    have dn : ((k : Int) == -1) = false := by simp
    clear hi hf
    obtain ⟨ad1, c1, he⟩ := Kd.R_slice1 HV1.out (by omega)
    injection he with he1 he2 he3
    subst he1; subst he3
    obtain ⟨g, rfl⟩ := Kd.R_head HV1.out
    go_wp2_with fail
    go_loopg [5, 6, 7] (l.length - (k + 1)) (fun kq v5 v6 v7 w' => ∃ (i j : Nat) (xs : List Pt), i < j ∧ j ≤ l.length ∧ v5 = .int .i64 i ∧ v6 = .int .i64 j ∧ Sd (kq = l.length - j) ∧ Sd (xs.length = l.length ∧ xs.take i = (l.take j).filter (fun x => !oddP x) ∧ xs.drop j = l.drop j) ∧ Sd (Kd.R k39 39 w' w0.heap.size (fun _ => True) (.slice (some ⟨g, 0, none⟩) l.length c) xs) ∧ Sd (Below w0.heap.size w0 w'))
    case atStart => exact ⟨k, k + 1, l, by omega, by omega, rfl, by go_num, ⟨rfl⟩, ⟨rfl, HF.out.symm, rfl⟩, HV1, HB1⟩
    case round =>
      obtain ⟨i, j, xs, hij, hj, rfl, rfl, HK, HX, HO, HB⟩ := hrel
      by_cases hlt : j < l.length
      · have hjx : j < xs.length := by rw [HX.out.1]; exact hlt
        obtain ⟨p0, p1, p2⟩ := ownP_at HO.out j hjx
        go_wp2_with fail
        have hj1 : rd_T39 xs j = l[j] := by
          have e : xs[j] = l[j] := by
            have h1 := List.drop_eq_getElem_cons hjx
            have h2 := List.drop_eq_getElem_cons hlt
            rw [HX.out.2.2, h2] at h1
            injection h1 with h1
            exact h1.symm
          rw [← e]; simp [rd_T39, List.getD_eq_getElem?_getD, List.getElem?_eq_getElem hjx]
        have hnew : ∀ (o : Array Value) (m : Nat), (wr.alloc (.cells o 39)).cell? ⟨wr.heap.size, m, none⟩ = o[m]? := fun o m => cell_of_row _ _ _ o 39 (0, 0) (blk_new wr _)
        refine (odd2_calls (rd_T39 xs j) _).mono ?_
        rintro e w2 ⟨rfl, hb2⟩
        have q0 := pw_cell_below hb2 (hnew _ 0)
        have q1 := pw_cell_below hb2 (hnew _ 1)
        have q2 := pw_cell_below hb2 (hnew _ 2)
        have HO2 := Sd.mk (Kd.R_below (Kd.R_alloc HO.out _) hb2)
        have HB2 := Sd.mk (below_step (bal HB.out _) hb2)
        obtain ⟨B, hBe⟩ : ∃ B, B = wr.heap.size := ⟨_, rfl⟩
        rw [← hBe] at q0 q1 q2 ⊢
        clear hnew hb2 p0 p1 p2 HO HB hBe
        have HJ := Sd.mk hj1
        clear hj1
        have HD := Sd.mk (rfl : oddP (rd_T39 xs j) = oddP (rd_T39 xs j))
        generalize hd : oddP (rd_T39 xs j) = b at ⊢
        cases b with
        | false =>
          have hil : i < xs.length := by rw [HX.out.1]; omega
          go_wp2_with (first | ((with_reducible refine gate_ (.store 39 (.tmp 33) (.tmp 32)) rfl ?_); refine store_pt (w0 := w0) (.tmp 33) (.tmp 32) rfl rfl rfl i xs (rd_T39 xs j) rfl rfl rfl HO2.out hil HB2.out ?_; intro w3 ho hb hg_; have n0_ := Sd.mk hb; have n1_ := Sd.mk ho; clear HB2 HO2; have HB := n0_; have HO := n1_; clear n0_ n1_ hb ho hg_))
          have hp : (!oddP l[j]) = true := by rw [← HJ.out, hd]; rfl
          have HX2 := Sd.mk (show (xs.set i (rd_T39 xs j)).length = l.length ∧ (xs.set i (rd_T39 xs j)).take (i + 1) = (l.take (j + 1)).filter (fun x => !oddP x) ∧ (xs.set i (rd_T39 xs j)).drop (j + 1) = l.drop (j + 1) from by
            rw [HJ.out]; exact keep_step HX.out.1 HX.out.2.1 HX.out.2.2 hij hlt hp)
          go_roundg (l.length - (j + 1))
          case measure => have := HK.out; omega
          case rel => exact ⟨i + 1, j + 1, xs.set i (rd_T39 xs j), by omega, by omega, by go_num, by go_num, ⟨rfl⟩, HX2, HO, HB⟩
        | true =>
          have hp : ¬ (!oddP l[j]) = true := by rw [← HJ.out, hd]; simp
          have HX2 := Sd.mk (show xs.length = l.length ∧ xs.take i = (l.take (j + 1)).filter (fun x => !oddP x) ∧ xs.drop (j + 1) = l.drop (j + 1) from ⟨HX.out.1, drop_step HX.out.2.1 HX.out.2.2 hlt hp⟩)
          clear hp
          go_wp2
          go_roundg (l.length - (j + 1))
          case measure => have := HK.out; omega
          case rel => exact ⟨i, j + 1, xs, by omega, by omega, by go_num, by go_num, ⟨rfl⟩, HX2, HO2, HB2⟩
      · have hjl : j = l.length := by omega
        subst hjl
        obtain ⟨W1, hW1, HO1, HB1⟩ := clearP_own HO.out HB.out i hij
        have HF1 := Sd.mk (show xs.take i = l.filter (fun x => !oddP x) from by rw [HX.out.2.1, List.take_length])
        have HO2 := Sd.mk HO1
        have HB2 := Sd.mk HB1
        clear HO1 HB1 HX HO HB
        go_wp2
        go_ret
        exact ⟨_, rfl, by rw [← HF1.out]; exact HO2.out, HB2.out⟩
end Go.Proofs.YtcmiehddjgfjaaaGreat.A
namespace Go.Proofs.YtcmiehddjgfjaaaGreat.St
open Go.Proofs Go.Proofs.YtcmiehddjgfjaaaGreat.Stable
/-- A comparison: whoever is not behind is ahead, or alike; and so on. -/
structure Cmp3 {α : Type} (c : α → α → Int) : Prop where
  flip : ∀ x y, c x y < 0 ↔ 0 < c y x
  tr : ∀ x y z, c x y ≤ 0 → c y z ≤ 0 → c x z ≤ 0
section
variable {α β : Type} {c c1 c2 : α → α → Int}
theorem Cmp3.self (h : Cmp3 c) (x : α) : c x x = 0 := by have := h.flip x x; omega
theorem Cmp3.zero (h : Cmp3 c) {x y : α} : c x y = 0 ↔ c y x = 0 := by have := h.flip x y; have := h.flip y x; omega
theorem Cmp3.lt_tr (h : Cmp3 c) {x y z : α} (h1 : c x y < 0) (h2 : c y z ≤ 0) : c x z < 0 := by
  have a := h.tr x y z (by omega) h2
  by_cases e : c x z = 0
  · have e' := h.zero.1 e
    have b := h.tr y z x h2 (by omega)
    have := h.flip x y
    omega
  · omega
theorem Cmp3.tr_lt (h : Cmp3 c) {x y z : α} (h1 : c x y ≤ 0) (h2 : c y z < 0) : c x z < 0 := by
  have a := h.tr x y z h1 (by omega)
  by_cases e : c x z = 0
  · have e' := h.zero.1 e
    have b := h.tr z x y (by omega) h1
    have := h.flip y z
    omega
  · omega
theorem Cmp3.ord (h : Cmp3 c) : Ord (ltOf c) where
  trans := fun x y z h1 h2 => by
    have h1 : c x y < 0 := of_decide_eq_true h1
    have h2 : c y z < 0 := of_decide_eq_true h2
    exact decide_eq_true (h.lt_tr h1 (by omega))
  skip := fun z x y h1 h2 => by
    have h1 : c z x < 0 := of_decide_eq_true h1
    have h2 : ¬ c y x < 0 := of_decide_eq_false h2
    have := h.flip y x
    exact decide_eq_true (h.lt_tr h1 (by omega))
  asym := fun x y h1 => by
    have h1 : c x y < 0 := of_decide_eq_true h1
    have := h.flip x y
    exact decide_eq_false (by omega)
theorem Cmp3.map (h : Cmp3 c) (f : β → α) : Cmp3 (fun x y => c (f x) (f y)) := ⟨fun _ _ => h.flip _ _, fun _ _ _ => h.tr _ _ _⟩
/-- One comparison, and behind it, of those alike, another one. -/
def lexC (c1 c2 : α → α → Int) (x y : α) : Int := if c1 x y = 0 then c2 x y else c1 x y
theorem Cmp3.lex (h1 : Cmp3 c1) (h2 : Cmp3 c2) : Cmp3 (lexC c1 c2) where
  flip := fun x y => by
    unfold lexC
    by_cases e : c1 x y = 0
    · rw [if_pos e, if_pos (h1.zero.1 e)]; exact h2.flip x y
    · rw [if_neg e, if_neg (fun e' => e (h1.zero.1 e'))]; exact h1.flip x y
  tr := fun x y z a b => by
    unfold lexC at *
    by_cases e1 : c1 x y = 0
    · rw [if_pos e1] at a
      by_cases e2 : c1 y z = 0
      · rw [if_pos e2] at b
        have e1' := h1.zero.1 e1
        have e2' := h1.zero.1 e2
        have p := h1.tr x y z (by omega) (by omega)
        have q := h1.tr z y x (by omega) (by omega)
        have := h1.flip x z; have := h1.flip z x
        have e3 : c1 x z = 0 := by omega
        rw [if_pos e3]; exact h2.tr x y z a b
      · rw [if_neg e2] at b
        have := h1.tr_lt (x := x) (y := y) (z := z) (by omega) (by omega)
        rw [if_neg (by omega)]; omega
    · rw [if_neg e1] at a
      by_cases e2 : c1 y z = 0
      · have := h1.lt_tr (x := x) (y := y) (z := z) (by omega) (by omega)
        rw [if_neg (by omega)]; omega
      · rw [if_neg e2] at b
        have := h1.lt_tr (x := x) (y := y) (z := z) (by omega) (by omega)
        rw [if_neg (by omega)]; omega
end
def cmpZ (x y : Int) : Int := if x < y then -1 else if y < x then 1 else 0
theorem cmpZ3 : Cmp3 cmpZ where
  flip := fun x y => by unfold cmpZ; split <;> split <;> (try split) <;> omega
  tr := fun x y z a b => by
    have h1 : ¬ y < x := by intro h; unfold cmpZ at a; rw [if_neg (by omega), if_pos h] at a; omega
    have h2 : ¬ z < y := by intro h; unfold cmpZ at b; rw [if_neg (by omega), if_pos h] at b; omega
    unfold cmpZ; split
    · omega
    · rw [if_neg (by omega)]; omega
theorem cmpB_flip : ∀ a b : List UInt8, Lib.compareBytes a b = - Lib.compareBytes b a
  | [], [] => rfl
  | [], _ :: _ => rfl
  | _ :: _, [] => rfl
  | a :: ar, b :: bt => by
    unfold Lib.compareBytes
    by_cases h1 : a < b
    · have h2 : ¬ b < a := by rw [UInt8.lt_iff_toNat_lt] at *; omega
      rw [if_pos h1, if_neg h2, if_pos h1]
    · by_cases h2 : b < a
      · rw [if_neg h1, if_pos h2, if_pos h2]; rfl
      · rw [if_neg h1, if_neg h2, if_neg h2, if_neg h1]; exact cmpB_flip ar bt
theorem cmpB_tr : ∀ a b c : List UInt8, Lib.compareBytes a b ≤ 0 → Lib.compareBytes b c ≤ 0 → Lib.compareBytes a c ≤ 0
  | [], _, [], _, _ => by simp [Lib.compareBytes]
  | [], _, _ :: _, _, _ => by simp [Lib.compareBytes]
  | _ :: _, [], _, h, _ => by simp [Lib.compareBytes] at h
  | _ :: _, _ :: _, [], _, h => by simp [Lib.compareBytes] at h
  | a :: ar, b :: bt, c :: ct, h1, h2 => by
    unfold Lib.compareBytes at h1 h2 ⊢
    simp only [UInt8.lt_iff_toNat_lt] at *
    by_cases x1 : a.toNat < b.toNat
    · by_cases y1 : b.toNat < c.toNat
      · rw [if_pos (by omega)]; omega
      · rw [if_neg y1] at h2
        by_cases y2 : c.toNat < b.toNat
        · rw [if_pos y2] at h2; omega
        · rw [if_pos (by omega)]; omega
    · rw [if_neg x1] at h1
      by_cases x2 : b.toNat < a.toNat
      · rw [if_pos x2] at h1; omega
      · rw [if_neg x2] at h1
        by_cases y1 : b.toNat < c.toNat
        · rw [if_pos (by omega)]; omega
        · rw [if_neg y1] at h2
          by_cases y2 : c.toNat < b.toNat
          · rw [if_pos y2] at h2; omega
          · rw [if_neg y2] at h2
            rw [if_neg (by omega), if_neg (by omega)]
            exact cmpB_tr ar bt ct h1 h2
def cmpS (x y : ByteArray) : Int := Lib.compareBytes x.data.toList y.data.toList
theorem cmpS3 : Cmp3 cmpS where
  flip := fun x y => by unfold cmpS; rw [cmpB_flip]; omega
  tr := fun x y z => cmpB_tr _ _ _
theorem cmpB_eq : ∀ a b : List UInt8, Lib.compareBytes a b = 0 ↔ a = b
  | [], [] => by simp [Lib.compareBytes]
  | [], _ :: _ => by simp [Lib.compareBytes]
  | _ :: _, [] => by simp [Lib.compareBytes]
  | a :: ar, b :: bt => by
    unfold Lib.compareBytes
    by_cases h1 : a < b
    · rw [if_pos h1]
      have : a ≠ b := by rintro rfl; rw [UInt8.lt_iff_toNat_lt] at h1; omega
      simp [this]
    · rw [if_neg h1]
      by_cases h2 : b < a
      · rw [if_pos h2]
        have : a ≠ b := by rintro rfl; rw [UInt8.lt_iff_toNat_lt] at h2; omega
        simp [this]
      · rw [if_neg h2, cmpB_eq ar bt]
        have : a = b := by rw [UInt8.lt_iff_toNat_lt] at *; exact UInt8.toNat_inj.1 (by omega)
        simp [this]
theorem cmpS_eq (x y : ByteArray) : cmpS x y = 0 ↔ x = y := by
  unfold cmpS
  rw [cmpB_eq]
  constructor
  · intro h
    cases x; cases y
    congr 1
    exact Array.toList_inj.1 h
  · rintro rfl; rfl
theorem toList_data (a : ByteArray) : a.toList = a.data.toList := Lib.toList_data a
theorem less_cmpB : ∀ a b : List UInt8, Go.Op.bytesLess a b = decide (Lib.compareBytes a b < 0)
  | [], [] => rfl
  | [], _ :: _ => rfl
  | _ :: _, [] => rfl
  | a :: ar, b :: bt => by
    unfold Go.Op.bytesLess Lib.compareBytes
    by_cases h1 : a < b
    · simp [h1]
    · by_cases h2 : b < a
      · have : (a == b) = false := by
          rw [beq_eq_false_iff_ne]; rintro rfl; exact h1 h2
        simp [h1, h2, this]
      · have : a = b := by rw [UInt8.lt_iff_toNat_lt] at *; exact UInt8.toNat_inj.1 (by omega)
        subst this
        simp [h1, less_cmpB ar bt]
theorem less_cmpS (a b : ByteArray) : Go.Op.bytesLess a.toList b.toList = decide (cmpS a b < 0) := by
  rw [toList_data, toList_data, less_cmpB]; rfl
theorem toList_eq (a b : ByteArray) : a.toList = b.toList ↔ a = b := by
  rw [toList_data, toList_data]
  constructor
  · intro h; cases a; cases b; congr 1; exact Array.toList_inj.1 h
  · rintro rfl; rfl
section
variable {α : Type} {c : α → α → Int}
theorem merge_perm (lt : α → α → Bool) : ∀ u v : List α, (merge lt u v).Perm (u ++ v)
  | [], v => by rw [merge, List.nil_append]
  | x :: u, [] => by rw [merge, List.append_nil]
  | x :: u, y :: v => by
    rw [merge]
    split
    · exact ((merge_perm lt (x :: u) v).cons y).trans (List.perm_middle.symm)
    · exact (merge_perm lt u (y :: v)).cons x
termination_by u v => u.length + v.length
theorem foldl_perm (lt : α → α → Bool) : ∀ l s : List α, (l.foldl (fun s x => merge lt s [x]) s).Perm (s ++ l)
  | [], s => by rw [List.foldl_nil, List.append_nil]
  | x :: l, s => by
    rw [List.foldl_cons]
    refine (foldl_perm lt l _).trans ?_
    have := (merge_perm lt s [x]).append_right l
    rwa [List.append_assoc] at this
theorem isort_perm (lt : α → α → Bool) (l : List α) : (isort lt l).Perm l := foldl_perm lt l []
/-- No two are alike. -/
def Apart (c : α → α → Int) (l : List α) : Prop := l.Pairwise fun a b => c a b ≠ 0
/-- Each is ahead of all behind it. -/
def Strict (c : α → α → Int) (l : List α) : Prop := l.Pairwise fun a b => c a b < 0
theorem Strict.apart {l : List α} (h : Strict c l) : Apart c l := h.imp (fun h => by omega)
theorem Apart.perm (h : Cmp3 c) {l l' : List α} (p : l.Perm l') (ha : Apart c l) : Apart c l' :=
  (p.pairwise_iff (fun {a b} hn e => hn (h.zero.1 e))).1 ha
theorem Strict.sorted {l : List α} (h : Cmp3 c) (hs : Strict c l) : Sorted (ltOf c) l := hs.imp (fun {a b} hl => decide_eq_false (by have := h.flip a b; omega))
/-- Are two neighbours alike? -/
def adjEq (c : α → α → Int) : List α → Bool
  | x :: y :: l => decide (c x y = 0) || adjEq c (y :: l)
  | _ => false
theorem adj_sorted (h : Cmp3 c) : ∀ {l : List α}, Sorted (ltOf c) l → adjEq c l = false → Strict c l
  | [], _, _ => List.Pairwise.nil
  | [x], _, _ => List.pairwise_singleton _ _
  | x :: y :: l, hs, ha => by
    rw [adjEq, Bool.or_eq_false_iff] at ha
    obtain ⟨h1, h2⟩ := List.pairwise_cons.1 hs
    have ih := adj_sorted h h2 ha.2
    have hxy : c x y < 0 := by
      have a := of_decide_eq_false (h1 y List.mem_cons_self)
      have b := of_decide_eq_false ha.1
      have := h.flip y x
      omega
    refine List.pairwise_cons.2 ⟨fun z hz => ?_, ih⟩
    rcases List.mem_cons.1 hz with rfl | hz
    · exact hxy
    · have := (List.pairwise_cons.1 ih).1 z hz
      exact h.lt_tr hxy (by omega)
theorem adj_apart : ∀ {l : List α}, Apart c l → adjEq c l = false
  | [], _ => rfl
  | [x], _ => rfl
  | x :: y :: l, ha => by
    obtain ⟨h1, h2⟩ := List.pairwise_cons.1 ha
    rw [adjEq, adj_apart h2, Bool.or_false]
    exact decide_eq_false (h1 y List.mem_cons_self)
theorem adj_isort (h : Cmp3 c) (l : List α) : adjEq c (isort (ltOf c) l) = false ↔ Apart c l := by
  constructor
  · intro ha
    exact Apart.perm h (isort_perm _ l) (adj_sorted h (isort_sorted h.ord l) ha).apart
  · intro ha
    exact adj_apart (Apart.perm h (isort_perm _ l).symm ha)
theorem isort_strict (h : Cmp3 c) {l : List α} (ha : Apart c l) : Strict c (isort (ltOf c) l) := adj_sorted h (isort_sorted h.ord l) ((adj_isort h l).2 ha)
/-- What is sorted stays so. -/
theorem isort_id (h : Cmp3 c) : ∀ {l : List α}, Sorted (ltOf c) l → isort (ltOf c) l = l := by
  intro l
  have : ∀ (l s : List α), Sorted (ltOf c) (s ++ l) → l.foldl (fun s x => merge (ltOf c) s [x]) s = s ++ l := by
    intro l
    induction l with
    | nil => intro s _; simp
    | cons x l ih =>
      intro s hs
      have h1 : merge (ltOf c) s [x] = s ++ [x] := by
        have := merge_one (lt := ltOf c) s [] x (fun e he => (List.pairwise_append.1 hs).2.2 e he x List.mem_cons_self) (fun e he => by cases he)
        rwa [List.append_nil] at this
      rw [List.foldl_cons, h1, ih (s ++ [x]) (by rwa [List.append_assoc]), List.append_assoc]; rfl
  intro hs
  exact this l [] hs
/-- Strictly sorted lists of the same members are the same. -/
theorem strict_eq (h : Cmp3 c) : ∀ {l l' : List α}, Strict c l → Strict c l' → l.Perm l' → l = l'
  | [], l', _, _, p => (List.Perm.nil_eq p)
  | x :: l, [], _, _, p => by have := p.length_eq; simp at this
  | x :: l, y :: l', hs, hs', p => by
    obtain ⟨h1, h2⟩ := List.pairwise_cons.1 hs
    obtain ⟨h1', h2'⟩ := List.pairwise_cons.1 hs'
    have hx : x ∈ y :: l' := p.mem_iff.1 List.mem_cons_self
    have hy : y ∈ x :: l := p.mem_iff.2 List.mem_cons_self
    have hxy : x = y := by
      rcases List.mem_cons.1 hx with e | hx
      · exact e
      · rcases List.mem_cons.1 hy with e | hy
        · exact e.symm
        · have a := h1 y hy
          have b := h1' x hx
          have := h.flip x y
          omega
    subst hxy
    rw [strict_eq h h2 h2' (List.Perm.cons_inv p)]
theorem isort_any_order (h : Cmp3 c) {l l' : List α} (p : l.Perm l') (ha : Apart c l) : isort (ltOf c) l = isort (ltOf c) l' :=
  strict_eq h (isort_strict h ha) (isort_strict h (Apart.perm h p ha)) ((isort_perm _ l).trans (p.trans (isort_perm _ l').symm))
/-- One more in a sorted list; none where it is there already. -/
def ins (c : α → α → Int) : List α → α → Option (List α)
  | [], x => some [x]
  | y :: s, x => if c y x < 0 then (ins c s x).map (y :: ·) else if c y x = 0 then none else some (x :: y :: s)
theorem ins_none (h : Cmp3 c) : ∀ {s : List α} {x : α}, Strict c s → (∃ y ∈ s, c y x = 0) → ins c s x = none
  | [], x, _, hn => by obtain ⟨y, hy, _⟩ := hn; cases hy
  | y :: s, x, hs, hn => by
    obtain ⟨h1, h2⟩ := List.pairwise_cons.1 hs
    obtain ⟨z, hz, e⟩ := hn
    rw [ins]
    rcases List.mem_cons.1 hz with rfl | hz
    · rw [if_neg (by omega), if_pos e]
    · have hyz := h1 z hz
      have hyx : c y x < 0 := h.lt_tr hyz (by omega)
      rw [if_pos hyx, ins_none h h2 ⟨z, hz, e⟩]; rfl
end
section
variable {α : Type} {c : α → α → Int}
theorem merge_last_keep (lt : α → α → Bool) (x : α) : ∀ {u : List α} {m : α}, u.getLast? = some m → lt x m = true → (merge lt u [x]).getLast? = some m
  | [], m, h, _ => by cases h
  | [a], m, h, hl => by
    have : a = m := by simpa using h
    subst this
    rw [merge, if_pos hl, merge_nil]; rfl
  | a :: b :: u, m, h, hl => by
    have h' : (b :: u).getLast? = some m := by rw [List.getLast?_cons_cons] at h; exact h
    rw [merge]
    split
    · rw [merge_nil, List.getLast?_cons_cons, List.getLast?_cons_cons]; exact h'
    · have ih := merge_last_keep lt x h' hl
      have hne : merge lt (b :: u) [x] ≠ [] := by
        intro e
        have := merge_length lt (b :: u) [x]
        rw [e] at this
        simp at this
      rw [List.getLast?_cons, ih]; rfl
theorem merge_last (h : Cmp3 c) {s : List α} (hs : Sorted (ltOf c) s) {m : α} (hm : s.getLast? = some m) (x : α) : (merge (ltOf c) s [x]).getLast? = some (if c m x ≤ 0 then x else m) := by
  by_cases e : c m x ≤ 0
  · rw [if_pos e]
    have hall : ∀ a ∈ s, ltOf c x a = false := by
      intro a ha
      have hne : s ≠ [] := by rintro rfl; cases ha
      obtain ⟨i, hi, rfl⟩ := List.getElem_of_mem ha
      have hml : s[s.length - 1]'(by omega) = m := by
        rw [List.getLast?_eq_getElem?] at hm
        rw [List.getElem?_eq_getElem (by omega)] at hm
        exact Option.some.inj hm
      have ham : c s[i] m ≤ 0 := by
        by_cases hij : i = s.length - 1
        · subst hij
          rw [hml, h.self]; omega
        · have := hs.getElem (i := i) (j := s.length - 1) (by omega) (by omega)
          rw [hml] at this
          have h1 : ¬ c m s[i] < 0 := of_decide_eq_false this
          have := h.flip m s[i]
          have := h.flip s[i] m
          omega
      have h2 := h.tr _ _ _ ham e
      exact decide_eq_false (by have := h.flip x s[i]; omega)
    have := merge_one (lt := ltOf c) s [] x hall (fun e he => by cases he)
    rw [List.append_nil] at this
    rw [this]
    simp
  · rw [if_neg e]
    exact merge_last_keep _ x hm (decide_eq_true (by have := h.flip x m; omega))
def lastOf (c : α → α → Int) (p : α) (l : List α) : α := l.foldl (fun k x => if c k x ≤ 0 then x else k) p
/-- The last one of those sorted is the last one of the greatest. -/
theorem last_isort (h : Cmp3 c) (p : α) (l : List α) : (isort (ltOf c) (p :: l)).getLast? = some (lastOf c p l) := by
  have key : ∀ (l s : List α) (m : α), Sorted (ltOf c) s → s.getLast? = some m → (l.foldl (fun s x => merge (ltOf c) s [x]) s).getLast? = some (lastOf c m l) := by
    intro l
    induction l with
    | nil => intro s m _ hm; exact hm
    | cons x l ih =>
      intro s m hs hm
      rw [List.foldl_cons, lastOf, List.foldl_cons]
      exact ih _ _ (merge_sorted h.ord hs (List.pairwise_singleton _ _)) (merge_last h hs hm x)
  have := key l [p] p (List.pairwise_singleton _ _) rfl
  rw [isort, List.foldl_cons, nil_merge]
  exact this
end
end Go.Proofs.YtcmiehddjgfjaaaGreat.St
namespace Go.Proofs.YtcmiehddjgfjaaaGreat.A
open Go.RowKit Go.Proofs.YtcmiehddjgfjaaaGreatW.PrintWords Go.Proofs.YtcmiehddjgfjaaaGreatW.PrintLast Go.Proofs.YtcmiehddjgfjaaaGreatW.PrintMore Go.Proofs.YtcmiehddjgfjaaaGreat.St Go.Proofs.YtcmiehddjgfjaaaGreat.Stable
def cmpAt (x y : Pt) : Int := cmpZ x.f0 y.f0
theorem cmpAt3 : Cmp3 cmpAt := cmpZ3.map S39.f0
def rwP (x : Pt) : ColP.Rw := (x.f0, x.f1.f0, x.f1.f1)
theorem rdP_at {xs : List Pt} {i : Nat} (h : i < xs.length) : rd_T39 xs (i : Int) = xs[i] := by
  unfold rd_T39
  rw [Int.toNat_natCast, List.getD_eq_getElem?_getD, List.getElem?_eq_getElem h]; rfl
theorem flatP_seg (zs : List ColP.Rw) (j : Nat) (hj : j < zs.length) : ((ColP.flat zs).drop (j * 3)).take 3 = ColP.cl zs[j] := by
  induction zs generalizing j with
  | nil => simp at hj
  | cons z zs ih =>
    cases j with
    | zero => simp [ColP.flat, ColP.cl]
    | succ j =>
      have := ih j (by simpa using hj)
      rw [List.getElem_cons_succ, ← this]
      have e : (j + 1) * 3 = (ColP.cl z).length + j * 3 := by show (j + 1) * 3 = 3 + j * 3; omega
      rw [e, ← List.drop_drop]
      congr 1
theorem flatP_len (zs : List ColP.Rw) : (ColP.flat zs).length = zs.length * 3 := by
  induction zs with
  | nil => rfl
  | cons z zs ih =>
    show (ColP.cl z ++ ColP.flat zs).length = _
    rw [List.length_append, ih, List.length_cons]
    show 3 + zs.length * 3 = _
    omega
theorem rowsP_of {w : World} {A : Option Addr} {l : List Pt} (hr : Kd.C k39 w A l.length l) : ColP.Row w.heap.size w A (l.map rwP) := by
  by_cases hl : l.length = 0
  · exact .inl (by rw [List.eq_nil_of_length_eq_zero hl]; rfl)
  · obtain ⟨ad, rfl, p0, _, _⟩ := at_T39 hr 0 (by omega) (by omega)
    refine .inr ⟨ad, rfl, ?_, fun j hj => ?_⟩
    · have := World.block_lt_of_cell? w _ p0
      rwa [add_block] at this
    · rw [List.length_map] at hj
      obtain ⟨ad2, e, q0, q1, q2⟩ := at_T39 hr (j : Int) (by omega) (by omega)
      injection e with e
      subst e
      rw [rdP_at hj] at q0 q1 q2
      rw [Int.toNat_natCast] at q0 q1 q2
      have e : (l.map rwP)[j]?.getD ColP.z0 = rwP l[j] := by simp [hj]
      rw [e]
      exact ⟨q0, q1, q2⟩
theorem R_ofP {w1 : World} {B : Nat} {l : List Pt} {v : Value} (ho : w1.ownsRow B 39 3 v (l.map rwP).length (ColP.flat (l.map rwP))) : Kd.R k39 39 w1 B (fun _ => True) v l := by
  rw [List.length_map] at ho
  refine ⟨fun _ _ => trivial, ColP.flat (l.map rwP), ho, by rw [flatP_len, List.length_map]; rfl, fun j p hp => ?_⟩
  have hj : j < (l.map rwP).length := by rw [List.length_map]; exact (List.getElem?_eq_some_iff.1 hp).1
  show k39.M w1 B _ p (((ColP.flat (l.map rwP)).drop (j * 3)).take 3)
  rw [flatP_seg _ j hj]
  have e : (l.map rwP)[j] = rwP p := by
    rw [List.getElem_map]
    have := (List.getElem?_eq_some_iff.1 hp).2
    rw [this]
  rw [e]
  exact k39_mkM _ _ _ p
theorem valuesP_calls (A : Option Addr) (n c : Nat) (w : World) : Calls Tryz.prog 78 #[.slice A n c] w fun e w' => e = .returned (.func (.func 115) #[] #[.pointer (some ⟨w.heap.size, 0, none⟩)]) ∧ w' = w.alloc (.cells #[.slice A n c] 22) :=
  callsIn_wide.1 (ColP.values_in Fence.wide 3 trivial rfl A n c w)
theorem collectP_calls (Bs : Nat) (A : Option Addr) (cap : Nat) (zs : List ColP.Rw) (hreach : zs.length * 24 ≤ 140737488355328) (w : World) (hBs : Bs < w.heap.size) (hc : w.cell? ⟨Bs, 0, none⟩ = some (.slice A zs.length cap)) (hI : ColP.Row w.heap.size w A zs) :
    Calls Tryz.prog 113 #[.func (.func 115) #[] #[.pointer (some ⟨Bs, 0, none⟩)]] w fun e w' => ∃ v, e = .returned v ∧ w'.ownsRow w.heap.size 39 3 v zs.length (ColP.flat zs) ∧ Below w.heap.size w w' := by
  have HA := Sd.mk (callsIn_wide.1 (ColP.appendSeq_in Fence.wide 3 trivial trivial rfl (by omega) Bs A cap zs hreach w hBs hc hI))
  clear hreach hBs hc hI
  go_enter Tryz.func113, Tryz.ntmps113
  go_wp2_with (go_at_call 155; refine HA.out.mono ?_; rintro e w1 ⟨v, rfl, ho, hb⟩; have HO := Sd.mk ho; have HB := Sd.mk hb; clear ho hb)
  go_ret
  exact ⟨v, rfl, HO.out, HB.out⟩
theorem cmpC_is (a b : Int) : cmp_Compare_int64.f a b = some (cmpZ a b) := by
  unfold cmp_Compare_int64.f cmpZ
  have h : ∀ x, cmp_isNaN_int64.f x = some false := fun x => by unfold cmp_isNaN_int64.f; simp
  rw [h, h]
  simp only [Option.bind_some, Bool.false_eq_true, if_false]
  by_cases h1 : a < b
  · rw [if_pos h1, if_pos h1]
  · rw [if_neg h1, if_neg h1]
    by_cases h2 : b < a
    · rw [if_pos h2, if_pos h2]
    · rw [if_neg h2, if_neg h2]
theorem last1_tells : GSp.CmpTells k39 79 #[] cmpAt := by
  intro W base ok x y cs ds hx hy
  obtain rfl := k39_openM hx
  obtain rfl := k39_openM hy
  exact s_last_1.calls x.f0 x.f1.f0 x.f1.f1 y.f0 y.f1.f0 y.f1.f1 _ W (by unfold s_last_1.f; rw [cmpC_is]; rfl)
theorem sortedP_calls (Bs : Nat) (A : Option Addr) (cap : Nat) (l : List Pt) (hreach : l.length * 24 ≤ 140737488355328) (w : World) (hBs : Bs < w.heap.size) (hc : w.cell? ⟨Bs, 0, none⟩ = some (.slice A l.length cap)) (hr : Kd.C k39 w A l.length l) :
    Calls Tryz.prog 77 #[.func (.func 115) #[] #[.pointer (some ⟨Bs, 0, none⟩)], .func (.func 79) #[] #[]] w fun e w' => ∃ v, e = .returned v ∧ Kd.R k39 39 w' w.heap.size (fun _ => True) v (isort (ltOf cmpAt) l) ∧ Below w.heap.size w w' := by
  have HA := Sd.mk (collectP_calls Bs A cap (l.map rwP) (by rw [List.length_map]; exact hreach) w hBs (by rw [List.length_map]; exact hc) (rowsP_of hr))
  have hmx : l.length < 1152921504606846976 := by omega
  clear hreach hBs hc hr
  go_enter Tryz.func77, Tryz.ntmps77
  go_wp2_with fail
  refine HA.out.mono ?_
  rintro e w1 ⟨v, rfl, ho, hb⟩
  have HC := Sd.mk (GSp.sortStable_R k39 (by decide) Tryz.sizeOf39 cmpAt 79 #[] (enters_of Tryz.func79 (by kernel_rfl) rfl) cmpAt3.ord last1_tells (R_ofP ho) hmx)
  have HB := Sd.mk hb
  clear ho hb HA hmx
  go_wp2_with fail
  refine HC.out.mono ?_
  rintro e w2 ⟨rfl, hp, hb2⟩
  have HP := Sd.mk hp
  have HB2 := Sd.mk (HB.out.trans hb2)
  clear hp hb2
  go_wp2
  go_ret
  exact ⟨v, rfl, HP.out, HB2.out⟩
def valP (x : Pt) : V := (x.f1.f0, x.f1.f1)
/-- An operation of two values. -/
def do2 (op : ByteArray) (a b : V) : V := (vDo op [a, b]).1
theorem yes_calls (op : ByteArray) (a1 a2 b1 b2 : Int) (w : World) : Calls Tryz.prog 81 #[.string op, .agg #[.int .i64 a1, .int .i64 a2], .agg #[.int .i64 b1, .int .i64 b2]] w fun e w' => e = .returned (.bool (vTrue (do2 op (a1, a2) (b1, b2)))) ∧ Below w.heap.size w w' := by
  unfold do2
  rcases hdo : vDo op [(a1, a2), (b1, b2)] with ⟨⟨r1, r2⟩, r3⟩
  have hb := (below1 w (.cells #[.int .i64 a1, .int .i64 a2] 25)).alloc (by simp) (.cells #[.int .i64 b1, .int .i64 b2] 25)
  have HD := Sd.mk (do2_any op a1 a2 b1 b2 ((w.alloc (.cells #[.int .i64 a1, .int .i64 a2] 25)).alloc (.cells #[.int .i64 b1, .int .i64 b2] 25)) hdo)
  have HB := Sd.mk hb
  have HT := Sd.mk (fun w1 => v_True.calls r1 r2 _ w1 (true_is (r1, r2)))
  generalize vTrue ((r1, r2), r3).1 = t at HT ⊢
  simp only [World.size_alloc] at HD
  clear hdo hb
  go_enter Tryz.func81, Tryz.ntmps81
  go_wp2_with fail
  refine HD.out.mono ?_
  rintro e w1 ⟨rfl, hb1⟩
  have HB1 := Sd.mk (HB.out.trans (hb1.mono (by omega)))
  clear hb1
  go_wp2_with fail
  refine (HT.out _).mono ?_
  rintro e w2 ⟨rfl, hb2⟩
  have HB2 := Sd.mk ((HB1.out.alloc HB1.out.size (.cells #[.int .i64 r1, .int .i64 r2] 25)).trans (hb2.mono (HB1.out.alloc HB1.out.size (.cells #[.int .i64 r1, .int .i64 r2] 25)).size))
  clear hb2
  go_wp2
  go_ret
  exact ⟨rfl, HB2.out⟩
def bestGo (op : ByteArray) (v : V) (l : List Pt) : V := l.foldl (fun v p => if vTrue (do2 op (valP p) v) = true then valP p else v) v
def totalGo (v : V) (l : List Pt) : V := l.foldl (fun v p => do2 ⟨#[43]⟩ v (valP p)) v
theorem bestGo_take (op : ByteArray) (v : V) (l : List Pt) (i : Nat) (hi : i < l.length) : bestGo op v (l.take (i + 1)) = if vTrue (do2 op (valP l[i]) (bestGo op v (l.take i))) = true then valP l[i] else bestGo op v (l.take i) := by
  unfold bestGo
  rw [List.take_add_one, List.getElem?_eq_getElem hi, List.foldl_append]
  rfl
theorem totalGo_take (v : V) (l : List Pt) (i : Nat) (hi : i < l.length) : totalGo v (l.take (i + 1)) = do2 ⟨#[43]⟩ (totalGo v (l.take i)) (valP l[i]) := by
  unfold totalGo
  rw [List.take_add_one, List.getElem?_eq_getElem hi, List.foldl_append]
  rfl
theorem blk_old2 {w : World} {g : Nat} {o : Obj} (h : w.heap[g]? = some o) (o' : Obj) : (w.alloc o').heap[g]? = some o := (Below.heap_alloc w o' g (Array.getElem?_eq_some_iff.1 h).1).trans h
/-- A value's block, written over. -/
theorem set_val {W : World} {g : Nat} {a b x y : Value} {t : TypeId} (h : W.heap[g]? = some (.cells #[a, b] t (0, 0))) : ((W.setCell ⟨g, 0, none⟩ x).setCell ⟨g, 1, none⟩ y).heap[g]? = some (.cells #[x, y] t (0, 0)) := by
  have h1 : ∀ {W : World} {o : Nat} {cs : Array Value} {x : Value}, W.heap[g]? = some (.cells cs t (0, 0)) → (W.setCell ⟨g, o, none⟩ x).heap[g]? = some (.cells (cs.setIfInBounds o x) t (0, 0)) := fun {W o cs x} h => by
    rw [setCell_eq_setRow W g o cs t (0, 0) x h]
    exact setRow_heap W g cs _ t (0, 0) h
  exact h1 (h1 h)
theorem keep_val {W : World} {g h : Nat} {x y : Value} {o : Obj} (hh : W.heap[h]? = some o) (hne : h ≠ g) : ((W.setCell ⟨g, 0, none⟩ x).setCell ⟨g, 1, none⟩ y).heap[h]? = some o := by
  rw [Below.heap_setCell _ _ _ _ hne, Below.heap_setCell _ _ _ _ hne]; exact hh
theorem best_calls (op : ByteArray) (A : Option Addr) (c : Nat) (x : Pt) (l' : List Pt) (w : World) (hr : Kd.C k39 w A (x :: l').length (x :: l')) :
    Calls Tryz.prog 43 #[.slice A (x :: l').length c, .string op] w fun e w' => e = .returned (.agg #[.int .i64 (bestGo op (valP x) (x :: l')).1, .int .i64 (bestGo op (valP x) (x :: l')).2]) ∧ Below w.heap.size w w' := by
  have hmx : (x :: l').length ≤ 9223372036854775807 := Kd.C_max hr
  obtain ⟨ad, rfl, p0, p1, p2⟩ := at_T39 hr 0 (by omega) (by simp)
  have e0 : rd_T39 (x :: l') 0 = x := rfl
  rw [e0] at p0 p1 p2
  have HR := Sd.mk hr
  have hpos : 0 < (x :: l').length := by simp
  have hb0 := below1 w (.cells #[.int .i64 0, .int .i64 0] 25)
  have p1 := pw_cell_below hb0 p1
  have p2 := pw_cell_below hb0 p2
  have hz : ad.add (Int.toNat 0 * 3) = ad := by unfold Addr.add; simp
  rw [hz] at p1 p2
  obtain ⟨l, hl⟩ : ∃ l, x :: l' = l := ⟨_, rfl⟩
  rw [hl] at HR hmx hpos ⊢
  have X4 := Sd.mk (blk_old2 (blk_new w (.cells #[.int .i64 0, .int .i64 0] 25)) (.cells #[.int .i64 x.f1.f0, .int .i64 x.f1.f1] 25))
  have X5 := Sd.mk (blk_new (w.alloc (.cells #[.int .i64 0, .int .i64 0] 25)) (.cells #[.int .i64 x.f1.f0, .int .i64 x.f1.f1] 25))
  have HB0 := Sd.mk (bal hb0 (.cells #[.int .i64 x.f1.f0, .int .i64 x.f1.f1] 25))
  rw [World.size_alloc] at X5
  clear hl hr p0 e0 hb0 hz
  go_enter Tryz.func43, Tryz.ntmps43
  go_wp2
  go_loopw [14] (fun v14 wr => ∃ i : Nat, i ≤ l.length ∧ v14 = .int .i64 i ∧ Sd (wr.heap[w.heap.size]? = some (.cells #[.int .i64 0, .int .i64 0] 25 (0, 0))) ∧ Sd (wr.heap[w.heap.size + 1]? = some (.cells #[.int .i64 (bestGo op (valP x) (l.take i)).1, .int .i64 (bestGo op (valP x) (l.take i)).2] 25 (0, 0))) ∧ Sd (Below w.heap.size w wr)) (fun v14 _ => l.length - (intOf v14).toNat)
  case atStart => exact ⟨0, Nat.zero_le _, rfl, X4, X5, HB0⟩
  case round =>
    clear X4 X5 HB0
    obtain ⟨i, hi, rfl, H4, H5, HW⟩ := hrel
    by_cases hlt : i < l.length
    · have b1 : (i : Int) < (l.length : Int) := by omega
      obtain ⟨ad2, e2, q0, q1, q2⟩ := at_T39 (Kd.C_below HR.out HW.out) (i : Int) (by omega) (by omega)
      injection e2 with e2
      subst e2
      rw [rdP_at hlt] at q0 q1 q2
      rw [Int.toNat_natCast] at q0 q1 q2
      have hst := bestGo_take op (valP x) l i hlt
      generalize hbv : bestGo op (valP x) (l.take i) = bv at H5 hst
      obtain ⟨v1, v2⟩ := bv
      generalize l[i] = y at q0 q1 q2 hst
      have HST := Sd.mk hst
      have hba := below1 wr (.cells #[.int .i64 y.f0, .int .i64 y.f1.f0, .int .i64 y.f1.f1] 39)
      have c0 := (blk_cell (blk_below H5.out hba) 0).trans rfl
      have c1 := (blk_cell (blk_below H5.out hba) 1).trans rfl
      have HY := Sd.mk (yes_calls op y.f1.f0 y.f1.f1 v1 v2 (wr.alloc (.cells #[.int .i64 y.f0, .int .i64 y.f1.f0, .int .i64 y.f1.f1] 39)))
      have HA := Sd.mk hba
      have Y := Sd.mk (blk_new wr (.cells #[.int .i64 y.f0, .int .i64 y.f1.f0, .int .i64 y.f1.f1] 39))
      clear hst hbv hba
      generalize ht : vTrue (do2 op (y.f1.f0, y.f1.f1) (v1, v2)) = t at HY
      have HT := Sd.mk ht
      clear ht
      cases t with
      | true =>
        have HZ := Sd.mk (HST.out.trans (if_pos HT.out))
        go_wp2_with fail
        refine HY.out.mono ?_
        rintro e w2 ⟨rfl, hb2⟩
        have HB2 := Sd.mk (HA.out.trans (hb2.mono HA.out.size))
        have y0 := (blk_cell (blk_below Y.out hb2) 0).trans rfl
        have y1 := (blk_cell (blk_below Y.out hb2) 1).trans rfl
        have y2 := (blk_cell (blk_below Y.out hb2) 2).trans rfl
        have K5 := Sd.mk (blk_below H5.out HB2.out)
        have K4 := Sd.mk (blk_below H4.out HB2.out)
        have z0 := (blk_cell K5.out 0).trans rfl
        have z1 := (blk_cell K5.out 1).trans rfl
        have f0 := blk_frozen K5.out 0
        have f1 := blk_frozen K5.out 1
        have HW2 := Sd.mk (HW.out.trans (HB2.out.mono HW.out.size))
        clear hb2 c0 c1
        go_wp2
        go_roundw
        case rel => exact ⟨i + 1, by omega, by go_num, ⟨keep_val K4.out (by omega)⟩, ⟨by rw [HZ.out]; exact set_val K5.out⟩, ⟨(HW2.out.setCell (by simp) _).setCell (by simp) _⟩⟩
        case measure => simp [intOf]; omega
      | false =>
        have HZ := Sd.mk (HST.out.trans (if_neg (by rw [show (valP y) = (y.f1.f0, y.f1.f1) from rfl, HT.out]; simp)))
        go_wp2_with fail
        refine HY.out.mono ?_
        rintro e w2 ⟨rfl, hb2⟩
        have HB2 := Sd.mk (HA.out.trans (hb2.mono HA.out.size))
        have K5 := Sd.mk (blk_below H5.out HB2.out)
        have K4 := Sd.mk (blk_below H4.out HB2.out)
        have HW2 := Sd.mk (HW.out.trans (HB2.out.mono HW.out.size))
        clear hb2 c0 c1
        go_wp2
        go_roundw
        case rel => exact ⟨i + 1, by omega, by go_num, K4, ⟨by rw [HZ.out]; exact K5.out⟩, HW2⟩
        case measure => simp [intOf]; omega
    · have n1 : decide ((i : Int) < (l.length : Int)) = false := decide_eq_false (by omega)
      have n2 : decide (i < l.length) = false := decide_eq_false hlt
      have HE := Sd.mk (show l.take i = l from List.take_of_length_le (by omega))
      rw [HE.out] at H5
      have HG := Sd.mk (rfl : bestGo op (valP x) l = bestGo op (valP x) l)
      generalize hbv : bestGo op (valP x) l = bv at H5
      have HBV := Sd.mk hbv
      obtain ⟨v1, v2⟩ := bv
      have c0 := (blk_cell H5.out 0).trans rfl
      have c1 := (blk_cell H5.out 1).trans rfl
      have d0 := (blk_cell H4.out 0).trans rfl
      have d1 := (blk_cell H4.out 1).trans rfl
      have f0 := blk_frozen H4.out 0
      have f1 := blk_frozen H4.out 1
      have hn1 : decide (i < l.length) = false := n2
      clear hbv hn1 HG
      go_wp2
      exact bodyPost_ret (v := .agg #[.int .i64 v1, .int .i64 v2]) (by simp [results, Tryz.results43, go_sem, d0, d1]) rfl ⟨by rw [HBV.out], (HW.out.setCell (by simp) _).setCell (by simp) _⟩
theorem total_calls (A : Option Addr) (c : Nat) (x : Pt) (l' : List Pt) (w : World) (hr : Kd.C k39 w A (x :: l').length (x :: l')) (hc : (x :: l').length ≤ c) :
    Calls Tryz.prog 44 #[.slice A (x :: l').length c] w fun e w' => e = .returned (.agg #[.int .i64 (totalGo (valP x) l').1, .int .i64 (totalGo (valP x) l').2]) ∧ Below w.heap.size w w' := by
  have hmx : (x :: l').length ≤ 9223372036854775807 := Kd.C_max hr
  obtain ⟨ad, rfl, p0, p1, p2⟩ := at_T39 hr 0 (by omega) (by simp)
  have e0 : rd_T39 (x :: l') 0 = x := rfl
  rw [e0] at p0 p1 p2
  have hd := Kd.C_drop hr (m := 1) (by simp) hc
  have hlen : (x :: l').length = l'.length + 1 := rfl
  rw [hlen] at hmx hc ⊢
  have hb0 := below1 w (.cells #[.int .i64 0, .int .i64 0] 25)
  have p1 := pw_cell_below hb0 p1
  have p2 := pw_cell_below hb0 p2
  have hz : ad.add (Int.toNat 0 * 3) = ad := by unfold Addr.add; simp
  rw [hz] at p1 p2
  have X4 := Sd.mk (blk_old2 (blk_new w (.cells #[.int .i64 0, .int .i64 0] 25)) (.cells #[.int .i64 x.f1.f0, .int .i64 x.f1.f1] 25))
  have X5 := Sd.mk (blk_new (w.alloc (.cells #[.int .i64 0, .int .i64 0] 25)) (.cells #[.int .i64 x.f1.f0, .int .i64 x.f1.f1] 25))
  have HB0 := Sd.mk (bal hb0 (.cells #[.int .i64 x.f1.f0, .int .i64 x.f1.f1] 25))
  rw [World.size_alloc] at X5
  have s1 : (((l'.length + 1 : Nat) : Int) - 1) = (l'.length : Int) := by omega
  clear hr p0 e0 hb0 hz hlen
  by_cases hc1 : c = 1
  · rw [if_pos hc1] at hd
    have HR := Sd.mk (show Kd.C k39 w (some ad) l'.length l' from hd)
    subst hc1
    have hl0 : l'.length = 0 := by omega
    have hnil : l' = [] := List.eq_nil_of_length_eq_zero hl0
    subst hnil
    clear hd hl0
    go_enter Tryz.func44, Tryz.ntmps44
    go_wp2
    go_loopw [13] (fun v13 wr => v13 = .int .i64 0 ∧ Sd (wr.heap[w.heap.size]? = some (.cells #[.int .i64 0, .int .i64 0] 25 (0, 0))) ∧ Sd (wr.heap[w.heap.size + 1]? = some (.cells #[.int .i64 x.f1.f0, .int .i64 x.f1.f1] 25 (0, 0))) ∧ Sd (Below w.heap.size w wr)) (fun v13 _ => 0)
    case atStart => exact ⟨rfl, X4, X5, HB0⟩
    case round =>
      clear X4 X5 HB0
      obtain ⟨rfl, H4, H5, HW⟩ := hrel
      have c0 := (blk_cell H5.out 0).trans rfl
      have c1 := (blk_cell H5.out 1).trans rfl
      have d0 := (blk_cell H4.out 0).trans rfl
      have d1 := (blk_cell H4.out 1).trans rfl
      have f0 := blk_frozen H4.out 0
      have f1 := blk_frozen H4.out 1
      go_wp2
      exact bodyPost_ret (v := .agg #[.int .i64 x.f1.f0, .int .i64 x.f1.f1]) (by simp [results, Tryz.results44, go_sem, d0, d1]) rfl ⟨rfl, (HW.out.setCell (by simp) _).setCell (by simp) _⟩
  · rw [if_neg hc1] at hd
    have ha3 : ad.add 3 = ⟨ad.block, ad.off + 3, none⟩ := by unfold Addr.add; simp
    have HR := Sd.mk (show Kd.C k39 w (some ⟨ad.block, ad.off + 3, none⟩) l'.length l' by rw [← ha3]; exact hd)
    clear ha3
    have hgt : 1 < c := by omega
    have hcn : (c == 1) = false := by simpa using hc1
    clear hd hc1
    go_enter Tryz.func44, Tryz.ntmps44
    go_wp2
    go_loopw [13] (fun v13 wr => ∃ i : Nat, i ≤ l'.length ∧ v13 = .int .i64 i ∧ Sd (wr.heap[w.heap.size]? = some (.cells #[.int .i64 0, .int .i64 0] 25 (0, 0))) ∧ Sd (wr.heap[w.heap.size + 1]? = some (.cells #[.int .i64 (totalGo (valP x) (l'.take i)).1, .int .i64 (totalGo (valP x) (l'.take i)).2] 25 (0, 0))) ∧ Sd (Below w.heap.size w wr)) (fun v13 _ => l'.length - (intOf v13).toNat)
    case atStart => exact ⟨0, Nat.zero_le _, rfl, X4, X5, HB0⟩
    case round =>
      clear X4 X5 HB0
      obtain ⟨i, hi, rfl, H4, H5, HW⟩ := hrel
      by_cases hlt : i < l'.length
      · have b1 : (i : Int) < (l'.length : Int) := by omega
        obtain ⟨ad2, e2, q0, q1, q2⟩ := at_T39 (Kd.C_below HR.out HW.out) (i : Int) (by omega) (by omega)
        injection e2 with e2
        subst e2
        rw [rdP_at hlt] at q0 q1 q2
        rw [Int.toNat_natCast, add_at] at q0 q1 q2
        have hst := totalGo_take (valP x) l' i hlt
        generalize hbv : totalGo (valP x) (l'.take i) = bv at H5 hst
        obtain ⟨v1, v2⟩ := bv
        generalize l'[i] = y at q0 q1 q2 hst
        rcases hdo : vDo ⟨#[43]⟩ [(v1, v2), (y.f1.f0, y.f1.f1)] with ⟨⟨r1, r2⟩, r3⟩
        have HST := Sd.mk (hst.trans (show do2 ⟨#[43]⟩ (v1, v2) (valP y) = (r1, r2) by unfold do2 valP; rw [hdo]))
        have hba := below1 wr (.cells #[.int .i64 y.f0, .int .i64 y.f1.f0, .int .i64 y.f1.f1] 39)
        have c0 := (blk_cell (blk_below H5.out hba) 0).trans rfl
        have c1 := (blk_cell (blk_below H5.out hba) 1).trans rfl
        have HD := Sd.mk (do2_any ⟨#[43]⟩ v1 v2 y.f1.f0 y.f1.f1 (wr.alloc (.cells #[.int .i64 y.f0, .int .i64 y.f1.f0, .int .i64 y.f1.f1] 39)) hdo)
        simp only [World.size_alloc] at HD
        have HA := Sd.mk hba
        clear hst hbv hba hdo
        go_wp2_with fail
        refine HD.out.mono ?_
        rintro e w2 ⟨rfl, hb2⟩
        have HB2 := Sd.mk (HA.out.trans (hb2.mono (Nat.le_succ _)))
        have K5 := Sd.mk (blk_below H5.out HB2.out)
        have K4 := Sd.mk (blk_below H4.out HB2.out)
        have z0 := (blk_cell K5.out 0).trans rfl
        have z1 := (blk_cell K5.out 1).trans rfl
        have f0 := blk_frozen K5.out 0
        have f1 := blk_frozen K5.out 1
        have HW2 := Sd.mk (HW.out.trans (HB2.out.mono HW.out.size))
        clear hb2 c0 c1
        go_wp2
        go_roundw
        case rel => exact ⟨i + 1, by omega, by go_num, ⟨keep_val K4.out (by omega)⟩, ⟨by rw [HST.out]; exact set_val K5.out⟩, ⟨(HW2.out.setCell (by simp) _).setCell (by simp) _⟩⟩
        case measure => simp [intOf]; omega
      · have n1 : decide ((i : Int) < (l'.length : Int)) = false := decide_eq_false (by omega)
        have n2 : decide (i < l'.length) = false := decide_eq_false hlt
        have HE := Sd.mk (show l'.take i = l' from List.take_of_length_le (by omega))
        rw [HE.out] at H5
        generalize hbv : totalGo (valP x) l' = bv at H5
        have HBV := Sd.mk hbv
        obtain ⟨v1, v2⟩ := bv
        have c0 := (blk_cell H5.out 0).trans rfl
        have c1 := (blk_cell H5.out 1).trans rfl
        have d0 := (blk_cell H4.out 0).trans rfl
        have d1 := (blk_cell H4.out 1).trans rfl
        have f0 := blk_frozen H4.out 0
        have f1 := blk_frozen H4.out 1
        clear hbv
        go_wp2
        exact bodyPost_ret (v := .agg #[.int .i64 v1, .int .i64 v2]) (by simp [results, Tryz.results44, go_sem, d0, d1]) rfl ⟨by rw [HBV.out], (HW.out.setCell (by simp) _).setCell (by simp) _⟩
end Go.Proofs.YtcmiehddjgfjaaaGreat.A
namespace Go.Proofs.YtcmiehddjgfjaaaGreat.B
open Go.RowKit Go.Proofs.YtcmiehddjgfjaaaGreatW.PrintWords Go.Proofs.YtcmiehddjgfjaaaGreatW.PrintLast Go.Proofs.YtcmiehddjgfjaaaGreatW.PrintMore
attribute [local go_sem] max2_int min2_int max_two min_two max_three min_three max_four min_four   -- for this text's walks alone
def errW : Option Int → Value
  | none => .nilIface
  | some c => .iface 0 (.int .i64 c)
theorem errW_none : errW none = .nilIface := rfl
theorem errW_some (c : Int) : errW (some c) = .iface 0 (.int .i64 c) := rfl
def slices_Index_string_string.l0 : Nat → List ByteArray → ByteArray → Int → Int → Option (Int)
  | 0, _, _, _, _ => none
  | k + 1, x0, x1, x7, x8 => if x8 < x7 then (if 0 ≤ x8 then (if x8 < (x0.length : Int) then (if x1.toList = (rdOf ByteArray.empty x0 x8).toList then (some x8) else (slices_Index_string_string.l0 k x0 x1 x7 (wrap64 (x8 + 1)))) else (none)) else (none)) else (some (-1))
def slices_Index_string_string.f (k : Nat) (l0 : List ByteArray) (a1 : ByteArray) : Option (Int) := slices_Index_string_string.l0 k l0 a1 (l0.length : Int) 0
theorem slices_Index_string_string.mono_l : ∀ k, (∀ y0 y1 y2 y3, LeO (slices_Index_string_string.l0 k y0 y1 y2 y3) (slices_Index_string_string.l0 (k + 1) y0 y1 y2 y3))
  | 0 => fun _ _ _ _ r h => by simp [slices_Index_string_string.l0] at h
  | k + 1 => by
    have ih0 := slices_Index_string_string.mono_l k
    · intro y0 y1 y2 y3
      unfold slices_Index_string_string.l0
      repeat' first
      | (with_reducible exact ih0 _ _ _ _)
      | (with_reducible exact LeO.refl _)
      | (with_reducible exact LeO.none _)
      | (with_reducible refine LeO.ite ?_ ?_)
      | (with_reducible refine LeO.bind ?_ (fun _ => ?_))
      | exact ih0 _ _ _ _
      | exact LeO.none _
      | refine LeO.ite ?_ ?_
      | refine LeO.bind ?_ (fun _ => ?_)
theorem slices_Index_string_string.mono : ∀ a0 a1 k, LeO (slices_Index_string_string.f k a0 a1) (slices_Index_string_string.f (k + 1) a0 a1) := by
  intro a0 a1 k
  have ih0 := slices_Index_string_string.mono_l k
  unfold slices_Index_string_string.f
  repeat' first
      | (with_reducible exact ih0 _ _ _ _)
      | (with_reducible exact LeO.refl _)
      | (with_reducible exact LeO.none _)
      | (with_reducible refine LeO.ite ?_ ?_)
      | (with_reducible refine LeO.bind ?_ (fun _ => ?_))
      | exact ih0 _ _ _ _
      | exact LeO.none _
      | refine LeO.ite ?_ ?_
      | refine LeO.bind ?_ (fun _ => ?_)
theorem slices_Index_string_string.calls (k : Nat) (A0 : Option Addr) (c0 : Nat) (l0 : List ByteArray) (a1 : ByteArray) (r : Int) (w : World) (hr0 : Kd.C Kd.string w A0 l0.length l0) (hc0 : l0.length ≤ c0) (h : slices_Index_string_string.f k l0 a1 = some r) :
    Calls Tryz.prog 71 #[.slice A0 l0.length c0, .string a1] w fun e w' => e = .returned (.int .i64 r) ∧ Drawn0 w w' := by
  have HR0 := Sd.mk hr0
  have HC0 := Sd.mk hc0
  clear hr0 hc0
  have H : (slices_Index_string_string.l0 k l0 a1 (l0.length : Int) 0) = some r := h
  clear h
  have H' := Sd.mk H
  clear H
  go_enter Tryz.func71, Tryz.ntmps71
  go_wp2
  go_loopg [8] k (fun kq v8 w' => ∃ (x8_1 : Int), v8 = .int .i64 x8_1 ∧ Sd (slices_Index_string_string.l0 kq l0 a1 (l0.length : Int) x8_1 = some r) ∧ Sd (kq ≤ k) ∧ Drawn0 w w')
  case atStart => exact ⟨(0), (by first | rfl | (simp; done) | (simp [*]; done)), H', ⟨Nat.le_refl _⟩, by repeat (first | exact Drawn0.refl _ | apply Drawn0.step)⟩
  case round =>
    clear H'
    try clear p2
    obtain ⟨x8_1, rfl, HA, HK1, ⟨m1, rfl⟩⟩ := hrel
    cases gk with
    | zero => exact absurd HA.out (by simp [slices_Index_string_string.l0])
    | succ k1 =>
      have H := HA.out
      clear HA
      simp only [slices_Index_string_string.l0] at H
      by_cases c3 : x8_1 < (l0.length : Int)
      · rw [if_pos c3] at H
        have c3b0 : decide (x8_1 < (l0.length : Int)) = true := decide_eq_true c3
        clear c3
        by_cases c4 : 0 ≤ x8_1
        · rw [if_pos c4] at H
          have c4b0 : decide (0 ≤ x8_1) = true := decide_eq_true c4
          clear c4
          by_cases c5 : x8_1 < (l0.length : Int)
          · rw [if_pos c5] at H
            have c5b0 : decide (x8_1 < (l0.length : Int)) = true := decide_eq_true c5
            clear c5
            by_cases c6 : a1.toList = (rdOf ByteArray.empty l0 x8_1).toList
            · rw [if_pos c6] at H
              have c6b0 : (a1.toList == (rdOf ByteArray.empty l0 x8_1).toList) = true := beq_iff_eq.mpr c6
              have c6b1 : (a1.toList != (rdOf ByteArray.empty l0 x8_1).toList) = false := bne_eq_false_iff_eq.mpr c6
              clear c6
              obtain rfl := Option.some.inj H
              have p101 : 0 ≤ (x8_1 : Int) := of_decide_eq_true (by first | (with_reducible assumption) | assumption)
              have q101 : x8_1 < (l0.length : Int) := of_decide_eq_true (by first | (with_reducible assumption) | assumption)
              obtain ⟨ad101, e101, hx101_0⟩ := Kd.at_string HR0.out x8_1 p101 q101
              cases e101
              replace p101 := eq_true p101
              replace q101 := eq_true q101
              go_wp2
              go_ret
              exact ⟨by first | rfl | (simp; done) | (simp [*]; done), by repeat (first | exact Drawn0.refl _ | apply Drawn0.step)⟩
            · rw [if_neg c6] at H
              have c6b0 : (a1.toList == (rdOf ByteArray.empty l0 x8_1).toList) = false := beq_eq_false_iff_ne.mpr c6
              have c6b1 : (a1.toList != (rdOf ByteArray.empty l0 x8_1).toList) = true := bne_iff_ne.mpr c6
              have H' := Sd.mk H
              clear H
              have p101 : 0 ≤ (x8_1 : Int) := of_decide_eq_true (by first | (with_reducible assumption) | assumption)
              have q101 : x8_1 < (l0.length : Int) := of_decide_eq_true (by first | (with_reducible assumption) | assumption)
              obtain ⟨ad101, e101, hx101_0⟩ := Kd.at_string HR0.out x8_1 p101 q101
              cases e101
              replace p101 := eq_true p101
              replace q101 := eq_true q101
              go_wp2
              go_roundg k1
              case measure => have := HK1.out; omega
              case rel => exact ⟨(wrap64 (x8_1 + 1)), (by first | rfl | (simp; done) | (simp [*]; done)), H', ⟨by have := HK1.out; omega⟩, by repeat (first | exact Drawn0.refl _ | apply Drawn0.step)⟩
          · rw [if_neg c5] at H
            exact absurd H (by simp)
        · rw [if_neg c4] at H
          exact absurd H (by simp)
      · rw [if_neg c3] at H
        have c3b0 : decide (x8_1 < (l0.length : Int)) = false := decide_eq_false c3
        clear c3
        obtain rfl := Option.some.inj H
        go_wp2
        go_ret
        exact ⟨by first | rfl | (simp; done) | (simp [*]; done), by repeat (first | exact Drawn0.refl _ | apply Drawn0.step)⟩
def slices_Contains_string_string.f (k : Nat) (l0 : List ByteArray) (a1 : ByteArray) : Option (Bool) := (slices_Index_string_string.f k l0 a1).bind fun t102 => (some (decide (t102 ≥ 0)))
theorem slices_Contains_string_string.mono : ∀ a0 a1 k, LeO (slices_Contains_string_string.f k a0 a1) (slices_Contains_string_string.f (k + 1) a0 a1) := by
  intro a0 a1 k
  unfold slices_Contains_string_string.f
  repeat' first
      | (with_reducible exact slices_Index_string_string.mono _ _ _)
      | (with_reducible exact LeO.refl _)
      | (with_reducible exact LeO.none _)
      | (with_reducible refine LeO.ite ?_ ?_)
      | (with_reducible refine LeO.bind ?_ (fun _ => ?_))
      | exact slices_Index_string_string.mono _ _ _
      | exact LeO.none _
      | refine LeO.ite ?_ ?_
      | refine LeO.bind ?_ (fun _ => ?_)
theorem slices_Contains_string_string.calls (k : Nat) (A0 : Option Addr) (c0 : Nat) (l0 : List ByteArray) (a1 : ByteArray) (r : Bool) (w : World) (hr0 : Kd.C Kd.string w A0 l0.length l0) (hc0 : l0.length ≤ c0) (h : slices_Contains_string_string.f k l0 a1 = some r) :
    Calls Tryz.prog 30 #[.slice A0 l0.length c0, .string a1] w fun e w' => e = .returned (.bool r) ∧ Drawn0 w w' := by
  have HR0 := Sd.mk hr0
  have HC0 := Sd.mk hc0
  clear hr0 hc0
  have H : ((slices_Index_string_string.f k l0 a1).bind fun t102 => (some (decide (t102 ≥ 0)))) = some r := h
  clear h
  replace H := Option.bind_eq_some_iff.mp H
  obtain ⟨t102, A30, H⟩ := H
  replace H : (some (decide (t102 ≥ 0))) = some r := H
  have A3 := Sd.mk A30
  clear A30
  obtain rfl := Option.some.inj H
  go_enter Tryz.func30, Tryz.ntmps30
  go_wp2_with (first | ((with_reducible refine gate_callee (f := 71) rfl ?_); refine goesL_ (some 7) rfl rfl Tryz.func71 (by kernel_rfl) rfl #[.slice A0 l0.length c0, .string a1] rfl (by (try simp only [List.map_toArray, List.map_cons, List.map_nil]); first | done | rfl | (simp only [List.length_drop, List.length_take]; rfl)) ?_; (with_reducible refine (slices_Index_string_string.calls k _ _ l0 a1 t102 _ ?side1 ?side2 A3.out).mono ?_); (case side1 => repeat (first | exact HR0.out | (with_reducible refine Kd.C_alloc ?_ _) | (with_reducible refine Kd.C_drewN ?_ _) | (with_reducible refine Kd.C_drew ?_))); (case side2 => exact HC0.out); rintro e w' ⟨rfl, ⟨nd, rfl⟩⟩; refine ⟨_, rfl, ?_⟩))
  go_ret
  exact ⟨by first | rfl | (simp; done) | (simp [*]; done), by repeat (first | exact Drawn0.refl _ | apply Drawn0.step)⟩
end Go.Proofs.YtcmiehddjgfjaaaGreat.B
namespace Go.Proofs.YtcmiehddjgfjaaaGreat.A
open Go.RowKit Go.Proofs.YtcmiehddjgfjaaaGreatW.PrintWords Go.Proofs.YtcmiehddjgfjaaaGreatW.PrintLast Go.Proofs.YtcmiehddjgfjaaaGreatW.PrintMore Go.Proofs.YtcmiehddjgfjaaaGreat.St Go.Proofs.YtcmiehddjgfjaaaGreat.Stable
theorem last_get {x : Pt} {l' : List Pt} : ∃ h : (x :: l').length - 1 < (isort (ltOf cmpAt) (x :: l')).length, (isort (ltOf cmpAt) (x :: l'))[(x :: l').length - 1] = lastOf cmpAt x l' := by
  have h := last_isort cmpAt3 x l'
  have hl := isort_length (lt := ltOf cmpAt) (x :: l')
  have hp : (x :: l').length - 1 < (isort (ltOf cmpAt) (x :: l')).length := by rw [hl]; simp
  refine ⟨hp, ?_⟩
  rw [List.getLast?_eq_getElem?, hl, List.getElem?_eq_getElem hp] at h
  exact Option.some.inj h
theorem last_calls (A : Option Addr) (c : Nat) (x : Pt) (l' : List Pt) (hl : (x :: l').length * 24 ≤ 140737488355328) (w : World) (hr : Kd.C k39 w A (x :: l').length (x :: l')) :
    Calls Tryz.prog 40 #[.slice A (x :: l').length c] w fun e w' => e = .returned (.agg #[.int .i64 (valP (lastOf cmpAt x l')).1, .int .i64 (valP (lastOf cmpAt x l')).2]) ∧ Below w.heap.size w w' := by
  obtain ⟨hp, hlast⟩ := last_get (x := x) (l' := l')
  have hsl := isort_length (lt := ltOf cmpAt) (x :: l')
  have hb0 := below1 w (.cells #[.int .i64 0, .int .i64 0] 25)
  have hb1 := bal hb0 (.cells #[.slice A (x :: l').length c] 22)
  have X4 := Sd.mk (blk_old2 (blk_new w (.cells #[.int .i64 0, .int .i64 0] 25)) (.cells #[.slice A (x :: l').length c] 22))
  have X5 := blk_new (w.alloc (.cells #[.int .i64 0, .int .i64 0] 25)) (.cells #[.slice A (x :: l').length c] 22)
  have HS := Sd.mk (sortedP_calls (w.heap.size + 1) A c (x :: l') hl ((w.alloc (.cells #[.int .i64 0, .int .i64 0] 25)).alloc (.cells #[.slice A (x :: l').length c] 22)) (by simp) (by rw [World.size_alloc] at X5; exact (blk_cell X5 0).trans rfl) (Kd.C_below hr hb1))
  have HB := Sd.mk hb1
  generalize isort (ltOf cmpAt) (x :: l') = s at hp hlast hsl HS
  generalize lastOf cmpAt x l' = y at hlast ⊢
  have hn : (x :: l').length = l'.length + 1 := rfl
  rw [hn] at HS HB X4 hl ⊢
  have hp2 : l'.length < s.length := by rw [hsl, hn]; omega
  have hlast2 : s[l'.length] = y := hlast
  have HL := Sd.mk hlast2
  have HN := Sd.mk (show s.length = l'.length + 1 from hsl)
  clear hlast hlast2 hsl hr hb0 hb1 X5 hp hn
  have s1 : (((l'.length + 1 : Nat) : Int) - 1) = (l'.length : Int) := by omega
  go_enter Tryz.func40, Tryz.ntmps40
  go_wp2_with fail
  refine (valuesP_calls _ _ _ _).mono ?_
  rintro e w1 ⟨rfl, rfl⟩
  go_wp2_with fail
  refine HS.out.mono ?_
  rintro e w2 ⟨v, rfl, hv, hb2⟩
  have HB2 := Sd.mk (HB.out.trans (hb2.mono HB.out.size))
  have K4 := Sd.mk (blk_below X4.out hb2)
  obtain ⟨A2, c2, rfl, _, hC⟩ := Kd.R_reads hv
  obtain ⟨ad, rfl, p0, p1, p2⟩ := at_T39 hC (l'.length : Int) (by omega) (by omega)
  rw [rdP_at hp2, HL.out] at p1 p2
  rw [Int.toNat_natCast] at p1 p2
  have d0 := (blk_cell K4.out 0).trans rfl
  have d1 := (blk_cell K4.out 1).trans rfl
  have f0 := blk_frozen K4.out 0
  have f1 := blk_frozen K4.out 1
  have bN : (l'.length : Int) < (s.length : Int) := by omega
  have HN2 := Sd.mk HN.out
  rw [HN.out]
  clear hv hb2 hC p0 X4
  go_wp2
  exact bodyPost_ret (v := .agg #[.int .i64 y.f1.f0, .int .i64 y.f1.f1]) (by simp [results, Tryz.results40, go_sem, d0, d1]) rfl ⟨rfl, (HB2.out.setCell (by simp) _).setCell (by simp) _⟩
/-- copy of elements of whatever size, all of them in cells. -/
theorem run_copy_k {P : Program} (w : World) (dT sT ty elem : TypeId) (b o dLen dCap : Nat) (a : Addr) (sLen sCap sz : Nat) (cs : List Value)
    (hu : P.underlying dT = some (.slice elem)) (hs : (P.info? elem).map (·.size) = some sz) (hn : cs.length = Nat.min sLen dLen * sz)
    (hsrc : ∀ j v, cs[j]? = some v → w.cell? (a.add j) = some v) (hc : ∀ j, j < cs.length → (w.cell? ⟨b, o + j, none⟩).isSome = true) (hf : ∀ j, j < cs.length → w.frozen? ⟨b, o + j, none⟩ = false) (h1 : ∀ v ∈ cs, v.oneCell' = true) :
    (Builtin.copy_ #[dT, sT] ty #[.slice (some ⟨b, o, none⟩) dLen dCap, .slice (some a) sLen sCap]).run P w = .ok (goInt (Nat.min sLen dLen)) (w.setCells b o cs) := by
  have hl := run_loadCells_list (P := P) w a cs hsrc
  have hst := run_storeCells_cells (P := P) b o cs 0 w (by simpa using hc) (by simpa using hf) h1
  cases hq : P.info? elem with
  | none => simp [hq] at hs
  | some i =>
    have hi : i.size = sz := by simpa [hq] using hs
    simp [Builtin.copy_, run_underlying hu, Builtin.lenOf, Builtin.firstCells, sizeOf, typeInfo, hq, hi, ← hn, hl, hst]
theorem mul_one (m : Int) (h0 : 0 ≤ m) (h : m ≤ 2) (w : World) : Calls Tryz.prog 150 #[.int .u64 1, .int .u64 m] w fun e w' => e = .returned (.tuple #[.int .u64 0, .int .u64 m]) ∧ Below w.heap.size w w' := by
  have hm := mul128 1 m (by omega) (by omega) h0 (by omega)
  have e1 : (1 * m) / 18446744073709551616 = 0 := by omega
  have e2 : (1 * m) % 18446744073709551616 = m := by omega
  rw [e1, e2] at hm
  have HC := Sd.mk (bits_Mul64.calls 1 m 0 m w hm)
  clear hm e1 e2
  go_enter Tryz.func150, Tryz.ntmps150
  go_wp2_with (go_at_call 163; refine HC.out.mono ?_; rintro e w1 ⟨rfl, ⟨n, rfl⟩⟩)
  go_ret2
  exact ⟨rfl, pbd (Below.refl _ _) n⟩
theorem info_size {P : Program} {e : TypeId} {z : Value} {n b : Nat} (h : (P.info? e).map (fun i => (i.zero, i.size, i.bytes)) = some (some z, n, b)) : (P.info? e).map (·.size) = some n := by
  obtain ⟨i, hi, _, h2, _⟩ := info_parts h
  rw [hi]; exact congrArg some h2
/-- A row of two values' cells, laid just now. -/
theorem row4 {W : World} {g : Nat} {a1 a2 b1 b2 : Int} (h : W.heap[g]? = some (.cells #[.int .i64 a1, .int .i64 a2, .int .i64 b1, .int .i64 b2] 25 (0, 0))) : Kd.C k25 W (some ⟨g, 0, none⟩) 2 [⟨a1, a2⟩, ⟨b1, b2⟩] := by
  refine ⟨rfl, by simp, fun _ => ⟨_, rfl, fun j p hp => ?_⟩⟩
  match j, hp with
  | 0, hp =>
    injection hp with hp
    subst hp
    exact ⟨[.int .i64 a1, .int .i64 a2], rfl, k25_mk _ _, fun i u hu => by
      match i, hu with
      | 0, hu => exact (blk_cell h 0).trans hu
      | 1, hu => exact (blk_cell h 1).trans hu
      | i + 2, hu => simp at hu⟩
  | 1, hp =>
    injection hp with hp
    subst hp
    exact ⟨[.int .i64 b1, .int .i64 b2], rfl, k25_mk _ _, fun i u hu => by
      match i, hu with
      | 0, hu => exact (blk_cell h 2).trans hu
      | 1, hu => exact (blk_cell h 3).trans hu
      | i + 2, hu => simp at hu⟩
  | j + 2, hp => simp at hp
theorem made_4 : madeCells (Value.agg #[.int .i64 0, .int .i64 0]).cells (Int.toNat 2 * 2) = #[.int .i64 0, .int .i64 0, .int .i64 0, .int .i64 0] := by kernel_rfl
theorem made4 (W : World) : (Instr.makeSlice 47 (.int .i64 2) (.int .i64 2)).run Tryz.prog W = .ok (.slice (some ⟨W.heap.size, 0, none⟩) 2 2) (W.alloc (.cells #[.int .i64 0, .int .i64 0, .int .i64 0, .int .i64 0] 25)) := by
  obtain ⟨i, hi, hz, h1, h2⟩ := info_parts info25
  have h := run_makeSlice (P := Tryz.prog) W 47 25 i _ Tryz.underlying47 hi hz .i64 .i64 2 2 (by omega) (by omega) (by rw [h1]; decide) (by rw [h2]; decide) (by omega)
  rw [h1, made_4] at h
  exact h
/-- A block's cells written over, as a block. -/
theorem set_blk {W : World} {g o : Nat} {t : TypeId} {cs : Array Value} {x : Value} (h : W.heap[g]? = some (.cells cs t (0, 0))) : (W.setCell ⟨g, o, none⟩ x).heap[g]? = some (.cells (cs.setIfInBounds o x) t (0, 0)) := by
  rw [setCell_eq_setRow W g o cs t (0, 0) x h]
  exact setRow_heap W g cs _ t (0, 0) h
theorem set2_0 {W : World} {g : Nat} {t : TypeId} {a b c d x y : Value} (h : W.heap[g]? = some (.cells #[a, b, c, d] t (0, 0))) : (W.setCells g 0 [x, y]).heap[g]? = some (.cells #[x, y, c, d] t (0, 0)) := set_blk (set_blk h)
theorem set2_1 {W : World} {g : Nat} {t : TypeId} {a b c d x y : Value} (h : W.heap[g]? = some (.cells #[a, b, c, d] t (0, 0))) : (W.setCells g 2 [x, y]).heap[g]? = some (.cells #[a, b, x, y] t (0, 0)) := set_blk (set_blk h)
theorem below_set2 {B : Nat} {w W : World} {g o : Nat} {x y : Value} (h : Below B w W) (hg : B ≤ g) : Below B w (W.setCells g o [x, y]) := (h.setCell (p := ⟨g, o, none⟩) hg x).setCell (p := ⟨g, o + 1, none⟩) hg y
/-- copy, as one step of a region that draws. -/
theorem step_copy_k {P : Program} {ops : Array Oper} {o : Oper} {a : Act} {w : World} {K : Act → World → Prop} {Q : Exit → Act → World → Prop} {E : Prop} (hg : o.guard = none) (d s : Operand) (dT sT elem : TypeId)
    (ho : o.op = .call { callee := .builtin .copy, args := #[d, s], argTypes := #[dT, sT] }) (hu : P.underlying dT = some (.slice elem)) {sz : Nat} (hsz : (P.info? elem).map (·.size) = some sz)
    (b off dLen dCap : Nat) (hd : a.eval d = .slice (some ⟨b, off, none⟩) dLen dCap) (ad : Addr) (sLen sCap : Nat) (hs : a.eval s = .slice (some ad) sLen sCap) (cs : List Value) (hn : cs.length = Nat.min sLen dLen * sz)
    (hsrc : ∀ j v, cs[j]? = some v → w.cell? (ad.add j) = some v) (hc : ∀ j, j < cs.length → (w.cell? ⟨b, off + j, none⟩).isSome = true) (hf : ∀ j, j < cs.length → w.frozen? ⟨b, off + j, none⟩ = false) (h1 : ∀ v ∈ cs, v.oneCell' = true)
    (hK : K (a.put o.dst (goInt (Nat.min sLen dLen))) (w.setCells b off cs)) :
    if Region.wanted o (yielded ops a.tmps) = true then Oper.wp P o a w K Q else E := by
  have hw : Region.wanted o (yielded ops a.tmps) = true := by simp [Region.wanted, hg]
  rw [if_pos hw]
  have hrun := run_copy_k (P := P) w dT sT o.type elem b off dLen dCap ad sLen sCap sz cs hu hsz hn hsrc hc hf h1
  unfold Oper.wp
  simp [execOp, ho, resolve, invoke, builtin, hd, hs, hrun, Result.andThen]
  exact hK
theorem repeat2_calls (b : Nat) (x y : Int) (w : World) (p0 : w.cell? ⟨b, 0, none⟩ = some (.int .i64 x)) (p1 : w.cell? ⟨b, 1, none⟩ = some (.int .i64 y)) :
    Calls Tryz.prog 101 #[.slice (some ⟨b, 0, none⟩) 1 1, .int .i64 2] w fun e w' => ∃ A, e = .returned (.slice A 2 2) ∧ Kd.C k25 w' A 2 [⟨x, y⟩, ⟨x, y⟩] ∧ Below w.heap.size w w' := by
  have HM := Sd.mk (mul_one 2 (by omega) (by omega) w)
  have hmk := made4
  go_enter Tryz.func101, Tryz.ntmps101
  go_wp2_with fail
  refine HM.out.mono ?_
  rintro e w1 ⟨rfl, hb1⟩
  replace p0 := pw_cell_below (bal hb1 (.cells #[.int .i64 0, .int .i64 0, .int .i64 0, .int .i64 0] 25)) p0
  replace p1 := pw_cell_below (bal hb1 (.cells #[.int .i64 0, .int .i64 0, .int .i64 0, .int .i64 0] 25)) p1
  have HB := Sd.mk (bal hb1 (.cells #[.int .i64 0, .int .i64 0, .int .i64 0, .int .i64 0] 25))
  have X := Sd.mk (blk_new w1 (.cells #[.int .i64 0, .int .i64 0, .int .i64 0, .int .i64 0] 25))
  have HS := Sd.mk hb1.size
  clear hb1
  have HP := Sd.mk (And.intro p0 p1)
  clear p0 p1
  obtain ⟨W2, hcp, hX2, hb2⟩ : ∃ W2, (Builtin.copy_ #[47, 47] 3 #[.slice (some ⟨w1.heap.size, 0, none⟩) 2 2, .slice (some ⟨b, 0, none⟩) 1 1]).run Tryz.prog (w1.alloc (.cells #[.int .i64 0, .int .i64 0, .int .i64 0, .int .i64 0] 25)) = .ok (goInt 1) W2 ∧ W2.heap[w1.heap.size]? = some (.cells #[.int .i64 x, .int .i64 y, .int .i64 0, .int .i64 0] 25 (0, 0)) ∧ Below w.heap.size w W2 := by
    refine ⟨_, run_copy_k _ _ _ _ 25 w1.heap.size 0 2 2 ⟨b, 0, none⟩ 1 1 2 [.int .i64 x, .int .i64 y] Tryz.underlying47 (info_size info25) rfl ?_ ?_ ?_ ?_, set2_0 X.out, below_set2 HB.out HS.out⟩
    · intro j v hj
      rw [add_at, Nat.zero_add]
      match j, hj with
      | 0, hj => injection hj with hj; subst hj; exact HP.out.1
      | 1, hj => injection hj with hj; subst hj; exact HP.out.2
      | j + 2, hj => simp at hj
    · intro j hj
      rw [Nat.zero_add, blk_cell X.out j]
      match j, hj with
      | 0, _ => rfl
      | 1, _ => rfl
      | j + 2, hj => exact absurd (show j + 2 < 2 from hj) (by omega)
    · intro j hj
      exact blk_frozen X.out _
    · intro v hv
      simp only [List.mem_cons, List.not_mem_nil, or_false] at hv
      rcases hv with rfl | rfl <;> rfl
  have HX2 := Sd.mk hX2
  have HB2 := Sd.mk hb2
  clear hX2 hb2 HP X
  go_wp2
  go_loopw [8] (fun v8 wr => (v8 = .int .i64 1 ∧ wr = W2) ∨ (v8 = .int .i64 2 ∧ wr.heap[w1.heap.size]? = some (.cells #[.int .i64 x, .int .i64 y, .int .i64 x, .int .i64 y] 25 (0, 0)) ∧ Below w.heap.size w wr)) (fun v8 _ => 2 - (intOf v8).toNat)
  case atStart => exact .inl ⟨rfl, rfl⟩
  case round =>
    rcases hrel with ⟨rfl, rfl⟩ | ⟨rfl, hx, hb⟩
    · have HX3 := Sd.mk (fun n => blk_drewN HX2.out n)
      clear hcp hmk
      have hw2 : IntKind.i64.wrap 2 = 2 := by decide
      go_wp2_with fail
      go_region_law (refine step_copy_k rfl (.tmp 41) (.tmp 44) 47 47 25 rfl Tryz.underlying47 (info_size info25) w1.heap.size 2 1 1 (by go_simp) ⟨w1.heap.size, 0, none⟩ 1 2 (by go_simp) [.int .i64 x, .int .i64 y] rfl (fun j v hj => by
        rw [add_at, Nat.zero_add]
        match j, hj with
        | 0, hj => exact (blk_cell HX2.out 0).trans hj
        | 1, hj => exact (blk_cell HX2.out 1).trans hj
        | j + 2, hj => simp at hj) (fun j hj => by
        match j, hj with
        | 0, _ => exact (congrArg Option.isSome (blk_cell HX2.out 2)).trans rfl
        | 1, _ => exact (congrArg Option.isSome (blk_cell HX2.out 3)).trans rfl
        | j + 2, hj => exact absurd (show j + 2 < 2 from hj) (by omega)) (fun j _ => blk_frozen HX2.out _) (fun v hv => by
        simp only [List.mem_cons, List.not_mem_nil, or_false] at hv
        rcases hv with rfl | rfl <;> rfl) ?_)
      go_simp
      go_wp2
      go_roundw
      case rel => exact .inr ⟨rfl, set2_1 HX2.out, below_set2 (HB2.out.trans ((Below.refl _ wr).drew.mono HB2.out.size)) HS.out⟩
      case measure => simp [intOf]
    · have HX4 := Sd.mk hx
      have HB4 := Sd.mk hb
      clear hx hb hcp hmk
      go_wp2
      go_ret
      exact ⟨_, rfl, row4 HX4.out, HB4.out⟩
theorem num0_calls (w : World) : Calls Tryz.prog 76 #[.int .i64 0] w fun e w' => e = .returned (.agg #[.int .i64 1, .int .i64 0]) ∧ Below w.heap.size w w' := by
  exact v_Num.calls 0 1 0 w (num_is 0)
theorem knows2_calls (op : ByteArray) (w : World) : Calls Tryz.prog 62 #[.string op, .int .i64 2] w fun e w' => e = .returned (.bool (decide ((vDo op [(1, 0), (1, 0)]).2 = 0))) ∧ Below w.heap.size w w' := by
  rcases hr : vDo op [(1, 0), (1, 0)] with ⟨⟨r1, r2⟩, r3⟩
  have hD := fun (w1 : World) (A : Option Addr) (h : Kd.C k25 w1 A 2 [⟨1, 0⟩, ⟨1, 0⟩]) => v_Do.calls op A 2 [⟨1, 0⟩, ⟨1, 0⟩] r1 r2 r3 w1 h (Nat.le_refl _) (by show some ((vDo op [(1, 0), (1, 0)]).1.1, (vDo op [(1, 0), (1, 0)]).1.2, (vDo op [(1, 0), (1, 0)]).2) = _; rw [hr])
  have HD := Sd.mk hD
  clear hD hr
  go_enter Tryz.func62, Tryz.ntmps62
  go_wp2_with fail
  refine (num0_calls w).mono ?_
  rintro e w1 ⟨rfl, hb1⟩
  have X := blk_new w1 (.cells #[.int .i64 1, .int .i64 0] 25)
  have HR := Sd.mk (repeat2_calls w1.heap.size 1 0 _ ((blk_cell X 0).trans rfl) ((blk_cell X 1).trans rfl))
  have HB := Sd.mk (bal hb1 (.cells #[.int .i64 1, .int .i64 0] 25))
  clear X hb1
  go_wp2_with fail
  refine HR.out.mono ?_
  rintro e w2 ⟨A, rfl, hC, hb2⟩
  have HC := Sd.mk (HD.out w2 A hC)
  have HB2 := Sd.mk (HB.out.trans (hb2.mono HB.out.size))
  clear hC hb2
  go_wp2_with fail
  refine HC.out.mono ?_
  rintro e w3 ⟨rfl, hb3⟩
  have HB3 := Sd.mk (HB2.out.trans (hb3.mono HB2.out.size))
  clear hb3
  by_cases h0 : r3 = 0
  · subst h0
    go_wp2
    go_ret
    exact ⟨rfl, HB3.out.alloc HB3.out.size _⟩
  · have n0 : (r3 == 0) = false := by simpa using h0
    have HZ := Sd.mk (decide_eq_false h0)
    clear h0
    go_wp2
    go_ret
    exact ⟨by rw [HZ.out]; rfl, HB3.out.alloc HB3.out.size _⟩
theorem wrap_in {n : Int} (h0 : -9223372036854775808 ≤ n) (h1 : n ≤ 9223372036854775807) : wrap64 n = n := by unfold wrap64; omega
theorem wrap_nat {i : Nat} (h : i < 9223372036854775807) : wrap64 ((i : Int) + 1) = ((i + 1 : Nat) : Int) := by rw [wrap_in (by omega) (by omega)]; omega
/-- May a byte stand there in a name? -/
def okP (x c : Int) : Prop := (97 ≤ c ∧ c ≤ 122) ∨ (65 ≤ c ∧ c ≤ 90) ∨ c = 95 ∨ (0 < x ∧ 48 ≤ c ∧ c ≤ 57)
instance (x c : Int) : Decidable (okP x c) := by unfold okP; exact inferInstance
def okAll (s : ByteArray) (i : Nat) : Nat → Bool
  | 0 => true
  | d + 1 => decide (okP (i : Int) (bt s (i : Int))) && okAll s (i + 1) d
/-- Is a text a name? -/
def isName (s : ByteArray) : Bool := decide (0 < s.size) && decide (s.size ≤ 64) && okAll s 0 s.size
theorem code_loop (s : ByteArray) (hm : s.size < 9223372036854775807) : ∀ (d i : Nat), i + d = s.size → Ev (fun k => lb_nameOK.l0 k s (s.size : Int) (i : Int)) (okAll s i d && (decide (0 < s.size) && decide (s.size ≤ 64)))
  | 0, i, h => by
    rw [okAll, Bool.true_and]
    refine Ev.step (f := fun _ => some (decide (0 < s.size) && decide (s.size ≤ 64))) (fun k => ?_) (Ev.now _)
    simp only [lb_nameOK.l0]
    rw [if_neg (by omega)]
    by_cases he : s.toList = ([] : List UInt8)
    · rw [if_pos he]
      have h0 : s.size = 0 := by
        have : s.toList.length = 0 := by rw [he]; rfl
        rw [Lib.toList_data] at this
        simpa using this
      rw [h0]; rfl
    · rw [if_neg he]
      have h0 : 0 < s.size := by
        rcases Nat.eq_zero_or_pos s.size with h0 | h0
        · exfalso; apply he
          rw [Lib.toList_data]
          exact List.eq_nil_of_length_eq_zero (by simpa using h0)
        · exact h0
      rw [decide_eq_true h0, Bool.true_and]
      congr 1
      exact decide_eq_decide.2 (by omega)
  | d + 1, i, h => by
    have ih := code_loop s hm d (i + 1) (by omega)
    rw [okAll]
    have hd : ∀ (b : Bool) k, lb_nameOK.l0 (k + 1) s (s.size : Int) (i : Int) = lb_nameOK.j1 k s (i : Int) (bt s (i : Int)) (s.size : Int) (i : Int) (decide (97 ≤ bt s (i : Int) ∧ bt s (i : Int) ≤ 122)) := by
      intro b k
      simp only [lb_nameOK.l0]
      rw [if_pos (by omega), if_pos (by omega), if_pos (by omega)]
      by_cases h1 : bt s (i : Int) ≥ 97
      · rw [if_pos h1]
        congr 1
        exact decide_eq_decide.2 (by omega)
      · rw [if_neg h1, decide_eq_false (by omega)]
    refine Ev.step (hd true) ?_
    by_cases h1 : 97 ≤ bt s (i : Int) ∧ bt s (i : Int) ≤ 122
    · have hc : okP (i : Int) (bt s (i : Int)) := .inl h1
      rw [decide_eq_true h1, decide_eq_true hc, Bool.true_and]
      refine Ev.step (fun k => ?_) ih
      simp only [lb_nameOK.j1]
      rw [if_pos trivial, wrap_nat (by omega)]
    · rw [decide_eq_false h1]
      have hj : ∀ k, lb_nameOK.j1 (k + 1) s (i : Int) (bt s (i : Int)) (s.size : Int) (i : Int) false = lb_nameOK.j2 k s (i : Int) (bt s (i : Int)) (s.size : Int) (i : Int) (decide (65 ≤ bt s (i : Int) ∧ bt s (i : Int) ≤ 90)) := by
        intro k
        simp only [lb_nameOK.j1]
        rw [if_neg (by decide)]
        by_cases h2 : bt s (i : Int) ≥ 65
        · rw [if_pos h2]
          congr 1
          exact decide_eq_decide.2 (by omega)
        · rw [if_neg h2, decide_eq_false (by omega)]
      refine Ev.step hj ?_
      by_cases h2 : 65 ≤ bt s (i : Int) ∧ bt s (i : Int) ≤ 90
      · have hc : okP (i : Int) (bt s (i : Int)) := .inr (.inl h2)
        rw [decide_eq_true h2, decide_eq_true hc, Bool.true_and]
        refine Ev.step (fun k => ?_) ih
        simp only [lb_nameOK.j2]
        rw [if_pos trivial, wrap_nat (by omega)]
      · rw [decide_eq_false h2]
        by_cases hc : okP (i : Int) (bt s (i : Int))
        · rw [decide_eq_true hc, Bool.true_and]
          refine Ev.step (fun k => ?_) ih
          simp only [lb_nameOK.j2]
          rw [if_neg (by decide), ← wrap_nat (by omega)]
          unfold okP at hc
          repeat' split
          all_goals first | rfl | (exfalso; omega)
        · rw [decide_eq_false hc, Bool.false_and]
          refine Ev.step (f := fun _ => some false) (fun k => ?_) (Ev.now _)
          simp only [lb_nameOK.j2]
          rw [if_neg (by decide)]
          unfold okP at hc
          repeat' split
          all_goals first | rfl | (exfalso; omega)
theorem nameOK_ev (s : ByteArray) (hm : s.size < 9223372036854775807) : Ev (fun k => lb_nameOK.f k s) (isName s) := by
  have h := code_loop s hm s.size 0 (by omega)
  have e : (okAll s 0 s.size && (decide (0 < s.size) && decide (s.size ≤ 64))) = isName s := by
    unfold isName
    rw [Bool.and_comm]
  rw [e] at h
  exact h
/-- May a label be? -/
def isLab (x : S62) : Bool := isName x.f0 && (decide (1 ≤ x.f1.size) && decide (x.f1.size ≤ 128))
theorem size_zero (s : ByteArray) : s.toList = ([] : List UInt8) ↔ s.size = 0 := by
  rw [Lib.toList_data]
  constructor
  · intro h; have : s.data.toList.length = 0 := by rw [h]; rfl
    simpa using this
  · intro h; exact List.eq_nil_of_length_eq_zero (by simpa using h)
theorem badLab_ev (x : S62) (hm : x.f0.size < 9223372036854775807) : Ev (fun k => lb_Make_1.f k x.f0 x.f1) (!isLab x) := by
  unfold lb_Make_1.f
  refine Ev.bind (f := fun k t573 => (if t573 = true then (if x.f1.toList = ([] : List UInt8) then (some true) else (some (decide ((x.f1.size : Int) > 128)))) else (some true))) (nameOK_ev x.f0 hm) ?_
  unfold isLab
  refine Ev.congr (f := fun _ => some (!(isName x.f0 && (decide (1 ≤ x.f1.size) && decide (x.f1.size ≤ 128))))) (fun k => ?_) (Ev.now _)
  cases isName x.f0 with
  | false => simp
  | true =>
    simp only [if_true, Bool.true_and]
    by_cases h1 : x.f1.toList = ([] : List UInt8)
    · have h0 := (size_zero _).1 h1
      rw [if_pos h1, decide_eq_false (show ¬ 1 ≤ x.f1.size by omega)]; rfl
    · have h0 : x.f1.size ≠ 0 := fun h => h1 ((size_zero _).2 h)
      rw [if_neg h1, decide_eq_true (show 1 ≤ x.f1.size by omega), Bool.true_and]
      congr 1
      by_cases h2 : x.f1.size ≤ 128
      · rw [decide_eq_true h2, decide_eq_false (by omega)]; rfl
      · rw [decide_eq_false h2, decide_eq_true (by omega)]; rfl
def hLast : List UInt8 := [108, 97, 115, 116]
def hMin : List UInt8 := [109, 105, 110]
def hMax : List UInt8 := [109, 97, 120]
def hSum : List UInt8 := [115, 117, 109]
def hCount : List UInt8 := [99, 111, 117, 110, 116]
def hows : List ByteArray := [⟨#[108, 97, 115, 116]⟩, ⟨#[109, 105, 110]⟩, ⟨#[109, 97, 120]⟩, ⟨#[115, 117, 109]⟩, ⟨#[109, 101, 97, 110]⟩, ⟨#[99, 111, 117, 110, 116]⟩]
def howOk (h : ByteArray) : Bool := hows.any fun x => decide (h.toList = x.toList)
def badP (x : Pt) : Bool := !decide (isV (valP x))
def keepP (strict : Bool) (l : List Pt) : List Pt := if strict = true then l else l.filter fun x => !oddP x
/-- What points become, once they are known to be values. -/
def vRed (how : List UInt8) (p : List Pt) : V × Int :=
  if how = hCount then (vNum (1000 * (p.length : Int)), 0) else match p with
  | [] => ((2, 0), 0)
  | x :: p' => if how = hLast then (valP (lastOf cmpAt x p'), 0) else if p.any oddP = true then ((3, 0), 0) else if how = hMin then (bestGo ⟨#[60]⟩ (valP x) p, 0) else if how = hMax then (bestGo ⟨#[62]⟩ (valP x) p, 0) else if how = hSum then (totalGo (valP x) p', 0) else vDo ⟨#[47]⟩ [totalGo (valP x) p', vNum (1000 * (p.length : Int))]
def vReduce (how : ByteArray) (strict : Bool) (l : List Pt) : V × Int := if howOk how = true then (if 2000 < l.length then ((0, 0), 6) else if l.any badP = true then ((0, 0), 80) else vRed how.toList (keepP strict l)) else ((0, 0), 100)
/-- slices.Contains at a row of texts. -/
theorem strs_loop (l : List ByteArray) (hl : l.length < 4611686018427387904) (a : ByteArray) : ∀ (d i : Nat), i + d = l.length → Ev (fun k => B.slices_Index_string_string.l0 k l a (l.length : Int) (i : Int)) (if (l.drop i).any (fun x => decide (a.toList = x.toList)) = true then ((i + (l.drop i).findIdx (fun x => decide (a.toList = x.toList)) : Nat) : Int) else -1)
  | 0, i, h => by
    have e1 : l.drop i = [] := List.drop_of_length_le (by omega)
    rw [e1]
    refine Ev.step (f := fun _ => some (-1)) (fun k => ?_) (Ev.now _)
    simp only [B.slices_Index_string_string.l0]
    rw [if_neg (by omega)]
  | d + 1, i, h => by
    have hi : i < l.length := by omega
    have el : l.drop i = l[i] :: l.drop (i + 1) := List.drop_eq_getElem_cons hi
    have er : rdOf ByteArray.empty l (i : Int) = l[i] := by unfold rdOf; rw [Int.toNat_natCast, List.getD_eq_getElem?_getD, List.getElem?_eq_getElem hi]; rfl
    rw [el, List.any_cons, List.findIdx_cons]
    by_cases e : a.toList = l[i].toList
    · rw [decide_eq_true e, Bool.true_or, if_pos rfl]
      refine Ev.step (f := fun _ => some (i : Int)) (fun k => ?_) (Ev.now _)
      simp only [B.slices_Index_string_string.l0]
      rw [if_pos (by omega), if_pos (by omega), if_pos (by omega), er, if_pos e]
    · rw [decide_eq_false e, Bool.false_or]
      have ih := strs_loop l hl a d (i + 1) (by omega)
      refine Ev.step (f := fun k => B.slices_Index_string_string.l0 k l a (l.length : Int) ((i + 1 : Nat) : Int)) (fun k => ?_) ?_
      · simp only [B.slices_Index_string_string.l0]
        rw [if_pos (by omega), if_pos (by omega), if_pos (by omega), er, if_neg e, wrap_nat (by omega)]
      · have e2 : ((i + 1 + (l.drop (i + 1)).findIdx (fun x => decide (a.toList = x.toList)) : Nat) : Int) = ((i + ((l.drop (i + 1)).findIdx (fun x => decide (a.toList = x.toList)) + 1) : Nat) : Int) := by omega
        rw [e2] at ih
        exact ih
theorem strs_ev (l : List ByteArray) (hl : l.length < 4611686018427387904) (a : ByteArray) : Ev (fun k => B.slices_Contains_string_string.f k l a) (l.any fun x => decide (a.toList = x.toList)) := by
  have h := strs_loop l hl a l.length 0 (by omega)
  rw [List.drop_zero] at h
  unfold B.slices_Contains_string_string.f
  refine Ev.bind (f := fun k t => some (decide (t ≥ 0))) h ?_
  refine Ev.congr (f := fun _ => some (l.any fun x => decide (a.toList = x.toList))) (fun k => ?_) (Ev.now _)
  congr 1
  cases l.any fun x => decide (a.toList = x.toList) with
  | true => rw [if_pos rfl]; simp
  | false => rw [if_neg (by simp)]; rfl
theorem fresh_S (w : World) (xs : List ByteArray) (hx : xs.length ≤ 9223372036854775807) : Kd.C Kd.string (w.alloc (.cells (xs.map Value.string).toArray 9)) (some ⟨w.heap.size, 0, none⟩) xs.length xs := by
  have r := blk_new w (.cells (xs.map Value.string).toArray 9)
  refine ⟨rfl, hx, fun _ => ⟨_, rfl, fun j p hp => ⟨[.string p], rfl, rfl, fun i u hu => ?_⟩⟩⟩
  match i, hu with
  | 0, hu =>
    rw [Kd.string] at *
    rw [add_at, Nat.zero_add]
    have e := blk_cell r (j * 1 + 0)
    refine Eq.trans (Eq.trans ?_ e) ?_
    · rfl
    · rw [Nat.mul_one, Nat.add_zero]
      simp only [List.getElem?_toArray, List.getElem?_map, hp]
      simpa using hu
  | i + 1, hu => simp at hu
theorem howOk_calls (how : ByteArray) (w : World) : Calls Tryz.prog 30 #[.slice (some ⟨w.heap.size, 0, none⟩) 6 6, .string how] (w.alloc (.cells #[.string ⟨#[108, 97, 115, 116]⟩, .string ⟨#[109, 105, 110]⟩, .string ⟨#[109, 97, 120]⟩, .string ⟨#[115, 117, 109]⟩, .string ⟨#[109, 101, 97, 110]⟩, .string ⟨#[99, 111, 117, 110, 116]⟩] 9)) fun e w' => e = .returned (.bool (howOk how)) ∧ Below w.heap.size w w' := by
  obtain ⟨k, hk⟩ := (strs_ev hows (by decide) how).rounds
  refine (B.slices_Contains_string_string.calls k _ 6 hows how _ _ (fresh_S w hows (by decide)) (by decide) hk).mono fun e w' ⟨he, hw⟩ => ⟨he, ?_⟩
  obtain ⟨n, rfl⟩ := hw
  exact pbd (below1 w _) n
end Go.Proofs.YtcmiehddjgfjaaaGreat.A
