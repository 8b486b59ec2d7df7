/- A part of the proof of LawSeriesJoins: contracts and plain laws, put together by a program of this session. -/
import Derived.Test.YtcmiehddjgfjaaaGreatCJns2
import Derived.Maps.OwnOps
import Derived.Laws.EntriesVeiled
import Derived.Shelf.Abstract
import Derived.Outline
import Derived.Shelf.SlicesE.Index
import Derived.Carry
set_option linter.unusedVariables false
set_option linter.unusedSimpArgs false
set_option linter.unusedSectionVars false
set_option maxHeartbeats 8000000
set_option maxRecDepth 100000
namespace Go.Proofs.YtcmiehddjgfjaaaGreat.A
open Go.RowKit Go.Proofs.YtcmiehddjgfjaaaGreatW.PrintWords Go.Proofs.YtcmiehddjgfjaaaGreatW.PrintLast Go.Proofs.YtcmiehddjgfjaaaGreatW.PrintMore
attribute [local go_sem] max2_int min2_int max_two min_two max_three min_three max_four min_four   -- for this text's walks alone
def v_mul.j0 : Nat → Int → Bool → Int → Int → Int → Int → Option (Int × Int)
 | 0, _, _, _, _, _, _ => none
 | k + 1, x5, x22, x134000, x134001, x135000, x135001 => if x22 = true then ((v_infinite.f x5).bind fun bt140 => (some (bt140.1, bt140.2))) else ((v_sign.f x134000 x134001).bind fun t142 => ((v_sign.f x135000 x135001).bind fun t143 => ((bits_Mul64.f (IntKind.u64.wrap (wrap64 (x134001 * t142))) (IntKind.u64.wrap (wrap64 (x135001 * t143)))).bind fun bt144 => (if bt144.1 ≥ 1000 then ((v_infinite.f x5).bind fun bt146 => (some (bt146.1, bt146.2))) else ((bits_Div64.f bt144.1 bt144.2 1000).bind fun bt148 => (if bt148.1 > 1000000000000000 then ((v_infinite.f x5).bind fun bt150 => (some (bt150.1, bt150.2))) else ((v_Num.f (wrap64 (x5 * (wrap64 (bt148.1))))).bind fun bt152 => (some (bt152.1, bt152.2)))))))))
def v_mul.f (k : Nat) (a0_0 : Int) (a0_1 : Int) (a1_0 : Int) (a1_1 : Int) : Option (Int × Int) := (v_sign.f a0_0 a0_1).bind fun t136 => ((v_sign.f a1_0 a1_1).bind fun t137 => ((v_finite.f a0_0 a0_1).bind fun t138 => (if t138 = true then ((v_finite.f a1_0 a1_1).bind fun t139 => (v_mul.j0 k (wrap64 (t136 * t137)) (!t139) a0_0 a0_1 a1_0 a1_1)) else (v_mul.j0 k (wrap64 (t136 * t137)) true a0_0 a0_1 a1_0 a1_1))))
def v_mul.T4 : Bool × List (List Nat × List Nat) := (true, [([], []), ([0], [0]), ([], []), ([2], [2]), ([1, 3], [1, 3]), ([4], [4]), ([], []), ([6], [6]), ([], []), ([8, 3], [8]), ([7, 9], [7, 9]), ([10], [10]), ([5, 11, 9], [5, 11]), ([12], [12]), ([13], [13]), ([13], [13]), ([14, 12, 0, 1, 2, 3, 4, 5, 6, 7, 8, 9, 10, 11, 12, 13, 14], [14]), ([15, 16, 0, 1, 2, 3, 4, 5, 6, 7, 8, 9, 10, 11, 12, 13, 14, 15, 16], [15])])
def v_mul.B4 : List Nat := [0, 1, 0, 4, 15, 31, 0, 64, 0, 268, 972, 1996, 4095, 8191, 16383, 16383, 32767, 131071]
theorem v_mul.tab4 : rtab .any (opsOf Tryz.f131 4) = v_mul.T4 := by kernel_rfl
theorem v_mul.bits4 : waitsOk v_mul.T4.2 v_mul.B4 = true := by kernel_rfl
theorem v_mul.calls (k : Nat) (a0_0 : Int) (a0_1 : Int) (a1_0 : Int) (a1_1 : Int) (r1 : Int) (r2 : Int) (w : World) (h : v_mul.f k a0_0 a0_1 a1_0 a1_1 = some (r1, r2)) :
  Calls Tryz.prog 131 #[.agg #[.int .i64 a0_0, .int .i64 a0_1], .agg #[.int .i64 a1_0, .int .i64 a1_1]] w fun e w' => e = .returned (.agg #[.int .i64 r1, .int .i64 r2]) ∧ Below w.heap.size w w' := by
 have hu25 := Tryz.underlying25
 have HB := zsB w
 have H : ((v_sign.f a0_0 a0_1).bind fun t136 => ((v_sign.f a1_0 a1_1).bind fun t137 => ((v_finite.f a0_0 a0_1).bind fun t138 => (if t138 = true then ((v_finite.f a1_0 a1_1).bind fun t139 => (v_mul.j0 k (wrap64 (t136 * t137)) (!t139) a0_0 a0_1 a1_0 a1_1)) else (v_mul.j0 k (wrap64 (t136 * t137)) true a0_0 a0_1 a1_0 a1_1))))) = some (r1, r2) := h
 clear h
 obtain ⟨t136, A3, H⟩ := bnd H
 obtain ⟨t137, A4, H⟩ := bnd H
 have HC5 := Sd.mk H
 clear H
 go_enter Tryz.func131, Tryz.ntmps131
 try go_wp2_with (first | ((with_reducible refine gate_dst (N := 2) rfl ?_); refine bxe (N := 2) (cs := #[.int .i64 a0_0, .int .i64 a0_1]) (t := 25) ?_; intro gb133 hg w6 hbox hb; have BK133 := Sd.mk hbox; have GW133 := bge w hg; replace HB := bsq w hb; clear hb hbox hg) | ((with_reducible refine gate_dst (N := 3) rfl ?_); refine bxe (N := 3) (cs := #[.int .i64 a1_0, .int .i64 a1_1]) (t := 25) ?_; intro gb134 hg w7 hbox hb; have BK134 := Sd.mk hbox; have GW134 := bge w hg; have NB133_134 := bnl BK133 hg; have NB134_133 := bng BK133 hg; replace BK133 := bkb BK133 hb; replace HB := bsq w hb; clear hb hbox hg) | ((with_reducible refine gate_dst (N := 4) rfl ?_); refine bxe (N := 4) (cs := #[.int .i64 0, .int .i64 0]) (t := 25) ?_; intro gb135 hg w8 hbox hb; have BK135 := Sd.mk hbox; have GW135 := bge w hg; have NB133_135 := bnl BK133 hg; have NB135_133 := bng BK133 hg; have NB134_135 := bnl BK134 hg; have NB135_134 := bng BK134 hg; replace BK133 := bkb BK133 hb; replace BK134 := bkb BK134 hb; replace HB := bsq w hb; clear hb hbox hg))
 replace BK133 := Sd.mk (blk_drew BK133.out)
 replace BK134 := Sd.mk (blk_drew BK134.out)
 replace BK135 := Sd.mk (blk_drew BK135.out)
 replace HB := Sd.mk (bd1 HB.out)
 refine start_ (n := 6) (S := fun w' => w'.cell? ⟨gb133, 0, none⟩ = some (.int .i64 a0_0) ∧ w'.cell? ⟨gb133, 1, none⟩ = some (.int .i64 a0_1) ∧ w'.cell? ⟨gb134, 0, none⟩ = some (.int .i64 a1_0) ∧ w'.cell? ⟨gb134, 1, none⟩ = some (.int .i64 a1_1)) (ds := []) #[false, false, false, false, false, false] (by kernel_rfl) rfl rfl ⟨(blk_cell BK133.out 0).trans rfl, (blk_cell BK133.out 1).trans rfl, (blk_cell BK134.out 0).trans rfl, (blk_cell BK134.out 1).trans rfl⟩ (fun hHeld => ?_)
 generalize w8.drew = w9 at BK133 BK134 BK135 HB hHeld ⊢
 refine take_ (i := 0) (N := some 10) (v := ?_) (a' := ?_) #[true, false, false, false, false, false] rfl rfl (by kernel_rfl) (fun _ _ _ h => h) (Or.inl ⟨by rfl, ?_⟩) hHeld ?_ ?_
 rotate_left
 ·rintro w' ⟨s0, s1, s2, s3⟩
  go_simp
  with_reducible rfl
 rotate_left
 ·simp only [zpz]
  rfl
 refine take_ (i := 2) (N := some 12) (v := ?_) (a' := ?_) #[true, false, true, false, false, false] rfl rfl (by kernel_rfl) (fun _ _ _ h => h) (Or.inl ⟨by rfl, ?_⟩) hHeld ?_ ?_
 rotate_left
 ·rintro w' ⟨s0, s1, s2, s3⟩
  go_simp
  with_reducible rfl
 rotate_left
 ·simp only [zpz]
  rfl
 refine one_ (i := 1) (N := some 11) #[true, true, true, false, false, false] rfl rfl (by kernel_rfl) (by decide) (fun K hK => ?_)
 refine goes_ Tryz.func161 (by kernel_rfl) rfl #[.agg #[.int .i64 a0_0, .int .i64 a0_1]] (by rfl) rfl rfl ma ?_
 with_reducible refine (v_sign.calls a0_0 a0_1 t136 _ A3.out).mono ?_
 rintro e w10 ⟨rfl, hb⟩
 refine ⟨_, rfl, ?_⟩
 replace BK133 := bkb BK133 hb
 replace BK134 := bkb BK134 hb
 replace BK135 := bkb BK135 hb
 replace HB := bsq w hb
 (try clear hb)
 refine hK.out _ _ ⟨(blk_cell BK133.out 0).trans rfl, (blk_cell BK133.out 1).trans rfl, (blk_cell BK134.out 0).trans rfl, (blk_cell BK134.out 1).trans rfl⟩ (fun hHeld => ?_)
 clear hK K
 refine norm_ (a' := ?_) ?_ ?_
 rotate_left
 ·show Act.put _ (some 11) _ = _
  simp only [zpz]
  rfl
 refine one_ (i := 3) (N := some 13) #[true, true, true, true, false, false] rfl rfl (by kernel_rfl) (by decide) (fun K hK => ?_)
 refine goes_ Tryz.func161 (by kernel_rfl) rfl #[.agg #[.int .i64 a1_0, .int .i64 a1_1]] (by rfl) rfl rfl ma ?_
 with_reducible refine (v_sign.calls a1_0 a1_1 t137 _ A4.out).mono ?_
 rintro e w11 ⟨rfl, hb⟩
 refine ⟨_, rfl, ?_⟩
 replace BK133 := bkb BK133 hb
 replace BK134 := bkb BK134 hb
 replace BK135 := bkb BK135 hb
 replace HB := bsq w hb
 (try clear hb)
 refine hK.out _ _ ⟨(blk_cell BK133.out 0).trans rfl, (blk_cell BK133.out 1).trans rfl, (blk_cell BK134.out 0).trans rfl, (blk_cell BK134.out 1).trans rfl⟩ (fun hHeld => ?_)
 clear hK K
 refine norm_ (a' := ?_) ?_ ?_
 rotate_left
 ·show Act.put _ (some 13) _ = _
  simp only [zpz]
  rfl
 refine pure_ (i := 4) (N := some 14) (v := ?_) (a' := ?_) #[true, true, true, true, true, false] rfl rfl (by kernel_rfl) (fun _ _ _ h => h) (Or.inl ⟨by rfl, ?_⟩) ?_ ?_
 rotate_left
 ·intro w'
  go_simp
  with_reducible rfl
 rotate_left
 ·simp only [zpz]
  rfl
 refine pure_ (i := 5) (N := some 5) (v := ?_) (a' := ?_) #[true, true, true, true, true, true] rfl rfl (by kernel_rfl) (fun _ _ _ h => h) (Or.inl ⟨by rfl, ?_⟩) ?_ ?_
 rotate_left
 ·intro w'
  go_simp
  with_reducible rfl
 rotate_left
 ·simp only [zpz]
  rfl
 refine done_ (by kernel_rfl) ?_
 go_upto_region 2 with (fail)
 go_cut [22] (fun v22 wc => ∃ (kq : Nat) (x22_4 : Bool), v22 = .bool x22_4 ∧ Sd (v_mul.j0 kq (wrap64 (t136 * t137)) x22_4 a0_0 a0_1 a1_0 a1_1 = some (r1, r2)) ∧ Sd (kq ≤ k) ∧ Sd (wc.heap[gb133]? = some (.cells #[.int .i64 a0_0, .int .i64 a0_1] 25 (0, 0))) ∧ Sd (wc.heap[gb134]? = some (.cells #[.int .i64 a1_0, .int .i64 a1_1] 25 (0, 0))) ∧ Sd (wc.heap[gb135]? = some (.cells #[.int .i64 0, .int .i64 0] 25 (0, 0))) ∧ Sd (Below w.heap.size w wc))
 case first =>
  have H := HC5.out
  clear HC5
  obtain ⟨t138, A12, H⟩ := bnd H
  by_cases c13 : t138 = true
  ·subst c13
   replace H := iT H
   obtain ⟨t139, A14, H⟩ := bnd H
   have H' := Sd.mk H
   clear H
   have := NB133_134.out
   have := NB134_133.out
   have := NB133_135.out
   have := NB135_133.out
   obtain ⟨_, _, _, _⟩ := bz BK133
   go_wp2_with (first | ((with_reducible refine gate_callee (f := 122) rfl ?_); refine goesL_ (some 16) rfl rfl Tryz.func122 (by kernel_rfl) rfl #[.agg #[.int .i64 a0_0, .int .i64 a0_1]] rfl ma ?_; (with_reducible refine (v_finite.calls a0_0 a0_1 true _ A12.out).mono ?_); rintro e w18 ⟨rfl, hb⟩; refine ⟨_, rfl, ?_⟩; replace BK133 := bkb BK133 hb; replace BK134 := bkb BK134 hb; replace BK135 := bkb BK135 hb; replace HB := bsq w hb; (try clear hb); have hnb19 := NB134_135.out; have hnc19 := NB135_134.out; have hcz20_0 := bz0 BK134; have hcz20_1 := bz1 BK134; have hfz20_0 := blk_frozen BK134.out 0; have hfz20_1 := blk_frozen BK134.out 1) | (go_at_call 122; (with_reducible refine (v_finite.calls a1_0 a1_1 t139 _ A14.out).mono ?_); rintro e w21 ⟨rfl, hb⟩; replace BK133 := bkb BK133 hb; replace BK134 := bkb BK134 hb; replace BK135 := bkb BK135 hb; replace HB := bsq w hb; (try clear hb)))
   go_meet
   case rel => exact ⟨_, (!t139), ae, H', ⟨by first | omega | exact Nat.le_refl _⟩, fwK BK133, fwK BK134, fwK BK135, ⟨bbl⟩⟩
  ·replace c13 := znf c13
   subst c13
   replace H := iF H
   have H' := Sd.mk H
   clear H
   have := NB133_134.out
   have := NB134_133.out
   have := NB133_135.out
   have := NB135_133.out
   obtain ⟨_, _, _, _⟩ := bz BK133
   go_wp2_with (first | ((with_reducible refine gate_callee (f := 122) rfl ?_); refine goesL_ (some 16) rfl rfl Tryz.func122 (by kernel_rfl) rfl #[.agg #[.int .i64 a0_0, .int .i64 a0_1]] rfl ma ?_; (with_reducible refine (v_finite.calls a0_0 a0_1 false _ A12.out).mono ?_); rintro e w25 ⟨rfl, hb⟩; refine ⟨_, rfl, ?_⟩; replace BK133 := bkb BK133 hb; replace BK134 := bkb BK134 hb; replace BK135 := bkb BK135 hb; replace HB := bsq w hb; (try clear hb)))
   go_meet
   case rel => exact ⟨_, (true), ae, H', ⟨by first | omega | exact Nat.le_refl _⟩, fwK BK133, fwK BK134, fwK BK135, ⟨bbl⟩⟩
 case rest =>
  clear HC5
  obtain ⟨kq, x22_4, rfl, HA, HJ4, BK133, BK134, BK135, HB⟩ := hcut
  cases kq with
  | zero => exact absurd HA.out (by simp [v_mul.j0])
  | succ kj4 =>
   have H := HA.out
   clear HA
   simp only [v_mul.j0] at H
   by_cases c26 : x22_4 = true
   ·subst c26
    replace H := iT H
    obtain ⟨⟨t140, t141⟩, A27, H⟩ := bnd H
    replace H : (some (t140, t141)) = some (r1, r2) := H
    obtain ⟨rfl, rfl⟩ := zs2 H
    go_wp2_with (first | ((with_reducible refine gate_callee (f := 162) rfl ?_); refine goesL_ (some 24) rfl rfl Tryz.func162 (by kernel_rfl) rfl #[.int .i64 (wrap64 (t136 * t137))] rfl ma ?_; (with_reducible refine (v_infinite.calls (wrap64 (t136 * t137)) t140 t141 _ A27.out).mono ?_); rintro e w28 ⟨rfl, hb⟩; refine ⟨_, rfl, ?_⟩; replace BK133 := bkb BK133 hb; replace BK134 := bkb BK134 hb; replace BK135 := bkb BK135 hb; replace HB := bsq w hb; (try clear hb); have hnb29 := NB135_133.out; have hnc29 := NB133_135.out; have hnb30 := NB135_134.out; have hnc30 := NB134_135.out; have hcz31_0 := bz0 BK135; have hcz31_1 := bz1 BK135; have hfz31_0 := blk_frozen BK135.out 0; have hfz31_1 := blk_frozen BK135.out 1))
    refine bodyPost_ret (results_cell_row rfl _ _ gb135 25 #[.int .i64 t140, .int .i64 t141] (0, 0) _ rfl (by (repeat refine dw ?_); refine blk_put (cs := #[.int .i64 t140, .int .i64 0]) ?_ 1 _ rfl; (repeat refine dw ?_); refine blk_put (cs := #[.int .i64 0, .int .i64 0]) ?_ 0 _ rfl; (repeat refine dw ?_); exact BK135.out) Tryz.underlying25 rfl (by kernel_rfl)) rfl ?_
    exact ⟨fe, bbl⟩
   ·replace c26 := znf c26
    subst c26
    replace H := iF H
    obtain ⟨t142, A32, H⟩ := bnd H
    obtain ⟨t143, A33, H⟩ := bnd H
    obtain ⟨⟨t144, t145⟩, A34, H⟩ := bnd H
    replace H : (if t144 ≥ 1000 then ((v_infinite.f (wrap64 (t136 * t137))).bind fun bt146 => (some (bt146.1, bt146.2))) else ((bits_Div64.f t144 t145 1000).bind fun bt148 => (if bt148.1 > 1000000000000000 then ((v_infinite.f (wrap64 (t136 * t137))).bind fun bt150 => (some (bt150.1, bt150.2))) else ((v_Num.f (wrap64 ((wrap64 (t136 * t137)) * (wrap64 (bt148.1))))).bind fun bt152 => (some (bt152.1, bt152.2)))))) = some (r1, r2) := H
    by_cases c35 : t144 ≥ 1000
    ·rw [if_pos c35] at H
     have c35b0 : decide (1000 ≤ t144) = true := decide_eq_true c35
     clear c35
     obtain ⟨⟨t146, t147⟩, A36, H⟩ := bnd H
     replace H : (some (t146, t147)) = some (r1, r2) := H
     obtain ⟨rfl, rfl⟩ := zs2 H
     try go_wp2
     replace BK133 := Sd.mk (blk_drew BK133.out)
     replace BK134 := Sd.mk (blk_drew BK134.out)
     replace BK135 := Sd.mk (blk_drew BK135.out)
     replace HB := Sd.mk (bd1 HB.out)
     refine start_ (n := 18) (S := fun w' => w'.cell? ⟨gb133, 0, none⟩ = some (.int .i64 a0_0) ∧ w'.cell? ⟨gb133, 1, none⟩ = some (.int .i64 a0_1) ∧ w'.cell? ⟨gb134, 0, none⟩ = some (.int .i64 a1_0) ∧ w'.cell? ⟨gb134, 1, none⟩ = some (.int .i64 a1_1)) (ds := []) #[false, false, false, false, false, false, false, false, false, false, false, false, false, false, false, false, false, false] (by kernel_rfl) rfl rfl ⟨(blk_cell BK133.out 0).trans rfl, (blk_cell BK133.out 1).trans rfl, (blk_cell BK134.out 0).trans rfl, (blk_cell BK134.out 1).trans rfl⟩ (fun hHeld => ?_); refine with_tabW v_mul.tab4 v_mul.bits4 (fun HT_ HW_ => ?_)
     generalize wc.drew = w37 at BK133 BK134 BK135 HB hHeld ⊢
     refine pure_ (i := 0) (N := some 26) (v := ?_) (a' := ?_) #[true, false, false, false, false, false, false, false, false, false, false, false, false, false, false, false, false, false] rfl rfl (any_of HT_.out (by kernel_rfl)) (fun _ _ _ h => h) (Or.inl ⟨by rfl, ?_⟩) ?_ ?_
     rotate_left
     ·intro w'
      go_simp
      with_reducible rfl
     rotate_left
     ·simp only [zpz]
      rfl
     refine pure_ (i := 6) (N := some 32) (v := ?_) (a' := ?_) #[true, false, false, false, false, false, true, false, false, false, false, false, false, false, false, false, false, false] rfl rfl (any_of HT_.out (by kernel_rfl)) (fun _ _ _ h => h) (Or.inl ⟨by rfl, ?_⟩) ?_ ?_
     rotate_left
     ·intro w'
      go_simp
      with_reducible rfl
     rotate_left
     ·simp only [zpz]
      rfl
     refine take_ (i := 1) (N := some 27) (v := ?_) (a' := ?_) #[true, true, false, false, false, false, true, false, false, false, false, false, false, false, false, false, false, false] rfl rfl (take_ofW HT_.out HW_.out (by kernel_rfl)) (fun _ _ _ h => h) (Or.inl ⟨by rfl, ?_⟩) hHeld ?_ ?_
     rotate_left
     ·rintro w' ⟨s0, s1, s2, s3⟩
      go_simp
      with_reducible rfl
     rotate_left
     ·simp only [zpz]
      rfl
     refine take_ (i := 2) (N := some 28) (v := ?_) (a' := ?_) #[true, true, true, false, false, false, true, false, false, false, false, false, false, false, false, false, false, false] rfl rfl (take_ofW HT_.out HW_.out (by kernel_rfl)) (fun _ _ _ h => h) (Or.inl ⟨by rfl, ?_⟩) hHeld ?_ ?_
     rotate_left
     ·rintro w' ⟨s0, s1, s2, s3⟩
      go_simp
      with_reducible rfl
     rotate_left
     ·simp only [zpz]
      rfl
     refine take_ (i := 7) (N := some 33) (v := ?_) (a' := ?_) #[true, true, true, false, false, false, true, true, false, false, false, false, false, false, false, false, false, false] rfl rfl (take_ofW HT_.out HW_.out (by kernel_rfl)) (fun _ _ _ h => h) (Or.inl ⟨by rfl, ?_⟩) hHeld ?_ ?_
     rotate_left
     ·rintro w' ⟨s0, s1, s2, s3⟩
      go_simp
      with_reducible rfl
     rotate_left
     ·simp only [zpz]
      rfl
     refine take_ (i := 8) (N := some 34) (v := ?_) (a' := ?_) #[true, true, true, false, false, false, true, true, true, false, false, false, false, false, false, false, false, false] rfl rfl (take_ofW HT_.out HW_.out (by kernel_rfl)) (fun _ _ _ h => h) (Or.inl ⟨by rfl, ?_⟩) hHeld ?_ ?_
     rotate_left
     ·rintro w' ⟨s0, s1, s2, s3⟩
      go_simp
      with_reducible rfl
     rotate_left
     ·simp only [zpz]
      rfl
     refine one_ (i := 3) (N := some 29) #[true, true, true, true, false, false, true, true, true, false, false, false, false, false, false, false, false, false] rfl rfl (one_of HT_.out (by kernel_rfl)) (by decide) (fun K hK => ?_)
     refine goes_ Tryz.func161 (by kernel_rfl) rfl #[.agg #[.int .i64 a0_0, .int .i64 a0_1]] (by rfl) rfl rfl ma ?_
     with_reducible refine (v_sign.calls a0_0 a0_1 t142 _ A32.out).mono ?_
     rintro e w38 ⟨rfl, hb⟩
     refine ⟨_, rfl, ?_⟩
     replace BK133 := bkb BK133 hb
     replace BK134 := bkb BK134 hb
     replace BK135 := bkb BK135 hb
     replace HB := bsq w hb
     (try clear hb)
     refine hK.out _ _ ⟨(blk_cell BK133.out 0).trans rfl, (blk_cell BK133.out 1).trans rfl, (blk_cell BK134.out 0).trans rfl, (blk_cell BK134.out 1).trans rfl⟩ (fun hHeld => ?_)
     clear hK K
     refine norm_ (a' := ?_) ?_ ?_
     rotate_left
     ·show Act.put _ (some 29) _ = _
      simp only [zpz]
      rfl
     refine pure_ (i := 4) (N := some 30) (v := ?_) (a' := ?_) #[true, true, true, true, true, false, true, true, true, false, false, false, false, false, false, false, false, false] rfl rfl (any_of HT_.out (by kernel_rfl)) (fun _ _ _ h => h) (Or.inl ⟨by rfl, ?_⟩) ?_ ?_
     rotate_left
     ·intro w'
      go_simp
      with_reducible rfl
     rotate_left
     ·simp only [zpz]
      rfl
     refine pure_ (i := 5) (N := some 31) (v := ?_) (a' := ?_) #[true, true, true, true, true, true, true, true, true, false, false, false, false, false, false, false, false, false] rfl rfl (any_of HT_.out (by kernel_rfl)) (fun _ _ _ h => h) (Or.inl ⟨by rfl, ?_⟩) ?_ ?_
     rotate_left
     ·intro w'
      go_simp
      with_reducible rfl
     rotate_left
     ·simp only [zpz]
      rfl
     refine one_ (i := 9) (N := some 35) #[true, true, true, true, true, true, true, true, true, true, false, false, false, false, false, false, false, false] rfl rfl (one_of HT_.out (by kernel_rfl)) (by decide) (fun K hK => ?_)
     refine goes_ Tryz.func161 (by kernel_rfl) rfl #[.agg #[.int .i64 a1_0, .int .i64 a1_1]] (by rfl) rfl rfl ma ?_
     with_reducible refine (v_sign.calls a1_0 a1_1 t143 _ A33.out).mono ?_
     rintro e w39 ⟨rfl, hb⟩
     refine ⟨_, rfl, ?_⟩
     replace BK133 := bkb BK133 hb
     replace BK134 := bkb BK134 hb
     replace BK135 := bkb BK135 hb
     replace HB := bsq w hb
     (try clear hb)
     refine hK.out _ _ ⟨(blk_cell BK133.out 0).trans rfl, (blk_cell BK133.out 1).trans rfl, (blk_cell BK134.out 0).trans rfl, (blk_cell BK134.out 1).trans rfl⟩ (fun hHeld => ?_)
     clear hK K
     refine norm_ (a' := ?_) ?_ ?_
     rotate_left
     ·show Act.put _ (some 35) _ = _
      simp only [zpz]
      rfl
     refine pure_ (i := 10) (N := some 36) (v := ?_) (a' := ?_) #[true, true, true, true, true, true, true, true, true, true, true, false, false, false, false, false, false, false] rfl rfl (any_of HT_.out (by kernel_rfl)) (fun _ _ _ h => h) (Or.inl ⟨by rfl, ?_⟩) ?_ ?_
     rotate_left
     ·intro w'
      go_simp
      with_reducible rfl
     rotate_left
     ·simp only [zpz]
      rfl
     refine pure_ (i := 11) (N := some 37) (v := ?_) (a' := ?_) #[true, true, true, true, true, true, true, true, true, true, true, true, false, false, false, false, false, false] rfl rfl (any_of HT_.out (by kernel_rfl)) (fun _ _ _ h => h) (Or.inl ⟨by rfl, ?_⟩) ?_ ?_
     rotate_left
     ·intro w'
      go_simp
      with_reducible rfl
     rotate_left
     ·simp only [zpz]
      rfl
     refine one_ (i := 12) (N := some 38) #[true, true, true, true, true, true, true, true, true, true, true, true, true, false, false, false, false, false] rfl rfl (one_of HT_.out (by kernel_rfl)) (by decide) (fun K hK => ?_)
     refine goes_ Tryz.func163 (by kernel_rfl) rfl #[.int .u64 (IntKind.u64.wrap (wrap64 (a0_1 * t142))), .int .u64 (IntKind.u64.wrap (wrap64 (a1_1 * t143)))] (by rfl) rfl rfl ma ?_
     with_reducible refine (bits_Mul64.calls (IntKind.u64.wrap (wrap64 (a0_1 * t142))) (IntKind.u64.wrap (wrap64 (a1_1 * t143))) t144 t145 _ A34.out).mono ?_
     rintro e w' ⟨rfl, ⟨nd, rfl⟩⟩
     refine ⟨_, rfl, ?_⟩
     refine hK.out _ _ ⟨(blk_cell BK133.out 0).trans rfl, (blk_cell BK133.out 1).trans rfl, (blk_cell BK134.out 0).trans rfl, (blk_cell BK134.out 1).trans rfl⟩ (fun hHeld => ?_)
     clear hK K
     refine norm_ (a' := ?_) ?_ ?_
     rotate_left
     ·show Act.put _ (some 38) _ = _
      simp only [zpz]
      rfl
     refine pure_ (i := 13) (N := some 25) (v := ?_) (a' := ?_) #[true, true, true, true, true, true, true, true, true, true, true, true, true, true, false, false, false, false] rfl rfl (any_of HT_.out (by kernel_rfl)) (fun _ _ _ h => h) (Or.inl ⟨by rfl, ?_⟩) ?_ ?_
     rotate_left
     ·intro w'
      go_simp
      with_reducible rfl
     rotate_left
     ·simp only [zpz]
      rfl
     refine pure_ (i := 14) (N := some 39) (v := ?_) (a' := ?_) #[true, true, true, true, true, true, true, true, true, true, true, true, true, true, true, false, false, false] rfl rfl (any_of HT_.out (by kernel_rfl)) (fun _ _ _ h => h) (Or.inl ⟨by rfl, ?_⟩) ?_ ?_
     rotate_left
     ·intro w'
      go_simp
      with_reducible rfl
     rotate_left
     ·simp only [zpz]
      rfl
     refine pure_ (i := 15) (N := some 40) (v := ?_) (a' := ?_) #[true, true, true, true, true, true, true, true, true, true, true, true, true, true, true, true, false, false] rfl rfl (any_of HT_.out (by kernel_rfl)) (fun _ _ _ h => h) (Or.inl ⟨by rfl, ?_⟩) ?_ ?_
     rotate_left
     ·intro w'
      go_simp
      with_reducible rfl
     rotate_left
     ·simp only [zpz]
      rfl
     refine pure_ (i := 16) (N := some 6) (v := ?_) (a' := ?_) #[true, true, true, true, true, true, true, true, true, true, true, true, true, true, true, true, true, false] rfl rfl (any_of HT_.out (by kernel_rfl)) (fun _ _ _ h => h) (Or.inl ⟨by rfl, ?_⟩) ?_ ?_
     rotate_left
     ·intro w'
      go_simp
      with_reducible rfl
     rotate_left
     ·simp only [zpz]
      rfl
     refine pure_ (i := 17) (N := some 7) (v := ?_) (a' := ?_) #[true, true, true, true, true, true, true, true, true, true, true, true, true, true, true, true, true, true] rfl rfl (any_of HT_.out (by kernel_rfl)) (fun _ _ _ h => h) (Or.inl ⟨by rfl, ?_⟩) ?_ ?_
     rotate_left
     ·intro w'
      go_simp
      with_reducible rfl
     rotate_left
     ·simp only [zpz]
      rfl
     refine done_ (done_of HT_.out (by kernel_rfl)) ?_
     try go_wp2_with (first | ((with_reducible refine gate_callee (f := 162) rfl ?_); refine goesL_ (some 44) rfl rfl Tryz.func162 (by kernel_rfl) rfl #[.int .i64 (wrap64 (t136 * t137))] rfl ma ?_; (with_reducible refine (v_infinite.calls (wrap64 (t136 * t137)) t146 t147 _ A36.out).mono ?_); rintro e w40 ⟨rfl, hb⟩; refine ⟨_, rfl, ?_⟩; replace BK133 := bkb BK133 hb; replace BK134 := bkb BK134 hb; replace BK135 := bkb BK135 hb; replace HB := bsq w hb; (try clear hb); have hnb41 := NB135_133.out; have hnc41 := NB133_135.out; have hnb42 := NB135_134.out; have hnc42 := NB134_135.out; have hcz43_0 := bz0 BK135; have hcz43_1 := bz1 BK135; have hfz43_0 := blk_frozen BK135.out 0; have hfz43_1 := blk_frozen BK135.out 1))
     refine bodyPost_ret (results_cell_row rfl _ _ gb135 25 #[.int .i64 t146, .int .i64 t147] (0, 0) _ rfl (by (repeat refine dw ?_); refine blk_put (cs := #[.int .i64 t146, .int .i64 0]) ?_ 1 _ rfl; (repeat refine dw ?_); refine blk_put (cs := #[.int .i64 0, .int .i64 0]) ?_ 0 _ rfl; (repeat refine dw ?_); exact BK135.out) Tryz.underlying25 rfl (by kernel_rfl)) rfl ?_
     exact ⟨fe, bbl⟩
    ·rw [if_neg c35] at H
     have c35b0 : decide (1000 ≤ t144) = false := decide_eq_false c35
     clear c35
     obtain ⟨⟨t148, t149⟩, A44, H⟩ := bnd H
     replace H : (if t148 > 1000000000000000 then ((v_infinite.f (wrap64 (t136 * t137))).bind fun bt150 => (some (bt150.1, bt150.2))) else ((v_Num.f (wrap64 ((wrap64 (t136 * t137)) * (wrap64 (t148))))).bind fun bt152 => (some (bt152.1, bt152.2)))) = some (r1, r2) := H
     by_cases c45 : t148 > 1000000000000000
     ·rw [if_pos c45] at H
      have c45b0 : decide (1000000000000000 < t148) = true := decide_eq_true c45
      clear c45
      obtain ⟨⟨t150, t151⟩, A46, H⟩ := bnd H
      replace H : (some (t150, t151)) = some (r1, r2) := H
      obtain ⟨rfl, rfl⟩ := zs2 H
      try go_wp2
      replace BK133 := Sd.mk (blk_drew BK133.out)
      replace BK134 := Sd.mk (blk_drew BK134.out)
      replace BK135 := Sd.mk (blk_drew BK135.out)
      replace HB := Sd.mk (bd1 HB.out)
      refine start_ (n := 18) (S := fun w' => w'.cell? ⟨gb133, 0, none⟩ = some (.int .i64 a0_0) ∧ w'.cell? ⟨gb133, 1, none⟩ = some (.int .i64 a0_1) ∧ w'.cell? ⟨gb134, 0, none⟩ = some (.int .i64 a1_0) ∧ w'.cell? ⟨gb134, 1, none⟩ = some (.int .i64 a1_1)) (ds := []) #[false, false, false, false, false, false, false, false, false, false, false, false, false, false, false, false, false, false] (by kernel_rfl) rfl rfl ⟨(blk_cell BK133.out 0).trans rfl, (blk_cell BK133.out 1).trans rfl, (blk_cell BK134.out 0).trans rfl, (blk_cell BK134.out 1).trans rfl⟩ (fun hHeld => ?_); refine with_tabW v_mul.tab4 v_mul.bits4 (fun HT_ HW_ => ?_)
      generalize wc.drew = w47 at BK133 BK134 BK135 HB hHeld ⊢
      refine pure_ (i := 0) (N := some 26) (v := ?_) (a' := ?_) #[true, false, false, false, false, false, false, false, false, false, false, false, false, false, false, false, false, false] rfl rfl (any_of HT_.out (by kernel_rfl)) (fun _ _ _ h => h) (Or.inl ⟨by rfl, ?_⟩) ?_ ?_
      rotate_left
      ·intro w'
       go_simp
       with_reducible rfl
      rotate_left
      ·simp only [zpz]
       rfl
      refine pure_ (i := 6) (N := some 32) (v := ?_) (a' := ?_) #[true, false, false, false, false, false, true, false, false, false, false, false, false, false, false, false, false, false] rfl rfl (any_of HT_.out (by kernel_rfl)) (fun _ _ _ h => h) (Or.inl ⟨by rfl, ?_⟩) ?_ ?_
      rotate_left
      ·intro w'
       go_simp
       with_reducible rfl
      rotate_left
      ·simp only [zpz]
       rfl
      refine take_ (i := 1) (N := some 27) (v := ?_) (a' := ?_) #[true, true, false, false, false, false, true, false, false, false, false, false, false, false, false, false, false, false] rfl rfl (take_ofW HT_.out HW_.out (by kernel_rfl)) (fun _ _ _ h => h) (Or.inl ⟨by rfl, ?_⟩) hHeld ?_ ?_
      rotate_left
      ·rintro w' ⟨s0, s1, s2, s3⟩
       go_simp
       with_reducible rfl
      rotate_left
      ·simp only [zpz]
       rfl
      refine take_ (i := 2) (N := some 28) (v := ?_) (a' := ?_) #[true, true, true, false, false, false, true, false, false, false, false, false, false, false, false, false, false, false] rfl rfl (take_ofW HT_.out HW_.out (by kernel_rfl)) (fun _ _ _ h => h) (Or.inl ⟨by rfl, ?_⟩) hHeld ?_ ?_
      rotate_left
      ·rintro w' ⟨s0, s1, s2, s3⟩
       go_simp
       with_reducible rfl
      rotate_left
      ·simp only [zpz]
       rfl
      refine take_ (i := 7) (N := some 33) (v := ?_) (a' := ?_) #[true, true, true, false, false, false, true, true, false, false, false, false, false, false, false, false, false, false] rfl rfl (take_ofW HT_.out HW_.out (by kernel_rfl)) (fun _ _ _ h => h) (Or.inl ⟨by rfl, ?_⟩) hHeld ?_ ?_
      rotate_left
      ·rintro w' ⟨s0, s1, s2, s3⟩
       go_simp
       with_reducible rfl
      rotate_left
      ·simp only [zpz]
       rfl
      refine take_ (i := 8) (N := some 34) (v := ?_) (a' := ?_) #[true, true, true, false, false, false, true, true, true, false, false, false, false, false, false, false, false, false] rfl rfl (take_ofW HT_.out HW_.out (by kernel_rfl)) (fun _ _ _ h => h) (Or.inl ⟨by rfl, ?_⟩) hHeld ?_ ?_
      rotate_left
      ·rintro w' ⟨s0, s1, s2, s3⟩
       go_simp
       with_reducible rfl
      rotate_left
      ·simp only [zpz]
       rfl
      refine one_ (i := 3) (N := some 29) #[true, true, true, true, false, false, true, true, true, false, false, false, false, false, false, false, false, false] rfl rfl (one_of HT_.out (by kernel_rfl)) (by decide) (fun K hK => ?_)
      refine goes_ Tryz.func161 (by kernel_rfl) rfl #[.agg #[.int .i64 a0_0, .int .i64 a0_1]] (by rfl) rfl rfl ma ?_
      with_reducible refine (v_sign.calls a0_0 a0_1 t142 _ A32.out).mono ?_
      rintro e w48 ⟨rfl, hb⟩
      refine ⟨_, rfl, ?_⟩
      replace BK133 := bkb BK133 hb
      replace BK134 := bkb BK134 hb
      replace BK135 := bkb BK135 hb
      replace HB := bsq w hb
      (try clear hb)
      refine hK.out _ _ ⟨(blk_cell BK133.out 0).trans rfl, (blk_cell BK133.out 1).trans rfl, (blk_cell BK134.out 0).trans rfl, (blk_cell BK134.out 1).trans rfl⟩ (fun hHeld => ?_)
      clear hK K
      refine norm_ (a' := ?_) ?_ ?_
      rotate_left
      ·show Act.put _ (some 29) _ = _
       simp only [zpz]
       rfl
      refine pure_ (i := 4) (N := some 30) (v := ?_) (a' := ?_) #[true, true, true, true, true, false, true, true, true, false, false, false, false, false, false, false, false, false] rfl rfl (any_of HT_.out (by kernel_rfl)) (fun _ _ _ h => h) (Or.inl ⟨by rfl, ?_⟩) ?_ ?_
      rotate_left
      ·intro w'
       go_simp
       with_reducible rfl
      rotate_left
      ·simp only [zpz]
       rfl
      refine pure_ (i := 5) (N := some 31) (v := ?_) (a' := ?_) #[true, true, true, true, true, true, true, true, true, false, false, false, false, false, false, false, false, false] rfl rfl (any_of HT_.out (by kernel_rfl)) (fun _ _ _ h => h) (Or.inl ⟨by rfl, ?_⟩) ?_ ?_
      rotate_left
      ·intro w'
       go_simp
       with_reducible rfl
      rotate_left
      ·simp only [zpz]
       rfl
      refine one_ (i := 9) (N := some 35) #[true, true, true, true, true, true, true, true, true, true, false, false, false, false, false, false, false, false] rfl rfl (one_of HT_.out (by kernel_rfl)) (by decide) (fun K hK => ?_)
      refine goes_ Tryz.func161 (by kernel_rfl) rfl #[.agg #[.int .i64 a1_0, .int .i64 a1_1]] (by rfl) rfl rfl ma ?_
      with_reducible refine (v_sign.calls a1_0 a1_1 t143 _ A33.out).mono ?_
      rintro e w49 ⟨rfl, hb⟩
      refine ⟨_, rfl, ?_⟩
      replace BK133 := bkb BK133 hb
      replace BK134 := bkb BK134 hb
      replace BK135 := bkb BK135 hb
      replace HB := bsq w hb
      (try clear hb)
      refine hK.out _ _ ⟨(blk_cell BK133.out 0).trans rfl, (blk_cell BK133.out 1).trans rfl, (blk_cell BK134.out 0).trans rfl, (blk_cell BK134.out 1).trans rfl⟩ (fun hHeld => ?_)
      clear hK K
      refine norm_ (a' := ?_) ?_ ?_
      rotate_left
      ·show Act.put _ (some 35) _ = _
       simp only [zpz]
       rfl
      refine pure_ (i := 10) (N := some 36) (v := ?_) (a' := ?_) #[true, true, true, true, true, true, true, true, true, true, true, false, false, false, false, false, false, false] rfl rfl (any_of HT_.out (by kernel_rfl)) (fun _ _ _ h => h) (Or.inl ⟨by rfl, ?_⟩) ?_ ?_
      rotate_left
      ·intro w'
       go_simp
       with_reducible rfl
      rotate_left
      ·simp only [zpz]
       rfl
      refine pure_ (i := 11) (N := some 37) (v := ?_) (a' := ?_) #[true, true, true, true, true, true, true, true, true, true, true, true, false, false, false, false, false, false] rfl rfl (any_of HT_.out (by kernel_rfl)) (fun _ _ _ h => h) (Or.inl ⟨by rfl, ?_⟩) ?_ ?_
      rotate_left
      ·intro w'
       go_simp
       with_reducible rfl
      rotate_left
      ·simp only [zpz]
       rfl
      refine one_ (i := 12) (N := some 38) #[true, true, true, true, true, true, true, true, true, true, true, true, true, false, false, false, false, false] rfl rfl (one_of HT_.out (by kernel_rfl)) (by decide) (fun K hK => ?_)
      refine goes_ Tryz.func163 (by kernel_rfl) rfl #[.int .u64 (IntKind.u64.wrap (wrap64 (a0_1 * t142))), .int .u64 (IntKind.u64.wrap (wrap64 (a1_1 * t143)))] (by rfl) rfl rfl ma ?_
      with_reducible refine (bits_Mul64.calls (IntKind.u64.wrap (wrap64 (a0_1 * t142))) (IntKind.u64.wrap (wrap64 (a1_1 * t143))) t144 t145 _ A34.out).mono ?_
      rintro e w' ⟨rfl, ⟨nd, rfl⟩⟩
      refine ⟨_, rfl, ?_⟩
      refine hK.out _ _ ⟨(blk_cell BK133.out 0).trans rfl, (blk_cell BK133.out 1).trans rfl, (blk_cell BK134.out 0).trans rfl, (blk_cell BK134.out 1).trans rfl⟩ (fun hHeld => ?_)
      clear hK K
      refine norm_ (a' := ?_) ?_ ?_
      rotate_left
      ·show Act.put _ (some 38) _ = _
       simp only [zpz]
       rfl
      refine pure_ (i := 13) (N := some 25) (v := ?_) (a' := ?_) #[true, true, true, true, true, true, true, true, true, true, true, true, true, true, false, false, false, false] rfl rfl (any_of HT_.out (by kernel_rfl)) (fun _ _ _ h => h) (Or.inl ⟨by rfl, ?_⟩) ?_ ?_
      rotate_left
      ·intro w'
       go_simp
       with_reducible rfl
      rotate_left
      ·simp only [zpz]
       rfl
      refine pure_ (i := 14) (N := some 39) (v := ?_) (a' := ?_) #[true, true, true, true, true, true, true, true, true, true, true, true, true, true, true, false, false, false] rfl rfl (any_of HT_.out (by kernel_rfl)) (fun _ _ _ h => h) (Or.inl ⟨by rfl, ?_⟩) ?_ ?_
      rotate_left
      ·intro w'
       go_simp
       with_reducible rfl
      rotate_left
      ·simp only [zpz]
       rfl
      refine pure_ (i := 15) (N := some 40) (v := ?_) (a' := ?_) #[true, true, true, true, true, true, true, true, true, true, true, true, true, true, true, true, false, false] rfl rfl (any_of HT_.out (by kernel_rfl)) (fun _ _ _ h => h) (Or.inl ⟨by rfl, ?_⟩) ?_ ?_
      rotate_left
      ·intro w'
       go_simp
       with_reducible rfl
      rotate_left
      ·simp only [zpz]
       rfl
      refine pure_ (i := 16) (N := some 6) (v := ?_) (a' := ?_) #[true, true, true, true, true, true, true, true, true, true, true, true, true, true, true, true, true, false] rfl rfl (any_of HT_.out (by kernel_rfl)) (fun _ _ _ h => h) (Or.inl ⟨by rfl, ?_⟩) ?_ ?_
      rotate_left
      ·intro w'
       go_simp
       with_reducible rfl
      rotate_left
      ·simp only [zpz]
       rfl
      refine pure_ (i := 17) (N := some 7) (v := ?_) (a' := ?_) #[true, true, true, true, true, true, true, true, true, true, true, true, true, true, true, true, true, true] rfl rfl (any_of HT_.out (by kernel_rfl)) (fun _ _ _ h => h) (Or.inl ⟨by rfl, ?_⟩) ?_ ?_
      rotate_left
      ·intro w'
       go_simp
       with_reducible rfl
      rotate_left
      ·simp only [zpz]
       rfl
      refine done_ (done_of HT_.out (by kernel_rfl)) ?_
      try go_wp2_with (first | ((with_reducible refine gate_callee (f := 164) rfl ?_); refine goesL_ (some 48) rfl rfl Tryz.func164 (by kernel_rfl) rfl #[.int .u64 t144, .int .u64 t145, .int .u64 1000] rfl ma ?_; (with_reducible refine (bits_Div64.calls t144 t145 1000 t148 t149 _ A44.out).mono ?_); rintro e w' ⟨rfl, ⟨nd, rfl⟩⟩; refine ⟨_, rfl, ?_⟩; (try (rw [drewN_self w49]; generalize hq_ : World.drewN w49 _ = w49; have n0_ : Sd (w49.heap[gb133]? = some (.cells #[.int .i64 a0_0, .int .i64 a0_1] 25 (0, 0))) := ⟨by rw [← hq_]; exact (by exact blkF BK133.out)⟩; have n1_ : Sd (w49.heap[gb134]? = some (.cells #[.int .i64 a1_0, .int .i64 a1_1] 25 (0, 0))) := ⟨by rw [← hq_]; exact (by exact blkF BK134.out)⟩; have n2_ : Sd (w49.heap[gb135]? = some (.cells #[.int .i64 0, .int .i64 0] 25 (0, 0))) := ⟨by rw [← hq_]; exact (by exact blkF BK135.out)⟩; have n3_ : Sd (Below w.heap.size w w49) := ⟨by rw [← hq_]; exact bbl⟩; clear BK133 BK134 BK135 HB hq_; have BK133 := n0_; have BK134 := n1_; have BK135 := n2_; have HB := n3_; clear n0_ n1_ n2_ n3_))) | ((with_reducible refine gate_callee (f := 162) rfl ?_); refine goesL_ (some 54) rfl rfl Tryz.func162 (by kernel_rfl) rfl #[.int .i64 (wrap64 (t136 * t137))] rfl ma ?_; (with_reducible refine (v_infinite.calls (wrap64 (t136 * t137)) t150 t151 _ A46.out).mono ?_); rintro e w50 ⟨rfl, hb⟩; refine ⟨_, rfl, ?_⟩; replace BK133 := bkb BK133 hb; replace BK134 := bkb BK134 hb; replace BK135 := bkb BK135 hb; replace HB := bsq w hb; (try clear hb); have hnb51 := NB135_133.out; have hnc51 := NB133_135.out; have hnb52 := NB135_134.out; have hnc52 := NB134_135.out; have hcz53_0 := bz0 BK135; have hcz53_1 := bz1 BK135; have hfz53_0 := blk_frozen BK135.out 0; have hfz53_1 := blk_frozen BK135.out 1))
      refine bodyPost_ret (results_cell_row rfl _ _ gb135 25 #[.int .i64 t150, .int .i64 t151] (0, 0) _ rfl (by (repeat refine dw ?_); refine blk_put (cs := #[.int .i64 t150, .int .i64 0]) ?_ 1 _ rfl; (repeat refine dw ?_); refine blk_put (cs := #[.int .i64 0, .int .i64 0]) ?_ 0 _ rfl; (repeat refine dw ?_); exact BK135.out) Tryz.underlying25 rfl (by kernel_rfl)) rfl ?_
      exact ⟨fe, bbl⟩
     ·rw [if_neg c45] at H
      have c45b0 : decide (1000000000000000 < t148) = false := decide_eq_false c45
      clear c45
      obtain ⟨⟨t152, t153⟩, A54, H⟩ := bnd H
      replace H : (some (t152, t153)) = some (r1, r2) := H
      obtain ⟨rfl, rfl⟩ := zs2 H
      try go_wp2
      replace BK133 := Sd.mk (blk_drew BK133.out)
      replace BK134 := Sd.mk (blk_drew BK134.out)
      replace BK135 := Sd.mk (blk_drew BK135.out)
      replace HB := Sd.mk (bd1 HB.out)
      refine start_ (n := 18) (S := fun w' => w'.cell? ⟨gb133, 0, none⟩ = some (.int .i64 a0_0) ∧ w'.cell? ⟨gb133, 1, none⟩ = some (.int .i64 a0_1) ∧ w'.cell? ⟨gb134, 0, none⟩ = some (.int .i64 a1_0) ∧ w'.cell? ⟨gb134, 1, none⟩ = some (.int .i64 a1_1)) (ds := []) #[false, false, false, false, false, false, false, false, false, false, false, false, false, false, false, false, false, false] (by kernel_rfl) rfl rfl ⟨(blk_cell BK133.out 0).trans rfl, (blk_cell BK133.out 1).trans rfl, (blk_cell BK134.out 0).trans rfl, (blk_cell BK134.out 1).trans rfl⟩ (fun hHeld => ?_); refine with_tabW v_mul.tab4 v_mul.bits4 (fun HT_ HW_ => ?_)
      generalize wc.drew = w55 at BK133 BK134 BK135 HB hHeld ⊢
      refine pure_ (i := 0) (N := some 26) (v := ?_) (a' := ?_) #[true, false, false, false, false, false, false, false, false, false, false, false, false, false, false, false, false, false] rfl rfl (any_of HT_.out (by kernel_rfl)) (fun _ _ _ h => h) (Or.inl ⟨by rfl, ?_⟩) ?_ ?_
      rotate_left
      ·intro w'
       go_simp
       with_reducible rfl
      rotate_left
      ·simp only [zpz]
       rfl
      refine pure_ (i := 6) (N := some 32) (v := ?_) (a' := ?_) #[true, false, false, false, false, false, true, false, false, false, false, false, false, false, false, false, false, false] rfl rfl (any_of HT_.out (by kernel_rfl)) (fun _ _ _ h => h) (Or.inl ⟨by rfl, ?_⟩) ?_ ?_
      rotate_left
      ·intro w'
       go_simp
       with_reducible rfl
      rotate_left
      ·simp only [zpz]
       rfl
      refine take_ (i := 1) (N := some 27) (v := ?_) (a' := ?_) #[true, true, false, false, false, false, true, false, false, false, false, false, false, false, false, false, false, false] rfl rfl (take_ofW HT_.out HW_.out (by kernel_rfl)) (fun _ _ _ h => h) (Or.inl ⟨by rfl, ?_⟩) hHeld ?_ ?_
      rotate_left
      ·rintro w' ⟨s0, s1, s2, s3⟩
       go_simp
       with_reducible rfl
      rotate_left
      ·simp only [zpz]
       rfl
      refine take_ (i := 2) (N := some 28) (v := ?_) (a' := ?_) #[true, true, true, false, false, false, true, false, false, false, false, false, false, false, false, false, false, false] rfl rfl (take_ofW HT_.out HW_.out (by kernel_rfl)) (fun _ _ _ h => h) (Or.inl ⟨by rfl, ?_⟩) hHeld ?_ ?_
      rotate_left
      ·rintro w' ⟨s0, s1, s2, s3⟩
       go_simp
       with_reducible rfl
      rotate_left
      ·simp only [zpz]
       rfl
      refine take_ (i := 7) (N := some 33) (v := ?_) (a' := ?_) #[true, true, true, false, false, false, true, true, false, false, false, false, false, false, false, false, false, false] rfl rfl (take_ofW HT_.out HW_.out (by kernel_rfl)) (fun _ _ _ h => h) (Or.inl ⟨by rfl, ?_⟩) hHeld ?_ ?_
      rotate_left
      ·rintro w' ⟨s0, s1, s2, s3⟩
       go_simp
       with_reducible rfl
      rotate_left
      ·simp only [zpz]
       rfl
      refine take_ (i := 8) (N := some 34) (v := ?_) (a' := ?_) #[true, true, true, false, false, false, true, true, true, false, false, false, false, false, false, false, false, false] rfl rfl (take_ofW HT_.out HW_.out (by kernel_rfl)) (fun _ _ _ h => h) (Or.inl ⟨by rfl, ?_⟩) hHeld ?_ ?_
      rotate_left
      ·rintro w' ⟨s0, s1, s2, s3⟩
       go_simp
       with_reducible rfl
      rotate_left
      ·simp only [zpz]
       rfl
      refine one_ (i := 3) (N := some 29) #[true, true, true, true, false, false, true, true, true, false, false, false, false, false, false, false, false, false] rfl rfl (one_of HT_.out (by kernel_rfl)) (by decide) (fun K hK => ?_)
      refine goes_ Tryz.func161 (by kernel_rfl) rfl #[.agg #[.int .i64 a0_0, .int .i64 a0_1]] (by rfl) rfl rfl ma ?_
      with_reducible refine (v_sign.calls a0_0 a0_1 t142 _ A32.out).mono ?_
      rintro e w56 ⟨rfl, hb⟩
      refine ⟨_, rfl, ?_⟩
      replace BK133 := bkb BK133 hb
      replace BK134 := bkb BK134 hb
      replace BK135 := bkb BK135 hb
      replace HB := bsq w hb
      (try clear hb)
      refine hK.out _ _ ⟨(blk_cell BK133.out 0).trans rfl, (blk_cell BK133.out 1).trans rfl, (blk_cell BK134.out 0).trans rfl, (blk_cell BK134.out 1).trans rfl⟩ (fun hHeld => ?_)
      clear hK K
      refine norm_ (a' := ?_) ?_ ?_
      rotate_left
      ·show Act.put _ (some 29) _ = _
       simp only [zpz]
       rfl
      refine pure_ (i := 4) (N := some 30) (v := ?_) (a' := ?_) #[true, true, true, true, true, false, true, true, true, false, false, false, false, false, false, false, false, false] rfl rfl (any_of HT_.out (by kernel_rfl)) (fun _ _ _ h => h) (Or.inl ⟨by rfl, ?_⟩) ?_ ?_
      rotate_left
      ·intro w'
       go_simp
       with_reducible rfl
      rotate_left
      ·simp only [zpz]
       rfl
      refine pure_ (i := 5) (N := some 31) (v := ?_) (a' := ?_) #[true, true, true, true, true, true, true, true, true, false, false, false, false, false, false, false, false, false] rfl rfl (any_of HT_.out (by kernel_rfl)) (fun _ _ _ h => h) (Or.inl ⟨by rfl, ?_⟩) ?_ ?_
      rotate_left
      ·intro w'
       go_simp
       with_reducible rfl
      rotate_left
      ·simp only [zpz]
       rfl
      refine one_ (i := 9) (N := some 35) #[true, true, true, true, true, true, true, true, true, true, false, false, false, false, false, false, false, false] rfl rfl (one_of HT_.out (by kernel_rfl)) (by decide) (fun K hK => ?_)
      refine goes_ Tryz.func161 (by kernel_rfl) rfl #[.agg #[.int .i64 a1_0, .int .i64 a1_1]] (by rfl) rfl rfl ma ?_
      with_reducible refine (v_sign.calls a1_0 a1_1 t143 _ A33.out).mono ?_
      rintro e w57 ⟨rfl, hb⟩
      refine ⟨_, rfl, ?_⟩
      replace BK133 := bkb BK133 hb
      replace BK134 := bkb BK134 hb
      replace BK135 := bkb BK135 hb
      replace HB := bsq w hb
      (try clear hb)
      refine hK.out _ _ ⟨(blk_cell BK133.out 0).trans rfl, (blk_cell BK133.out 1).trans rfl, (blk_cell BK134.out 0).trans rfl, (blk_cell BK134.out 1).trans rfl⟩ (fun hHeld => ?_)
      clear hK K
      refine norm_ (a' := ?_) ?_ ?_
      rotate_left
      ·show Act.put _ (some 35) _ = _
       simp only [zpz]
       rfl
      refine pure_ (i := 10) (N := some 36) (v := ?_) (a' := ?_) #[true, true, true, true, true, true, true, true, true, true, true, false, false, false, false, false, false, false] rfl rfl (any_of HT_.out (by kernel_rfl)) (fun _ _ _ h => h) (Or.inl ⟨by rfl, ?_⟩) ?_ ?_
      rotate_left
      ·intro w'
       go_simp
       with_reducible rfl
      rotate_left
      ·simp only [zpz]
       rfl
      refine pure_ (i := 11) (N := some 37) (v := ?_) (a' := ?_) #[true, true, true, true, true, true, true, true, true, true, true, true, false, false, false, false, false, false] rfl rfl (any_of HT_.out (by kernel_rfl)) (fun _ _ _ h => h) (Or.inl ⟨by rfl, ?_⟩) ?_ ?_
      rotate_left
      ·intro w'
       go_simp
       with_reducible rfl
      rotate_left
      ·simp only [zpz]
       rfl
      refine one_ (i := 12) (N := some 38) #[true, true, true, true, true, true, true, true, true, true, true, true, true, false, false, false, false, false] rfl rfl (one_of HT_.out (by kernel_rfl)) (by decide) (fun K hK => ?_)
      refine goes_ Tryz.func163 (by kernel_rfl) rfl #[.int .u64 (IntKind.u64.wrap (wrap64 (a0_1 * t142))), .int .u64 (IntKind.u64.wrap (wrap64 (a1_1 * t143)))] (by rfl) rfl rfl ma ?_
      with_reducible refine (bits_Mul64.calls (IntKind.u64.wrap (wrap64 (a0_1 * t142))) (IntKind.u64.wrap (wrap64 (a1_1 * t143))) t144 t145 _ A34.out).mono ?_
      rintro e w' ⟨rfl, ⟨nd, rfl⟩⟩
      refine ⟨_, rfl, ?_⟩
      refine hK.out _ _ ⟨(blk_cell BK133.out 0).trans rfl, (blk_cell BK133.out 1).trans rfl, (blk_cell BK134.out 0).trans rfl, (blk_cell BK134.out 1).trans rfl⟩ (fun hHeld => ?_)
      clear hK K
      refine norm_ (a' := ?_) ?_ ?_
      rotate_left
      ·show Act.put _ (some 38) _ = _
       simp only [zpz]
       rfl
      refine pure_ (i := 13) (N := some 25) (v := ?_) (a' := ?_) #[true, true, true, true, true, true, true, true, true, true, true, true, true, true, false, false, false, false] rfl rfl (any_of HT_.out (by kernel_rfl)) (fun _ _ _ h => h) (Or.inl ⟨by rfl, ?_⟩) ?_ ?_
      rotate_left
      ·intro w'
       go_simp
       with_reducible rfl
      rotate_left
      ·simp only [zpz]
       rfl
      refine pure_ (i := 14) (N := some 39) (v := ?_) (a' := ?_) #[true, true, true, true, true, true, true, true, true, true, true, true, true, true, true, false, false, false] rfl rfl (any_of HT_.out (by kernel_rfl)) (fun _ _ _ h => h) (Or.inl ⟨by rfl, ?_⟩) ?_ ?_
      rotate_left
      ·intro w'
       go_simp
       with_reducible rfl
      rotate_left
      ·simp only [zpz]
       rfl
      refine pure_ (i := 15) (N := some 40) (v := ?_) (a' := ?_) #[true, true, true, true, true, true, true, true, true, true, true, true, true, true, true, true, false, false] rfl rfl (any_of HT_.out (by kernel_rfl)) (fun _ _ _ h => h) (Or.inl ⟨by rfl, ?_⟩) ?_ ?_
      rotate_left
      ·intro w'
       go_simp
       with_reducible rfl
      rotate_left
      ·simp only [zpz]
       rfl
      refine pure_ (i := 16) (N := some 6) (v := ?_) (a' := ?_) #[true, true, true, true, true, true, true, true, true, true, true, true, true, true, true, true, true, false] rfl rfl (any_of HT_.out (by kernel_rfl)) (fun _ _ _ h => h) (Or.inl ⟨by rfl, ?_⟩) ?_ ?_
      rotate_left
      ·intro w'
       go_simp
       with_reducible rfl
      rotate_left
      ·simp only [zpz]
       rfl
      refine pure_ (i := 17) (N := some 7) (v := ?_) (a' := ?_) #[true, true, true, true, true, true, true, true, true, true, true, true, true, true, true, true, true, true] rfl rfl (any_of HT_.out (by kernel_rfl)) (fun _ _ _ h => h) (Or.inl ⟨by rfl, ?_⟩) ?_ ?_
      rotate_left
      ·intro w'
       go_simp
       with_reducible rfl
      rotate_left
      ·simp only [zpz]
       rfl
      refine done_ (done_of HT_.out (by kernel_rfl)) ?_
      try go_wp2_with (first | ((with_reducible refine gate_callee (f := 164) rfl ?_); refine goesL_ (some 48) rfl rfl Tryz.func164 (by kernel_rfl) rfl #[.int .u64 t144, .int .u64 t145, .int .u64 1000] rfl ma ?_; (with_reducible refine (bits_Div64.calls t144 t145 1000 t148 t149 _ A44.out).mono ?_); rintro e w' ⟨rfl, ⟨nd, rfl⟩⟩; refine ⟨_, rfl, ?_⟩; (try (rw [drewN_self w57]; generalize hq_ : World.drewN w57 _ = w57; have n0_ : Sd (w57.heap[gb133]? = some (.cells #[.int .i64 a0_0, .int .i64 a0_1] 25 (0, 0))) := ⟨by rw [← hq_]; exact (by exact blkF BK133.out)⟩; have n1_ : Sd (w57.heap[gb134]? = some (.cells #[.int .i64 a1_0, .int .i64 a1_1] 25 (0, 0))) := ⟨by rw [← hq_]; exact (by exact blkF BK134.out)⟩; have n2_ : Sd (w57.heap[gb135]? = some (.cells #[.int .i64 0, .int .i64 0] 25 (0, 0))) := ⟨by rw [← hq_]; exact (by exact blkF BK135.out)⟩; have n3_ : Sd (Below w.heap.size w w57) := ⟨by rw [← hq_]; exact bbl⟩; clear BK133 BK134 BK135 HB hq_; have BK133 := n0_; have BK134 := n1_; have BK135 := n2_; have HB := n3_; clear n0_ n1_ n2_ n3_))) | ((with_reducible refine gate_callee (f := 76) rfl ?_); refine goesL_ (some 59) rfl rfl Tryz.func76 (by kernel_rfl) rfl #[.int .i64 (wrap64 ((wrap64 (t136 * t137)) * (wrap64 (t148))))] rfl ma ?_; (with_reducible refine (v_Num.calls (wrap64 ((wrap64 (t136 * t137)) * (wrap64 (t148)))) t152 t153 _ A54.out).mono ?_); rintro e w58 ⟨rfl, hb⟩; refine ⟨_, rfl, ?_⟩; replace BK133 := bkb BK133 hb; replace BK134 := bkb BK134 hb; replace BK135 := bkb BK135 hb; replace HB := bsq w hb; (try clear hb); have hnb59 := NB135_133.out; have hnc59 := NB133_135.out; have hnb60 := NB135_134.out; have hnc60 := NB134_135.out; have hcz61_0 := bz0 BK135; have hcz61_1 := bz1 BK135; have hfz61_0 := blk_frozen BK135.out 0; have hfz61_1 := blk_frozen BK135.out 1))
      refine bodyPost_ret (results_cell_row rfl _ _ gb135 25 #[.int .i64 t152, .int .i64 t153] (0, 0) _ rfl (by (repeat refine dw ?_); refine blk_put (cs := #[.int .i64 t152, .int .i64 0]) ?_ 1 _ rfl; (repeat refine dw ?_); refine blk_put (cs := #[.int .i64 0, .int .i64 0]) ?_ 0 _ rfl; (repeat refine dw ?_); exact BK135.out) Tryz.underlying25 rfl (by kernel_rfl)) rfl ?_
      exact ⟨fe, bbl⟩
mutual
def v_div.j0 : Nat → Bool → Int → Int → Int → Int → Option (Int × Int)
 | 0, _, _, _, _, _ => none
 | k + 1, x5, x155000, x155001, x156000, x156001 => if x5 = true then ((v_NaN.f).bind fun bt159 => (some (bt159.1, bt159.2))) else ((v_finite.f x156000 x156001).bind fun t161 => (if t161 = true then ((v_finite.f x155000 x155001).bind fun t162 => (if t162 = true then (v_div.j1 k false x155000 x155001 x156000 x156001) else (v_div.j1 k (decide (x156001 < 0)) x155000 x155001 x156000 x156001))) else ((v_Num.f 0).bind fun bt171 => (some (bt171.1, bt171.2)))))
def v_div.j1 : Nat → Bool → Int → Int → Int → Int → Option (Int × Int)
 | 0, _, _, _, _, _ => none
 | k + 1, x20, x155000, x155001, x156000, x156001 => if x20 = true then ((v_rank.f x155000 x155001).bind fun t163 => ((v_back.f (wrap64 (-t163))).bind fun bt164 => (some (bt164.1, bt164.2)))) else ((v_finite.f x155000 x155001).bind fun t166 => (if t166 = true then (if x156001 = 0 then ((v_infinite.f x155001).bind fun bt167 => (some (bt167.1, bt167.2))) else ((v_Num.f (wrap64 (Int.tdiv (wrap64 (x155001 * 1000)) x156001))).bind fun bt169 => (some (bt169.1, bt169.2)))) else (some (x155000, x155001))))
end
def v_div.f (k : Nat) (a0_0 : Int) (a0_1 : Int) (a1_0 : Int) (a1_1 : Int) : Option (Int × Int) := (v_finite.f a0_0 a0_1).bind fun t157 => (if t157 = true then (v_div.j0 k false a0_0 a0_1 a1_0 a1_1) else ((v_finite.f a1_0 a1_1).bind fun t158 => (v_div.j0 k (!t158) a0_0 a0_1 a1_0 a1_1)))
theorem v_div.calls (k : Nat) (a0_0 : Int) (a0_1 : Int) (a1_0 : Int) (a1_1 : Int) (r1 : Int) (r2 : Int) (w : World) (h : v_div.f k a0_0 a0_1 a1_0 a1_1 = some (r1, r2)) :
  Calls Tryz.prog 132 #[.agg #[.int .i64 a0_0, .int .i64 a0_1], .agg #[.int .i64 a1_0, .int .i64 a1_1]] w fun e w' => e = .returned (.agg #[.int .i64 r1, .int .i64 r2]) ∧ Below w.heap.size w w' := by
 have hu25 := Tryz.underlying25
 have HB := zsB w
 have H : ((v_finite.f a0_0 a0_1).bind fun t157 => (if t157 = true then (v_div.j0 k false a0_0 a0_1 a1_0 a1_1) else ((v_finite.f a1_0 a1_1).bind fun t158 => (v_div.j0 k (!t158) a0_0 a0_1 a1_0 a1_1)))) = some (r1, r2) := h
 clear h
 have HC3 := Sd.mk H
 clear H
 go_enter Tryz.func132, Tryz.ntmps132
 go_upto_region 1 with (first | ((with_reducible refine gate_dst (N := 2) rfl ?_); refine bxe (N := 2) (cs := #[.int .i64 a0_0, .int .i64 a0_1]) (t := 25) ?_; intro gb154 hg w4 hbox hb; have BK154 := Sd.mk hbox; have GW154 := bge w hg; replace HB := bsq w hb; clear hb hbox hg) | ((with_reducible refine gate_dst (N := 3) rfl ?_); refine bxe (N := 3) (cs := #[.int .i64 a1_0, .int .i64 a1_1]) (t := 25) ?_; intro gb155 hg w5 hbox hb; have BK155 := Sd.mk hbox; have GW155 := bge w hg; have NB154_155 := bnl BK154 hg; have NB155_154 := bng BK154 hg; replace BK154 := bkb BK154 hb; replace HB := bsq w hb; clear hb hbox hg) | ((with_reducible refine gate_dst (N := 4) rfl ?_); refine bxe (N := 4) (cs := #[.int .i64 0, .int .i64 0]) (t := 25) ?_; intro gb156 hg w6 hbox hb; have BK156 := Sd.mk hbox; have GW156 := bge w hg; have NB154_156 := bnl BK154 hg; have NB156_154 := bng BK154 hg; have NB155_156 := bnl BK155 hg; have NB156_155 := bng BK155 hg; replace BK154 := bkb BK154 hb; replace BK155 := bkb BK155 hb; replace HB := bsq w hb; clear hb hbox hg))
 (try simp only [Act.put, List.setIfInBounds_toArray, List.set_cons_zero, List.set_cons_succ])
 go_cut [5] (fun v5 wc => ∃ (kq : Nat) (x5_2 : Bool), v5 = .bool x5_2 ∧ Sd (v_div.j0 kq x5_2 a0_0 a0_1 a1_0 a1_1 = some (r1, r2)) ∧ Sd (kq ≤ k) ∧ Sd (wc.heap[gb154]? = some (.cells #[.int .i64 a0_0, .int .i64 a0_1] 25 (0, 0))) ∧ Sd (wc.heap[gb155]? = some (.cells #[.int .i64 a1_0, .int .i64 a1_1] 25 (0, 0))) ∧ Sd (wc.heap[gb156]? = some (.cells #[.int .i64 0, .int .i64 0] 25 (0, 0))) ∧ Sd (Below w.heap.size w wc))
 case first =>
  have H := HC3.out
  clear HC3
  obtain ⟨t157, A7, H⟩ := bnd H
  by_cases c8 : t157 = true
  ·subst c8
   replace H := iT H
   have H' := Sd.mk H
   clear H
   have := NB154_155.out
   have := NB155_154.out
   have := NB154_156.out
   have := NB156_154.out
   obtain ⟨_, _, _, _⟩ := bz BK154
   go_wp2_with (first | ((with_reducible refine gate_callee (f := 122) rfl ?_); refine goesL_ (some 7) rfl rfl Tryz.func122 (by kernel_rfl) rfl #[.agg #[.int .i64 a0_0, .int .i64 a0_1]] rfl ma ?_; (with_reducible refine (v_finite.calls a0_0 a0_1 true _ A7.out).mono ?_); rintro e w12 ⟨rfl, hb⟩; refine ⟨_, rfl, ?_⟩; replace BK154 := bkb BK154 hb; replace BK155 := bkb BK155 hb; replace BK156 := bkb BK156 hb; replace HB := bsq w hb; (try clear hb)))
   go_meet
   case rel => exact ⟨_, (false), ae, H', ⟨by first | omega | exact Nat.le_refl _⟩, fwK BK154, fwK BK155, fwK BK156, ⟨bbl⟩⟩
  ·replace c8 := znf c8
   subst c8
   replace H := iF H
   obtain ⟨t158, A13, H⟩ := bnd H
   have H' := Sd.mk H
   clear H
   have := NB154_155.out
   have := NB155_154.out
   have := NB154_156.out
   have := NB156_154.out
   obtain ⟨_, _, _, _⟩ := bz BK154
   go_wp2_with (first | ((with_reducible refine gate_callee (f := 122) rfl ?_); refine goesL_ (some 7) rfl rfl Tryz.func122 (by kernel_rfl) rfl #[.agg #[.int .i64 a0_0, .int .i64 a0_1]] rfl ma ?_; (with_reducible refine (v_finite.calls a0_0 a0_1 false _ A7.out).mono ?_); rintro e w17 ⟨rfl, hb⟩; refine ⟨_, rfl, ?_⟩; replace BK154 := bkb BK154 hb; replace BK155 := bkb BK155 hb; replace BK156 := bkb BK156 hb; replace HB := bsq w hb; (try clear hb); have hnb18 := NB155_156.out; have hnc18 := NB156_155.out; have hcz19_0 := bz0 BK155; have hcz19_1 := bz1 BK155; have hfz19_0 := blk_frozen BK155.out 0; have hfz19_1 := blk_frozen BK155.out 1) | (go_at_call 122; (with_reducible refine (v_finite.calls a1_0 a1_1 t158 _ A13.out).mono ?_); rintro e w20 ⟨rfl, hb⟩; replace BK154 := bkb BK154 hb; replace BK155 := bkb BK155 hb; replace BK156 := bkb BK156 hb; replace HB := bsq w hb; (try clear hb)))
   go_meet
   case rel => exact ⟨_, (!t158), ae, H', ⟨by first | omega | exact Nat.le_refl _⟩, fwK BK154, fwK BK155, fwK BK156, ⟨bbl⟩⟩
 case rest =>
  clear HC3
  obtain ⟨kq, x5_2, rfl, HA, HJ2, BK154, BK155, BK156, HB⟩ := hcut
  cases kq with
  | zero => exact absurd HA.out (by simp [v_div.j0])
  | succ kj2 =>
   have H := HA.out
   clear HA
   simp only [v_div.j0] at H
   by_cases c21 : x5_2 = true
   ·subst c21
    replace H := iT H
    obtain ⟨⟨t159, t160⟩, A22, H⟩ := bnd H
    replace H : (some (t159, t160)) = some (r1, r2) := H
    obtain ⟨rfl, rfl⟩ := zs2 H
    go_wp2_with (first | ((with_reducible refine gate_callee (f := 42) rfl ?_); refine goesL_ (some 14) rfl rfl Tryz.func42 (by kernel_rfl) rfl #[] rfl ma ?_; (with_reducible refine (v_NaN.calls  t159 t160 _ A22.out).mono ?_); rintro e w23 ⟨rfl, hb⟩; refine ⟨_, rfl, ?_⟩; replace BK154 := bkb BK154 hb; replace BK155 := bkb BK155 hb; replace BK156 := bkb BK156 hb; replace HB := bsq w hb; (try clear hb); have hnb24 := NB156_154.out; have hnc24 := NB154_156.out; have hnb25 := NB156_155.out; have hnc25 := NB155_156.out; have hcz26_0 := bz0 BK156; have hcz26_1 := bz1 BK156; have hfz26_0 := blk_frozen BK156.out 0; have hfz26_1 := blk_frozen BK156.out 1))
    refine bodyPost_ret (results_cell_row rfl _ _ gb156 25 #[.int .i64 t159, .int .i64 t160] (0, 0) _ rfl (by (repeat refine dw ?_); refine blk_put (cs := #[.int .i64 t159, .int .i64 0]) ?_ 1 _ rfl; (repeat refine dw ?_); refine blk_put (cs := #[.int .i64 0, .int .i64 0]) ?_ 0 _ rfl; (repeat refine dw ?_); exact BK156.out) Tryz.underlying25 rfl (by kernel_rfl)) rfl ?_
    exact ⟨fe, bbl⟩
   ·replace c21 := znf c21
    subst c21
    replace H := iF H
    obtain ⟨t161, A27, H⟩ := bnd H
    by_cases c28 : t161 = true
    ·subst c28
     replace H := iT H
     have HC29 := Sd.mk H
     clear H
     have := NB155_154.out
     have := NB154_155.out
     have := NB155_156.out
     have := NB156_155.out
     obtain ⟨_, _, _, _⟩ := bz BK155
     go_upto_region 5 with (first | ((with_reducible refine gate_callee (f := 122) rfl ?_); refine goesL_ (some 17) rfl rfl Tryz.func122 (by kernel_rfl) rfl #[.agg #[.int .i64 a1_0, .int .i64 a1_1]] rfl ma ?_; (with_reducible refine (v_finite.calls a1_0 a1_1 true _ A27.out).mono ?_); rintro e w33 ⟨rfl, hb⟩; refine ⟨_, rfl, ?_⟩; replace BK154 := bkb BK154 hb; replace BK155 := bkb BK155 hb; replace BK156 := bkb BK156 hb; replace HB := bsq w hb; (try clear hb)))
     (try simp only [Act.put, List.setIfInBounds_toArray, List.set_cons_zero, List.set_cons_succ])
     go_cut [20] (fun v20 wc => ∃ (kq : Nat) (x20_28 : Bool), v20 = .bool x20_28 ∧ Sd (v_div.j1 kq x20_28 a0_0 a0_1 a1_0 a1_1 = some (r1, r2)) ∧ Sd (kq ≤ kj2) ∧ Sd (wc.heap[gb154]? = some (.cells #[.int .i64 a0_0, .int .i64 a0_1] 25 (0, 0))) ∧ Sd (wc.heap[gb155]? = some (.cells #[.int .i64 a1_0, .int .i64 a1_1] 25 (0, 0))) ∧ Sd (wc.heap[gb156]? = some (.cells #[.int .i64 0, .int .i64 0] 25 (0, 0))) ∧ Sd (Below w.heap.size w wc))
     case first =>
      have H := HC29.out
      clear HC29
      obtain ⟨t162, A34, H⟩ := bnd H
      by_cases c35 : t162 = true
      ·subst c35
       replace H := iT H
       have H' := Sd.mk H
       clear H
       have := NB154_155.out
       have := NB155_154.out
       have := NB154_156.out
       have := NB156_154.out
       obtain ⟨_, _, _, _⟩ := bz BK154
       go_wp2_with (first | ((with_reducible refine gate_callee (f := 122) rfl ?_); refine goesL_ (some 22) rfl rfl Tryz.func122 (by kernel_rfl) rfl #[.agg #[.int .i64 a0_0, .int .i64 a0_1]] rfl ma ?_; (with_reducible refine (v_finite.calls a0_0 a0_1 true _ A34.out).mono ?_); rintro e w39 ⟨rfl, hb⟩; refine ⟨_, rfl, ?_⟩; replace BK154 := bkb BK154 hb; replace BK155 := bkb BK155 hb; replace BK156 := bkb BK156 hb; replace HB := bsq w hb; (try clear hb)))
       go_meet
       case rel => exact ⟨_, (false), ae, H', ⟨by have := HJ2.out; first | omega | exact Nat.le_refl _⟩, fwK BK154, fwK BK155, fwK BK156, ⟨bbl⟩⟩
      ·replace c35 := znf c35
       subst c35
       replace H := iF H
       have H' := Sd.mk H
       clear H
       have := NB154_155.out
       have := NB155_154.out
       have := NB154_156.out
       have := NB156_154.out
       obtain ⟨_, _, _, _⟩ := bz BK154
       go_wp2_with (first | ((with_reducible refine gate_callee (f := 122) rfl ?_); refine goesL_ (some 22) rfl rfl Tryz.func122 (by kernel_rfl) rfl #[.agg #[.int .i64 a0_0, .int .i64 a0_1]] rfl ma ?_; (with_reducible refine (v_finite.calls a0_0 a0_1 false _ A34.out).mono ?_); rintro e w43 ⟨rfl, hb⟩; refine ⟨_, rfl, ?_⟩; replace BK154 := bkb BK154 hb; replace BK155 := bkb BK155 hb; replace BK156 := bkb BK156 hb; replace HB := bsq w hb; (try clear hb); have hnb44 := NB155_156.out; have hnc44 := NB156_155.out; have hcz45_0 := bz0 BK155; have hcz45_1 := bz1 BK155; have hfz45_0 := blk_frozen BK155.out 0; have hfz45_1 := blk_frozen BK155.out 1))
       go_meet
       case rel => exact ⟨_, (decide (a1_1 < 0)), ae, H', ⟨by have := HJ2.out; first | omega | exact Nat.le_refl _⟩, fwK BK154, fwK BK155, fwK BK156, ⟨bbl⟩⟩
     case rest =>
      clear HC29
      obtain ⟨kq, x20_28, rfl, HA, HJ28, BK154, BK155, BK156, HB⟩ := hcut
      cases kq with
      | zero => exact absurd HA.out (by simp [v_div.j1])
      | succ kj28 =>
       have H := HA.out
       clear HA
       simp only [v_div.j1] at H
       by_cases c46 : x20_28 = true
       ·subst c46
        replace H := iT H
        obtain ⟨t163, A47, H⟩ := bnd H
        obtain ⟨⟨t164, t165⟩, A48, H⟩ := bnd H
        replace H : (some (t164, t165)) = some (r1, r2) := H
        obtain ⟨rfl, rfl⟩ := zs2 H
        have := NB154_155.out
        have := NB155_154.out
        have := NB154_156.out
        have := NB156_154.out
        obtain ⟨_, _, _, _⟩ := bz BK154
        go_wp2_with (first | ((with_reducible refine gate_callee (f := 130) rfl ?_); refine goesL_ (some 30) rfl rfl Tryz.func130 (by kernel_rfl) rfl #[.agg #[.int .i64 a0_0, .int .i64 a0_1]] rfl ma ?_; (with_reducible refine (v_rank.calls a0_0 a0_1 t163 _ A47.out).mono ?_); rintro e w52 ⟨rfl, hb⟩; refine ⟨_, rfl, ?_⟩; replace BK154 := bkb BK154 hb; replace BK155 := bkb BK155 hb; replace BK156 := bkb BK156 hb; replace HB := bsq w hb; (try clear hb)) | ((with_reducible refine gate_callee (f := 129) rfl ?_); refine goesL_ (some 32) rfl rfl Tryz.func129 (by kernel_rfl) rfl #[.int .i64 (wrap64 (-t163))] rfl ma ?_; (with_reducible refine (v_back.calls (wrap64 (-t163)) t164 t165 _ A48.out).mono ?_); rintro e w53 ⟨rfl, hb⟩; refine ⟨_, rfl, ?_⟩; replace BK154 := bkb BK154 hb; replace BK155 := bkb BK155 hb; replace BK156 := bkb BK156 hb; replace HB := bsq w hb; (try clear hb); have hnb54 := NB156_155.out; have hnc54 := NB155_156.out; have hcz55_0 := bz0 BK156; have hcz55_1 := bz1 BK156; have hfz55_0 := blk_frozen BK156.out 0; have hfz55_1 := blk_frozen BK156.out 1))
        refine bodyPost_ret (results_cell_row rfl _ _ gb156 25 #[.int .i64 t164, .int .i64 t165] (0, 0) _ rfl (by (repeat refine dw ?_); refine blk_put (cs := #[.int .i64 t164, .int .i64 0]) ?_ 1 _ rfl; (repeat refine dw ?_); refine blk_put (cs := #[.int .i64 0, .int .i64 0]) ?_ 0 _ rfl; (repeat refine dw ?_); exact BK156.out) Tryz.underlying25 rfl (by kernel_rfl)) rfl ?_
        exact ⟨fe, bbl⟩
       ·replace c46 := znf c46
        subst c46
        replace H := iF H
        obtain ⟨t166, A56, H⟩ := bnd H
        by_cases c57 : t166 = true
        ·subst c57
         replace H := iT H
         by_cases c58 : a1_1 = 0
         ·rw [if_pos c58] at H
          have c58b0 := beq_iff_eq.mpr c58
          have c58b1 := bne_eq_false_iff_eq.mpr c58
          clear c58
          obtain ⟨⟨t167, t168⟩, A59, H⟩ := bnd H
          replace H : (some (t167, t168)) = some (r1, r2) := H
          obtain ⟨rfl, rfl⟩ := zs2 H
          have := NB154_155.out
          have := NB155_154.out
          have := NB154_156.out
          have := NB156_154.out
          obtain ⟨_, _, _, _⟩ := bz BK154
          go_wp2_with (first | ((with_reducible refine gate_callee (f := 122) rfl ?_); refine goesL_ (some 35) rfl rfl Tryz.func122 (by kernel_rfl) rfl #[.agg #[.int .i64 a0_0, .int .i64 a0_1]] rfl ma ?_; (with_reducible refine (v_finite.calls a0_0 a0_1 true _ A56.out).mono ?_); rintro e w63 ⟨rfl, hb⟩; refine ⟨_, rfl, ?_⟩; replace BK154 := bkb BK154 hb; replace BK155 := bkb BK155 hb; replace BK156 := bkb BK156 hb; replace HB := bsq w hb; (try clear hb); have hnb64 := NB155_156.out; have hnc64 := NB156_155.out; have hcz65_0 := bz0 BK155; have hcz65_1 := bz1 BK155; have hfz65_0 := blk_frozen BK155.out 0; have hfz65_1 := blk_frozen BK155.out 1; have hcz66_0 := bz0 BK154; have hcz66_1 := bz1 BK154; have hfz66_0 := blk_frozen BK154.out 0; have hfz66_1 := blk_frozen BK154.out 1) | ((with_reducible refine gate_callee (f := 162) rfl ?_); refine goesL_ (some 44) rfl rfl Tryz.func162 (by kernel_rfl) rfl #[.int .i64 a0_1] rfl ma ?_; (with_reducible refine (v_infinite.calls a0_1 t167 t168 _ A59.out).mono ?_); rintro e w67 ⟨rfl, hb⟩; refine ⟨_, rfl, ?_⟩; replace BK154 := bkb BK154 hb; replace BK155 := bkb BK155 hb; replace BK156 := bkb BK156 hb; replace HB := bsq w hb; (try clear hb); have hcz68_0 := bz0 BK156; have hcz68_1 := bz1 BK156; have hfz68_0 := blk_frozen BK156.out 0; have hfz68_1 := blk_frozen BK156.out 1))
          refine bodyPost_ret (results_cell_row rfl _ _ gb156 25 #[.int .i64 t167, .int .i64 t168] (0, 0) _ rfl (by (repeat refine dw ?_); refine blk_put (cs := #[.int .i64 t167, .int .i64 0]) ?_ 1 _ rfl; (repeat refine dw ?_); refine blk_put (cs := #[.int .i64 0, .int .i64 0]) ?_ 0 _ rfl; (repeat refine dw ?_); exact BK156.out) Tryz.underlying25 rfl (by kernel_rfl)) rfl ?_
          exact ⟨fe, bbl⟩
         ·rw [if_neg c58] at H
          have c58b0 := beq_eq_false_iff_ne.mpr c58
          have c58b1 := bne_iff_ne.mpr c58
          obtain ⟨⟨t169, t170⟩, A69, H⟩ := bnd H
          replace H : (some (t169, t170)) = some (r1, r2) := H
          obtain ⟨rfl, rfl⟩ := zs2 H
          have := NB154_155.out
          have := NB155_154.out
          have := NB154_156.out
          have := NB156_154.out
          obtain ⟨_, _, _, _⟩ := bz BK154
          go_wp2_with (first | ((with_reducible refine gate_callee (f := 122) rfl ?_); refine goesL_ (some 35) rfl rfl Tryz.func122 (by kernel_rfl) rfl #[.agg #[.int .i64 a0_0, .int .i64 a0_1]] rfl ma ?_; (with_reducible refine (v_finite.calls a0_0 a0_1 true _ A56.out).mono ?_); rintro e w73 ⟨rfl, hb⟩; refine ⟨_, rfl, ?_⟩; replace BK154 := bkb BK154 hb; replace BK155 := bkb BK155 hb; replace BK156 := bkb BK156 hb; replace HB := bsq w hb; (try clear hb); have hnb74 := NB155_156.out; have hnc74 := NB156_155.out; have hcz75_0 := bz0 BK155; have hcz75_1 := bz1 BK155; have hfz75_0 := blk_frozen BK155.out 0; have hfz75_1 := blk_frozen BK155.out 1; have hcz76_0 := bz0 BK154; have hcz76_1 := bz1 BK154; have hfz76_0 := blk_frozen BK154.out 0; have hfz76_1 := blk_frozen BK154.out 1) | ((with_reducible refine gate_callee (f := 76) rfl ?_); refine goesL_ (some 51) rfl rfl Tryz.func76 (by kernel_rfl) rfl #[.int .i64 (wrap64 (Int.tdiv (wrap64 (a0_1 * 1000)) a1_1))] rfl ma ?_; (with_reducible refine (v_Num.calls (wrap64 (Int.tdiv (wrap64 (a0_1 * 1000)) a1_1)) t169 t170 _ A69.out).mono ?_); rintro e w77 ⟨rfl, hb⟩; refine ⟨_, rfl, ?_⟩; replace BK154 := bkb BK154 hb; replace BK155 := bkb BK155 hb; replace BK156 := bkb BK156 hb; replace HB := bsq w hb; (try clear hb); have hcz78_0 := bz0 BK156; have hcz78_1 := bz1 BK156; have hfz78_0 := blk_frozen BK156.out 0; have hfz78_1 := blk_frozen BK156.out 1))
          refine bodyPost_ret (results_cell_row rfl _ _ gb156 25 #[.int .i64 t169, .int .i64 t170] (0, 0) _ rfl (by (repeat refine dw ?_); refine blk_put (cs := #[.int .i64 t169, .int .i64 0]) ?_ 1 _ rfl; (repeat refine dw ?_); refine blk_put (cs := #[.int .i64 0, .int .i64 0]) ?_ 0 _ rfl; (repeat refine dw ?_); exact BK156.out) Tryz.underlying25 rfl (by kernel_rfl)) rfl ?_
          exact ⟨fe, bbl⟩
        ·replace c57 := znf c57
         subst c57
         replace H := iF H
         obtain ⟨rfl, rfl⟩ := zs2 H
         have := NB154_155.out
         have := NB155_154.out
         have := NB154_156.out
         have := NB156_154.out
         obtain ⟨_, _, _, _⟩ := bz BK154
         go_wp2_with (first | ((with_reducible refine gate_callee (f := 122) rfl ?_); refine goesL_ (some 35) rfl rfl Tryz.func122 (by kernel_rfl) rfl #[.agg #[.int .i64 a0_0, .int .i64 a0_1]] rfl ma ?_; (with_reducible refine (v_finite.calls a0_0 a0_1 false _ A56.out).mono ?_); rintro e w82 ⟨rfl, hb⟩; refine ⟨_, rfl, ?_⟩; replace BK154 := bkb BK154 hb; replace BK155 := bkb BK155 hb; replace BK156 := bkb BK156 hb; replace HB := bsq w hb; (try clear hb); have hcz83_0 := bz0 BK154; have hcz83_1 := bz1 BK154; have hfz83_0 := blk_frozen BK154.out 0; have hfz83_1 := blk_frozen BK154.out 1; have hnb84 := NB156_155.out; have hnc84 := NB155_156.out; have hcz85_0 := bz0 BK156; have hcz85_1 := bz1 BK156; have hfz85_0 := blk_frozen BK156.out 0; have hfz85_1 := blk_frozen BK156.out 1))
         refine bodyPost_ret (results_cell_row rfl _ _ gb156 25 #[.int .i64 a0_0, .int .i64 a0_1] (0, 0) _ rfl (by (repeat refine dw ?_); refine blk_put (cs := #[.int .i64 a0_0, .int .i64 0]) ?_ 1 _ rfl; (repeat refine dw ?_); refine blk_put (cs := #[.int .i64 0, .int .i64 0]) ?_ 0 _ rfl; (repeat refine dw ?_); exact BK156.out) Tryz.underlying25 rfl (by kernel_rfl)) rfl ?_
         exact ⟨fe, bbl⟩
    ·replace c28 := znf c28
     subst c28
     replace H := iF H
     obtain ⟨⟨t171, t172⟩, A86, H⟩ := bnd H
     replace H : (some (t171, t172)) = some (r1, r2) := H
     obtain ⟨rfl, rfl⟩ := zs2 H
     have := NB155_154.out
     have := NB154_155.out
     have := NB155_156.out
     have := NB156_155.out
     obtain ⟨_, _, _, _⟩ := bz BK155
     go_wp2_with (first | ((with_reducible refine gate_callee (f := 122) rfl ?_); refine goesL_ (some 17) rfl rfl Tryz.func122 (by kernel_rfl) rfl #[.agg #[.int .i64 a1_0, .int .i64 a1_1]] rfl ma ?_; (with_reducible refine (v_finite.calls a1_0 a1_1 false _ A27.out).mono ?_); rintro e w90 ⟨rfl, hb⟩; refine ⟨_, rfl, ?_⟩; replace BK154 := bkb BK154 hb; replace BK155 := bkb BK155 hb; replace BK156 := bkb BK156 hb; replace HB := bsq w hb; (try clear hb)) | ((with_reducible refine gate_callee (f := 76) rfl ?_); refine goesL_ (some 19) rfl rfl Tryz.func76 (by kernel_rfl) rfl #[.int .i64 0] rfl ma ?_; (with_reducible refine (v_Num.calls 0 t171 t172 _ A86.out).mono ?_); rintro e w91 ⟨rfl, hb⟩; refine ⟨_, rfl, ?_⟩; replace BK154 := bkb BK154 hb; replace BK155 := bkb BK155 hb; replace BK156 := bkb BK156 hb; replace HB := bsq w hb; (try clear hb); have hnb92 := NB156_154.out; have hnc92 := NB154_156.out; have hcz93_0 := bz0 BK156; have hcz93_1 := bz1 BK156; have hfz93_0 := blk_frozen BK156.out 0; have hfz93_1 := blk_frozen BK156.out 1))
     refine bodyPost_ret (results_cell_row rfl _ _ gb156 25 #[.int .i64 t171, .int .i64 t172] (0, 0) _ rfl (by (repeat refine dw ?_); refine blk_put (cs := #[.int .i64 t171, .int .i64 0]) ?_ 1 _ rfl; (repeat refine dw ?_); refine blk_put (cs := #[.int .i64 0, .int .i64 0]) ?_ 0 _ rfl; (repeat refine dw ?_); exact BK156.out) Tryz.underlying25 rfl (by kernel_rfl)) rfl ?_
     exact ⟨fe, bbl⟩
def v_True.f (a0_0 : Int) (a0_1 : Int) : Option (Bool) := if a0_0 = 2 then (some false) else (if a0_0 = 0 then (some false) else (if a0_0 = 1 then (some (a0_1 != 0)) else (some true)))
theorem v_True.calls (a0_0 : Int) (a0_1 : Int) (r : Bool) (w : World) (h : v_True.f a0_0 a0_1 = some r) :
  Calls Tryz.prog 117 #[.agg #[.int .i64 a0_0, .int .i64 a0_1]] w fun e w' => e = .returned (.bool r) ∧ Below w.heap.size w w' := by
 have hu25 := Tryz.underlying25
 have HB := zsB w
 have H : (if a0_0 = 2 then (some false) else (if a0_0 = 0 then (some false) else (if a0_0 = 1 then (some (a0_1 != 0)) else (some true)))) = some r := h
 clear h
 by_cases c2 : a0_0 = 2
 ·rw [if_pos c2] at H
  have c2b0 := beq_iff_eq.mpr c2
  have c2b1 := bne_eq_false_iff_eq.mpr c2
  clear c2
  obtain rfl := zso H
  go_enter Tryz.func117, Tryz.ntmps117
  go_wp2_with (first | ((with_reducible refine gate_dst (N := 1) rfl ?_); refine bxe (N := 1) (cs := #[.int .i64 a0_0, .int .i64 a0_1]) (t := 25) ?_; intro gb173 hg w3 hbox hb; have BK173 := Sd.mk hbox; have GW173 := bge w hg; have GE173 := bge w hg; replace HB := bsq w hb; clear hb hbox hg; have hcz4_0 := bz0 BK173; have hcz4_1 := bz1 BK173; have hfz4_0 := blk_frozen BK173.out 0; have hfz4_1 := blk_frozen BK173.out 1))
  go_ret
  exact ⟨fe, bbl⟩
 ·rw [if_neg c2] at H
  have c2b0 := beq_eq_false_iff_ne.mpr c2
  have c2b1 := bne_iff_ne.mpr c2
  by_cases c5 : a0_0 = 0
  ·rw [if_pos c5] at H
   have c5b0 := beq_iff_eq.mpr c5
   have c5b1 := bne_eq_false_iff_eq.mpr c5
   clear c5
   obtain rfl := zso H
   go_enter Tryz.func117, Tryz.ntmps117
   go_wp2_with (first | ((with_reducible refine gate_dst (N := 1) rfl ?_); refine bxe (N := 1) (cs := #[.int .i64 a0_0, .int .i64 a0_1]) (t := 25) ?_; intro gb173 hg w6 hbox hb; have BK173 := Sd.mk hbox; have GW173 := bge w hg; have GE173 := bge w hg; replace HB := bsq w hb; clear hb hbox hg; have hcz7_0 := bz0 BK173; have hcz7_1 := bz1 BK173; have hfz7_0 := blk_frozen BK173.out 0; have hfz7_1 := blk_frozen BK173.out 1))
   go_ret
   exact ⟨fe, bbl⟩
  ·rw [if_neg c5] at H
   have c5b0 := beq_eq_false_iff_ne.mpr c5
   have c5b1 := bne_iff_ne.mpr c5
   by_cases c8 : a0_0 = 1
   ·rw [if_pos c8] at H
    have c8b0 := beq_iff_eq.mpr c8
    have c8b1 := bne_eq_false_iff_eq.mpr c8
    clear c8
    obtain rfl := zso H
    go_enter Tryz.func117, Tryz.ntmps117
    go_wp2_with (first | ((with_reducible refine gate_dst (N := 1) rfl ?_); refine bxe (N := 1) (cs := #[.int .i64 a0_0, .int .i64 a0_1]) (t := 25) ?_; intro gb173 hg w9 hbox hb; have BK173 := Sd.mk hbox; have GW173 := bge w hg; have GE173 := bge w hg; replace HB := bsq w hb; clear hb hbox hg; have hcz10_0 := bz0 BK173; have hcz10_1 := bz1 BK173; have hfz10_0 := blk_frozen BK173.out 0; have hfz10_1 := blk_frozen BK173.out 1))
    go_ret
    exact ⟨fe, bbl⟩
   ·rw [if_neg c8] at H
    have c8b0 := beq_eq_false_iff_ne.mpr c8
    have c8b1 := bne_iff_ne.mpr c8
    obtain rfl := zso H
    go_enter Tryz.func117, Tryz.ntmps117
    go_wp2_with (first | ((with_reducible refine gate_dst (N := 1) rfl ?_); refine bxe (N := 1) (cs := #[.int .i64 a0_0, .int .i64 a0_1]) (t := 25) ?_; intro gb173 hg w11 hbox hb; have BK173 := Sd.mk hbox; have GW173 := bge w hg; have GE173 := bge w hg; replace HB := bsq w hb; clear hb hbox hg; have hcz12_0 := bz0 BK173; have hcz12_1 := bz1 BK173; have hfz12_0 := blk_frozen BK173.out 0; have hfz12_1 := blk_frozen BK173.out 1))
    go_ret
    exact ⟨fe, bbl⟩
def v_ones_1.f (a0 : Int) : Option (Int) := some (wrap64 (-a0))
theorem v_ones_1.calls (a0 : Int) (r : Int) (w : World) (h : v_ones_1.f a0 = some r) :
  Calls Tryz.prog 119 #[.int .i64 a0] w fun e w' => e = .returned (.int .i64 r) ∧ Drawn0 w w' := by
 have H : (some (wrap64 (-a0))) = some r := h
 clear h
 obtain rfl := zso H
 go_enter Tryz.func119, Tryz.ntmps119
 go_wp2
 go_ret
 exact ⟨ae, zdr⟩
def v_ones_2.f (a0 : Int) : Option (Int) := some (mx a0 (wrap64 (-a0)))
theorem v_ones_2.calls (a0 : Int) (r : Int) (w : World) (h : v_ones_2.f a0 = some r) :
  Calls Tryz.prog 120 #[.int .i64 a0] w fun e w' => e = .returned (.int .i64 r) ∧ Below w.heap.size w w' := by
 have HB := zsB w
 have H : (some (mx a0 (wrap64 (-a0)))) = some r := h
 clear h
 obtain ⟨ji2, hji2⟩ : ∃ j_ : Int, (mx a0 (wrap64 (-a0))) = j_ := ⟨_, rfl⟩
 replace H : (some ji2) = some r := by first | (rw [hji2] at H; exact H) | (simp only [hji2] at H ⊢; exact H)
 have hji2_ : (if a0 < (wrap64 (-a0)) then (wrap64 (-a0)) else a0) = ji2 := hji2
 obtain rfl := zso H
 go_enter Tryz.func120, Tryz.ntmps120
 go_wp2
 go_ret
 exact ⟨by first | rfl | (simp [errW_none, errW_some] <;> rfl) | (simp only [← hji2]; first | rfl | (simp [errW_none, errW_some] <;> rfl)) | (simp [*, errW_none, errW_some] <;> rfl), bbl⟩
def v_ones_3.f (a0_0 : Int) (a0_1 : Int) : Option (Int × Int) := (v_finite.f a0_0 a0_1).bind fun t176 => (if t176 = true then ((v_Num.f (wrap64 (a0_1 - (Int.tmod (wrap64 ((Int.tmod a0_1 1000) + 1000)) 1000)))).bind fun bt177 => (some (bt177.1, bt177.2))) else (some (a0_0, a0_1)))
theorem v_ones_3.calls (a0_0 : Int) (a0_1 : Int) (r1 : Int) (r2 : Int) (w : World) (h : v_ones_3.f a0_0 a0_1 = some (r1, r2)) :
  Calls Tryz.prog 121 #[.agg #[.int .i64 a0_0, .int .i64 a0_1]] w fun e w' => e = .returned (.agg #[.int .i64 r1, .int .i64 r2]) ∧ Below w.heap.size w w' := by
 have hu25 := Tryz.underlying25
 have HB := zsB w
 have H : ((v_finite.f a0_0 a0_1).bind fun t176 => (if t176 = true then ((v_Num.f (wrap64 (a0_1 - (Int.tmod (wrap64 ((Int.tmod a0_1 1000) + 1000)) 1000)))).bind fun bt177 => (some (bt177.1, bt177.2))) else (some (a0_0, a0_1)))) = some (r1, r2) := h
 clear h
 obtain ⟨t176, A2, H⟩ := bnd H
 by_cases c3 : t176 = true
 ·subst c3
  replace H := iT H
  obtain ⟨⟨t177, t178⟩, A4, H⟩ := bnd H
  replace H : (some (t177, t178)) = some (r1, r2) := H
  obtain ⟨rfl, rfl⟩ := zs2 H
  go_enter Tryz.func121, Tryz.ntmps121
  go_wp2_with (first | ((with_reducible refine gate_dst (N := 1) rfl ?_); refine bxe (N := 1) (cs := #[.int .i64 a0_0, .int .i64 a0_1]) (t := 25) ?_; intro gb174 hg w5 hbox hb; have BK174 := Sd.mk hbox; have GW174 := bge w hg; have GE174 := bge w hg; replace HB := bsq w hb; clear hb hbox hg) | ((with_reducible refine gate_dst (N := 2) rfl ?_); refine bxe (N := 2) (cs := #[.int .i64 0, .int .i64 0]) (t := 25) ?_; intro gb175 hg w6 hbox hb; have BK175 := Sd.mk hbox; have GW175 := bge w hg; have GE175 := bge w hg; have NB174_175 := bnl BK174 hg; have NB175_174 := bng BK174 hg; replace BK174 := bkb BK174 hb; replace HB := bsq w hb; clear hb hbox hg; have hnb7 := NB174_175.out; have hnc7 := NB175_174.out; have hcz8_0 := bz0 BK174; have hcz8_1 := bz1 BK174; have hfz8_0 := blk_frozen BK174.out 0; have hfz8_1 := blk_frozen BK174.out 1) | ((with_reducible refine gate_callee (f := 122) rfl ?_); refine goesL_ (some 4) rfl rfl Tryz.func122 (by kernel_rfl) rfl #[.agg #[.int .i64 a0_0, .int .i64 a0_1]] rfl ma ?_; (with_reducible refine (v_finite.calls a0_0 a0_1 true _ A2.out).mono ?_); rintro e w9 ⟨rfl, hb⟩; refine ⟨_, rfl, ?_⟩; replace BK174 := bkb BK174 hb; replace BK175 := bkb BK175 hb; replace HB := bsq w hb; (try clear hb); have hcz10_0 := bz0 BK174; have hcz10_1 := bz1 BK174; have hfz10_0 := blk_frozen BK174.out 0; have hfz10_1 := blk_frozen BK174.out 1) | ((with_reducible refine gate_callee (f := 76) rfl ?_); refine goesL_ (some 13) rfl rfl Tryz.func76 (by kernel_rfl) rfl #[.int .i64 (wrap64 (a0_1 - (Int.tmod (wrap64 ((Int.tmod a0_1 1000) + 1000)) 1000)))] rfl ma ?_; (with_reducible refine (v_Num.calls (wrap64 (a0_1 - (Int.tmod (wrap64 ((Int.tmod a0_1 1000) + 1000)) 1000))) t177 t178 _ A4.out).mono ?_); rintro e w11 ⟨rfl, hb⟩; refine ⟨_, rfl, ?_⟩; replace BK174 := bkb BK174 hb; replace BK175 := bkb BK175 hb; replace HB := bsq w hb; (try clear hb); have hcz12_0 := bz0 BK175; have hcz12_1 := bz1 BK175; have hfz12_0 := blk_frozen BK175.out 0; have hfz12_1 := blk_frozen BK175.out 1))
  refine bodyPost_ret (results_cell_row rfl _ _ gb175 25 #[.int .i64 t177, .int .i64 t178] (0, 0) _ rfl (by (repeat refine dw ?_); refine blk_put (cs := #[.int .i64 t177, .int .i64 0]) ?_ 1 _ rfl; (repeat refine dw ?_); refine blk_put (cs := #[.int .i64 0, .int .i64 0]) ?_ 0 _ rfl; (repeat refine dw ?_); exact BK175.out) Tryz.underlying25 rfl (by kernel_rfl)) rfl ?_
  exact ⟨fe, bbl⟩
 ·replace c3 := znf c3
  subst c3
  replace H := iF H
  obtain ⟨rfl, rfl⟩ := zs2 H
  go_enter Tryz.func121, Tryz.ntmps121
  go_wp2_with (first | ((with_reducible refine gate_dst (N := 1) rfl ?_); refine bxe (N := 1) (cs := #[.int .i64 a0_0, .int .i64 a0_1]) (t := 25) ?_; intro gb174 hg w13 hbox hb; have BK174 := Sd.mk hbox; have GW174 := bge w hg; have GE174 := bge w hg; replace HB := bsq w hb; clear hb hbox hg) | ((with_reducible refine gate_dst (N := 2) rfl ?_); refine bxe (N := 2) (cs := #[.int .i64 0, .int .i64 0]) (t := 25) ?_; intro gb175 hg w14 hbox hb; have BK175 := Sd.mk hbox; have GW175 := bge w hg; have GE175 := bge w hg; have NB174_175 := bnl BK174 hg; have NB175_174 := bng BK174 hg; replace BK174 := bkb BK174 hb; replace HB := bsq w hb; clear hb hbox hg; have hnb15 := NB174_175.out; have hnc15 := NB175_174.out; have hcz16_0 := bz0 BK174; have hcz16_1 := bz1 BK174; have hfz16_0 := blk_frozen BK174.out 0; have hfz16_1 := blk_frozen BK174.out 1) | ((with_reducible refine gate_callee (f := 122) rfl ?_); refine goesL_ (some 4) rfl rfl Tryz.func122 (by kernel_rfl) rfl #[.agg #[.int .i64 a0_0, .int .i64 a0_1]] rfl ma ?_; (with_reducible refine (v_finite.calls a0_0 a0_1 false _ A2.out).mono ?_); rintro e w17 ⟨rfl, hb⟩; refine ⟨_, rfl, ?_⟩; replace BK174 := bkb BK174 hb; replace BK175 := bkb BK175 hb; replace HB := bsq w hb; (try clear hb); have hcz18_0 := bz0 BK174; have hcz18_1 := bz1 BK174; have hfz18_0 := blk_frozen BK174.out 0; have hfz18_1 := blk_frozen BK174.out 1; have hcz19_0 := bz0 BK175; have hcz19_1 := bz1 BK175; have hfz19_0 := blk_frozen BK175.out 0; have hfz19_1 := blk_frozen BK175.out 1))
  refine bodyPost_ret (results_cell_row rfl _ _ gb175 25 #[.int .i64 a0_0, .int .i64 a0_1] (0, 0) _ rfl (by (repeat refine dw ?_); refine blk_put (cs := #[.int .i64 a0_0, .int .i64 0]) ?_ 1 _ rfl; (repeat refine dw ?_); refine blk_put (cs := #[.int .i64 0, .int .i64 0]) ?_ 0 _ rfl; (repeat refine dw ?_); exact BK175.out) Tryz.underlying25 rfl (by kernel_rfl)) rfl ?_
  exact ⟨fe, bbl⟩
def v_Truth.f (a0 : Bool) : Option (Int × Int) := if a0 = true then ((v_Num.f 1000).bind fun bt180 => (some (bt180.1, bt180.2))) else ((v_Num.f 0).bind fun bt182 => (some (bt182.1, bt182.2)))
theorem v_Truth.calls (a0 : Bool) (r1 : Int) (r2 : Int) (w : World) (h : v_Truth.f a0 = some (r1, r2)) :
  Calls Tryz.prog 124 #[.bool a0] w fun e w' => e = .returned (.agg #[.int .i64 r1, .int .i64 r2]) ∧ Below w.heap.size w w' := by
 have hu25 := Tryz.underlying25
 have HB := zsB w
 have H : (if a0 = true then ((v_Num.f 1000).bind fun bt180 => (some (bt180.1, bt180.2))) else ((v_Num.f 0).bind fun bt182 => (some (bt182.1, bt182.2)))) = some (r1, r2) := h
 clear h
 by_cases c2 : a0 = true
 ·subst c2
  replace H := iT H
  obtain ⟨⟨t180, t181⟩, A3, H⟩ := bnd H
  replace H : (some (t180, t181)) = some (r1, r2) := H
  obtain ⟨rfl, rfl⟩ := zs2 H
  go_enter Tryz.func124, Tryz.ntmps124
  go_wp2_with (first | ((with_reducible refine gate_dst (N := 2) rfl ?_); refine bxe (N := 2) (cs := #[.int .i64 0, .int .i64 0]) (t := 25) ?_; intro gb179 hg w4 hbox hb; have BK179 := Sd.mk hbox; have GW179 := bge w hg; have GE179 := bge w hg; replace HB := bsq w hb; clear hb hbox hg) | ((with_reducible refine gate_callee (f := 76) rfl ?_); refine goesL_ (some 4) rfl rfl Tryz.func76 (by kernel_rfl) rfl #[.int .i64 1000] rfl ma ?_; (with_reducible refine (v_Num.calls 1000 t180 t181 _ A3.out).mono ?_); rintro e w5 ⟨rfl, hb⟩; refine ⟨_, rfl, ?_⟩; replace BK179 := bkb BK179 hb; replace HB := bsq w hb; (try clear hb); have hcz6_0 := bz0 BK179; have hcz6_1 := bz1 BK179; have hfz6_0 := blk_frozen BK179.out 0; have hfz6_1 := blk_frozen BK179.out 1))
  refine bodyPost_ret (results_cell_row rfl _ _ gb179 25 #[.int .i64 t180, .int .i64 t181] (0, 0) _ rfl (by (repeat refine dw ?_); refine blk_put (cs := #[.int .i64 t180, .int .i64 0]) ?_ 1 _ rfl; (repeat refine dw ?_); refine blk_put (cs := #[.int .i64 0, .int .i64 0]) ?_ 0 _ rfl; (repeat refine dw ?_); exact BK179.out) Tryz.underlying25 rfl (by kernel_rfl)) rfl ?_
  exact ⟨fe, bbl⟩
 ·replace c2 := znf c2
  subst c2
  replace H := iF H
  obtain ⟨⟨t182, t183⟩, A7, H⟩ := bnd H
  replace H : (some (t182, t183)) = some (r1, r2) := H
  obtain ⟨rfl, rfl⟩ := zs2 H
  go_enter Tryz.func124, Tryz.ntmps124
  go_wp2_with (first | ((with_reducible refine gate_dst (N := 2) rfl ?_); refine bxe (N := 2) (cs := #[.int .i64 0, .int .i64 0]) (t := 25) ?_; intro gb179 hg w8 hbox hb; have BK179 := Sd.mk hbox; have GW179 := bge w hg; have GE179 := bge w hg; replace HB := bsq w hb; clear hb hbox hg) | ((with_reducible refine gate_callee (f := 76) rfl ?_); refine goesL_ (some 5) rfl rfl Tryz.func76 (by kernel_rfl) rfl #[.int .i64 0] rfl ma ?_; (with_reducible refine (v_Num.calls 0 t182 t183 _ A7.out).mono ?_); rintro e w9 ⟨rfl, hb⟩; refine ⟨_, rfl, ?_⟩; replace BK179 := bkb BK179 hb; replace HB := bsq w hb; (try clear hb); have hcz10_0 := bz0 BK179; have hcz10_1 := bz1 BK179; have hfz10_0 := blk_frozen BK179.out 0; have hfz10_1 := blk_frozen BK179.out 1))
  refine bodyPost_ret (results_cell_row rfl _ _ gb179 25 #[.int .i64 t182, .int .i64 t183] (0, 0) _ rfl (by (repeat refine dw ?_); refine blk_put (cs := #[.int .i64 t182, .int .i64 0]) ?_ 1 _ rfl; (repeat refine dw ?_); refine blk_put (cs := #[.int .i64 0, .int .i64 0]) ?_ 0 _ rfl; (repeat refine dw ?_); exact BK179.out) Tryz.underlying25 rfl (by kernel_rfl)) rfl ?_
  exact ⟨fe, bbl⟩
def v_ones_4.f (a0_0 : Int) (a0_1 : Int) : Option (Int × Int) := if a0_0 = 2 then (some (a0_0, a0_1)) else ((v_True.f a0_0 a0_1).bind fun t186 => ((v_Truth.f (!t186)).bind fun bt187 => (some (bt187.1, bt187.2))))
theorem v_ones_4.calls (a0_0 : Int) (a0_1 : Int) (r1 : Int) (r2 : Int) (w : World) (h : v_ones_4.f a0_0 a0_1 = some (r1, r2)) :
  Calls Tryz.prog 123 #[.agg #[.int .i64 a0_0, .int .i64 a0_1]] w fun e w' => e = .returned (.agg #[.int .i64 r1, .int .i64 r2]) ∧ Below w.heap.size w w' := by
 have hu25 := Tryz.underlying25
 have HB := zsB w
 have H : (if a0_0 = 2 then (some (a0_0, a0_1)) else ((v_True.f a0_0 a0_1).bind fun t186 => ((v_Truth.f (!t186)).bind fun bt187 => (some (bt187.1, bt187.2))))) = some (r1, r2) := h
 clear h
 by_cases c2 : a0_0 = 2
 ·rw [if_pos c2] at H
  have c2b0 := beq_iff_eq.mpr c2
  have c2b1 := bne_eq_false_iff_eq.mpr c2
  clear c2
  obtain ⟨rfl, rfl⟩ := zs2 H
  go_enter Tryz.func123, Tryz.ntmps123
  go_wp2_with (first | ((with_reducible refine gate_dst (N := 1) rfl ?_); refine bxe (N := 1) (cs := #[.int .i64 a0_0, .int .i64 a0_1]) (t := 25) ?_; intro gb184 hg w3 hbox hb; have BK184 := Sd.mk hbox; have GW184 := bge w hg; have GE184 := bge w hg; replace HB := bsq w hb; clear hb hbox hg) | ((with_reducible refine gate_dst (N := 2) rfl ?_); refine bxe (N := 2) (cs := #[.int .i64 0, .int .i64 0]) (t := 25) ?_; intro gb185 hg w4 hbox hb; have BK185 := Sd.mk hbox; have GW185 := bge w hg; have GE185 := bge w hg; have NB184_185 := bnl BK184 hg; have NB185_184 := bng BK184 hg; replace BK184 := bkb BK184 hb; replace HB := bsq w hb; clear hb hbox hg; have hnb5 := NB184_185.out; have hnc5 := NB185_184.out; have hcz6_0 := bz0 BK184; have hcz6_1 := bz1 BK184; have hfz6_0 := blk_frozen BK184.out 0; have hfz6_1 := blk_frozen BK184.out 1; have hcz7_0 := bz0 BK185; have hcz7_1 := bz1 BK185; have hfz7_0 := blk_frozen BK185.out 0; have hfz7_1 := blk_frozen BK185.out 1))
  refine bodyPost_ret (results_cell_row rfl _ _ gb185 25 #[.int .i64 a0_0, .int .i64 a0_1] (0, 0) _ rfl (by (repeat refine dw ?_); refine blk_put (cs := #[.int .i64 a0_0, .int .i64 0]) ?_ 1 _ rfl; (repeat refine dw ?_); refine blk_put (cs := #[.int .i64 0, .int .i64 0]) ?_ 0 _ rfl; (repeat refine dw ?_); exact BK185.out) Tryz.underlying25 rfl (by kernel_rfl)) rfl ?_
  exact ⟨fe, bbl⟩
 ·rw [if_neg c2] at H
  have c2b0 := beq_eq_false_iff_ne.mpr c2
  have c2b1 := bne_iff_ne.mpr c2
  obtain ⟨t186, A8, H⟩ := bnd H
  obtain ⟨⟨t187, t188⟩, A9, H⟩ := bnd H
  replace H : (some (t187, t188)) = some (r1, r2) := H
  obtain ⟨rfl, rfl⟩ := zs2 H
  go_enter Tryz.func123, Tryz.ntmps123
  go_wp2_with (first | ((with_reducible refine gate_dst (N := 1) rfl ?_); refine bxe (N := 1) (cs := #[.int .i64 a0_0, .int .i64 a0_1]) (t := 25) ?_; intro gb184 hg w10 hbox hb; have BK184 := Sd.mk hbox; have GW184 := bge w hg; have GE184 := bge w hg; replace HB := bsq w hb; clear hb hbox hg) | ((with_reducible refine gate_dst (N := 2) rfl ?_); refine bxe (N := 2) (cs := #[.int .i64 0, .int .i64 0]) (t := 25) ?_; intro gb185 hg w11 hbox hb; have BK185 := Sd.mk hbox; have GW185 := bge w hg; have GE185 := bge w hg; have NB184_185 := bnl BK184 hg; have NB185_184 := bng BK184 hg; replace BK184 := bkb BK184 hb; replace HB := bsq w hb; clear hb hbox hg; have hnb12 := NB184_185.out; have hnc12 := NB185_184.out; have hcz13_0 := bz0 BK184; have hcz13_1 := bz1 BK184; have hfz13_0 := blk_frozen BK184.out 0; have hfz13_1 := blk_frozen BK184.out 1) | ((with_reducible refine gate_callee (f := 117) rfl ?_); refine goesL_ (some 8) rfl rfl Tryz.func117 (by kernel_rfl) rfl #[.agg #[.int .i64 a0_0, .int .i64 a0_1]] rfl ma ?_; (with_reducible refine (v_True.calls a0_0 a0_1 t186 _ A8.out).mono ?_); rintro e w14 ⟨rfl, hb⟩; refine ⟨_, rfl, ?_⟩; replace BK184 := bkb BK184 hb; replace BK185 := bkb BK185 hb; replace HB := bsq w hb; (try clear hb)) | ((with_reducible refine gate_callee (f := 124) rfl ?_); refine goesL_ (some 10) rfl rfl Tryz.func124 (by kernel_rfl) rfl #[.bool (!t186)] rfl ma ?_; (with_reducible refine (v_Truth.calls (!t186) t187 t188 _ A9.out).mono ?_); rintro e w15 ⟨rfl, hb⟩; refine ⟨_, rfl, ?_⟩; replace BK184 := bkb BK184 hb; replace BK185 := bkb BK185 hb; replace HB := bsq w hb; (try clear hb); have hcz16_0 := bz0 BK185; have hcz16_1 := bz1 BK185; have hfz16_0 := blk_frozen BK185.out 0; have hfz16_1 := blk_frozen BK185.out 1))
  refine bodyPost_ret (results_cell_row rfl _ _ gb185 25 #[.int .i64 t187, .int .i64 t188] (0, 0) _ rfl (by (repeat refine dw ?_); refine blk_put (cs := #[.int .i64 t187, .int .i64 0]) ?_ 1 _ rfl; (repeat refine dw ?_); refine blk_put (cs := #[.int .i64 0, .int .i64 0]) ?_ 0 _ rfl; (repeat refine dw ?_); exact BK185.out) Tryz.underlying25 rfl (by kernel_rfl)) rfl ?_
  exact ⟨fe, bbl⟩
def v_twos_1.f (k : Nat) (a0_0 : Int) (a0_1 : Int) (a1_0 : Int) (a1_1 : Int) : Option (Int × Int) := (v_rank.f a1_0 a1_1).bind fun t192 => ((v_back.f (wrap64 (-t192))).bind fun bt193 => ((v_add.f k a0_0 a0_1 bt193.1 bt193.2).bind fun bt195 => (some (bt195.1, bt195.2))))
theorem v_twos_1.calls (k : Nat) (a0_0 : Int) (a0_1 : Int) (a1_0 : Int) (a1_1 : Int) (r1 : Int) (r2 : Int) (w : World) (h : v_twos_1.f k a0_0 a0_1 a1_0 a1_1 = some (r1, r2)) :
  Calls Tryz.prog 128 #[.agg #[.int .i64 a0_0, .int .i64 a0_1], .agg #[.int .i64 a1_0, .int .i64 a1_1]] w fun e w' => e = .returned (.agg #[.int .i64 r1, .int .i64 r2]) ∧ Below w.heap.size w w' := by
 have hu25 := Tryz.underlying25
 have HB := zsB w
 have H : ((v_rank.f a1_0 a1_1).bind fun t192 => ((v_back.f (wrap64 (-t192))).bind fun bt193 => ((v_add.f k a0_0 a0_1 bt193.1 bt193.2).bind fun bt195 => (some (bt195.1, bt195.2))))) = some (r1, r2) := h
 clear h
 obtain ⟨t192, A3, H⟩ := bnd H
 obtain ⟨⟨t193, t194⟩, A4, H⟩ := bnd H
 replace H : ((v_add.f k a0_0 a0_1 t193 t194).bind fun bt195 => (some (bt195.1, bt195.2))) = some (r1, r2) := H
 obtain ⟨⟨t195, t196⟩, A5, H⟩ := bnd H
 replace H : (some (t195, t196)) = some (r1, r2) := H
 obtain ⟨rfl, rfl⟩ := zs2 H
 go_enter Tryz.func128, Tryz.ntmps128
 try go_wp2_with (first | ((with_reducible refine gate_dst (N := 2) rfl ?_); refine bxe (N := 2) (cs := #[.int .i64 a0_0, .int .i64 a0_1]) (t := 25) ?_; intro gb189 hg w6 hbox hb; have BK189 := Sd.mk hbox; have GW189 := bge w hg; replace HB := bsq w hb; clear hb hbox hg) | ((with_reducible refine gate_dst (N := 3) rfl ?_); refine bxe (N := 3) (cs := #[.int .i64 a1_0, .int .i64 a1_1]) (t := 25) ?_; intro gb190 hg w7 hbox hb; have BK190 := Sd.mk hbox; have GW190 := bge w hg; replace BK189 := bkb BK189 hb; replace HB := bsq w hb; clear hb hbox hg) | ((with_reducible refine gate_dst (N := 4) rfl ?_); refine bxe (N := 4) (cs := #[.int .i64 0, .int .i64 0]) (t := 25) ?_; intro gb191 hg w8 hbox hb; have BK191 := Sd.mk hbox; have GW191 := bge w hg; have NB189_191 := bnl BK189 hg; have NB191_189 := bng BK189 hg; have NB190_191 := bnl BK190 hg; have NB191_190 := bng BK190 hg; replace BK189 := bkb BK189 hb; replace BK190 := bkb BK190 hb; replace HB := bsq w hb; clear hb hbox hg))
 replace BK189 := Sd.mk (blk_drew BK189.out)
 replace BK190 := Sd.mk (blk_drew BK190.out)
 replace BK191 := Sd.mk (blk_drew BK191.out)
 replace HB := Sd.mk (bd1 HB.out)
 refine start_ (n := 7) (S := fun w' => w'.cell? ⟨gb189, 0, none⟩ = some (.int .i64 a0_0) ∧ w'.cell? ⟨gb189, 1, none⟩ = some (.int .i64 a0_1) ∧ w'.cell? ⟨gb190, 0, none⟩ = some (.int .i64 a1_0) ∧ w'.cell? ⟨gb190, 1, none⟩ = some (.int .i64 a1_1)) (ds := []) #[false, false, false, false, false, false, false] (by kernel_rfl) rfl rfl ⟨(blk_cell BK189.out 0).trans rfl, (blk_cell BK189.out 1).trans rfl, (blk_cell BK190.out 0).trans rfl, (blk_cell BK190.out 1).trans rfl⟩ (fun hHeld => ?_)
 generalize w8.drew = w9 at BK189 BK190 BK191 HB hHeld ⊢
 refine take_ (i := 0) (N := some 5) (v := ?_) (a' := ?_) #[true, false, false, false, false, false, false] rfl rfl (by kernel_rfl) (fun _ _ _ h => h) (Or.inl ⟨by rfl, ?_⟩) hHeld ?_ ?_
 rotate_left
 ·rintro w' ⟨s0, s1, s2, s3⟩
  go_simp
  with_reducible rfl
 rotate_left
 ·simp only [zpz]
  rfl
 refine take_ (i := 1) (N := some 6) (v := ?_) (a' := ?_) #[true, true, false, false, false, false, false] rfl rfl (by kernel_rfl) (fun _ _ _ h => h) (Or.inl ⟨by rfl, ?_⟩) hHeld ?_ ?_
 rotate_left
 ·rintro w' ⟨s0, s1, s2, s3⟩
  go_simp
  with_reducible rfl
 rotate_left
 ·simp only [zpz]
  rfl
 refine one_ (i := 2) (N := some 7) #[true, true, true, false, false, false, false] rfl rfl (by kernel_rfl) (by decide) (fun K hK => ?_)
 refine goes_ Tryz.func130 (by kernel_rfl) rfl #[.agg #[.int .i64 a1_0, .int .i64 a1_1]] (by rfl) rfl rfl ma ?_
 with_reducible refine (v_rank.calls a1_0 a1_1 t192 _ A3.out).mono ?_
 rintro e w10 ⟨rfl, hb⟩
 refine ⟨_, rfl, ?_⟩
 replace BK189 := bkb BK189 hb
 replace BK190 := bkb BK190 hb
 replace BK191 := bkb BK191 hb
 replace HB := bsq w hb
 (try clear hb)
 refine hK.out _ _ ⟨(blk_cell BK189.out 0).trans rfl, (blk_cell BK189.out 1).trans rfl, (blk_cell BK190.out 0).trans rfl, (blk_cell BK190.out 1).trans rfl⟩ (fun hHeld => ?_)
 clear hK K
 refine norm_ (a' := ?_) ?_ ?_
 rotate_left
 ·show Act.put _ (some 7) _ = _
  simp only [zpz]
  rfl
 refine pure_ (i := 3) (N := some 8) (v := ?_) (a' := ?_) #[true, true, true, true, false, false, false] rfl rfl (by kernel_rfl) (fun _ _ _ h => h) (Or.inl ⟨by rfl, ?_⟩) ?_ ?_
 rotate_left
 ·intro w'
  go_simp
  with_reducible rfl
 rotate_left
 ·simp only [zpz]
  rfl
 refine one_ (i := 4) (N := some 9) #[true, true, true, true, true, false, false] rfl rfl (by kernel_rfl) (by decide) (fun K hK => ?_)
 refine goes_ Tryz.func129 (by kernel_rfl) rfl #[.int .i64 (wrap64 (-t192))] (by rfl) rfl rfl ma ?_
 with_reducible refine (v_back.calls (wrap64 (-t192)) t193 t194 _ A4.out).mono ?_
 rintro e w11 ⟨rfl, hb⟩
 refine ⟨_, rfl, ?_⟩
 replace BK189 := bkb BK189 hb
 replace BK190 := bkb BK190 hb
 replace BK191 := bkb BK191 hb
 replace HB := bsq w hb
 (try clear hb)
 refine hK.out _ _ ⟨(blk_cell BK189.out 0).trans rfl, (blk_cell BK189.out 1).trans rfl, (blk_cell BK190.out 0).trans rfl, (blk_cell BK190.out 1).trans rfl⟩ (fun hHeld => ?_)
 clear hK K
 refine norm_ (a' := ?_) ?_ ?_
 rotate_left
 ·show Act.put _ (some 9) _ = _
  simp only [zpz]
  rfl
 refine one_ (i := 5) (N := some 10) #[true, true, true, true, true, true, false] rfl rfl (by kernel_rfl) (by decide) (fun K hK => ?_)
 refine goes_ Tryz.func127 (by kernel_rfl) rfl #[.agg #[.int .i64 a0_0, .int .i64 a0_1], .agg #[.int .i64 t193, .int .i64 t194]] (by rfl) rfl rfl ma ?_
 with_reducible refine (v_add.calls k a0_0 a0_1 t193 t194 t195 t196 _ A5.out).mono ?_
 rintro e w12 ⟨rfl, hb⟩
 refine ⟨_, rfl, ?_⟩
 replace BK189 := bkb BK189 hb
 replace BK190 := bkb BK190 hb
 replace BK191 := bkb BK191 hb
 replace HB := bsq w hb
 (try clear hb)
 refine hK.out _ _ ⟨(blk_cell BK189.out 0).trans rfl, (blk_cell BK189.out 1).trans rfl, (blk_cell BK190.out 0).trans rfl, (blk_cell BK190.out 1).trans rfl⟩ (fun hHeld => ?_)
 clear hK K
 refine norm_ (a' := ?_) ?_ ?_
 rotate_left
 ·show Act.put _ (some 10) _ = _
  simp only [zpz]
  rfl
 refine one_ (i := 6) (N := none) #[true, true, true, true, true, true, true] rfl rfl (by kernel_rfl) (by decide) (fun K hK => ?_)
 have hs13 : w12.cell? ⟨gb191, 0, none⟩ = some (.int .i64 0) := (blk_cell BK191.out 0).trans rfl
 have hfs13 := blk_frozen BK191.out 0
 have hns13_0 := NB189_191.out
 have hns13_1 := NB190_191.out
 have hms13_0 := NB191_189.out
 have hms13_1 := NB191_190.out
 have hs14 : w12.cell? ⟨gb191, 1, none⟩ = some (.int .i64 0) := (blk_cell BK191.out 1).trans rfl
 have hfs14 := blk_frozen BK191.out 1
 have hns14_0 := NB189_191.out
 have hns14_1 := NB190_191.out
 have hms14_0 := NB191_189.out
 have hms14_1 := NB191_190.out
 refine skip_ (w1 := ?_) (by rfl) rfl ?_ ?_
 rotate_left
 ·go_simp
  rfl
 refine hK.out _ _ ⟨((cell_far (p := ⟨gb191, _, none⟩) NB189_191.out _).trans (((cell_far (p := ⟨gb191, _, none⟩) NB189_191.out _).trans (hHeld.1)))), ((cell_far (p := ⟨gb191, _, none⟩) NB189_191.out _).trans (((cell_far (p := ⟨gb191, _, none⟩) NB189_191.out _).trans (hHeld.2.1)))), ((cell_far (p := ⟨gb191, _, none⟩) NB190_191.out _).trans (((cell_far (p := ⟨gb191, _, none⟩) NB190_191.out _).trans (hHeld.2.2.1)))), ((cell_far (p := ⟨gb191, _, none⟩) NB190_191.out _).trans (((cell_far (p := ⟨gb191, _, none⟩) NB190_191.out _).trans (hHeld.2.2.2))))⟩ (fun hHeld => ?_)
 clear hK K
 refine done_ (by kernel_rfl) ?_
 try go_wp2
 refine bodyPost_ret (results_cell_row rfl _ _ gb191 25 #[.int .i64 t195, .int .i64 t196] (0, 0) _ rfl (by (repeat refine dw ?_); refine blk_put (cs := #[.int .i64 t195, .int .i64 0]) ?_ 1 _ rfl; (repeat refine dw ?_); refine blk_put (cs := #[.int .i64 0, .int .i64 0]) ?_ 0 _ rfl; (repeat refine dw ?_); exact BK191.out) Tryz.underlying25 rfl (by kernel_rfl)) rfl ?_
 exact ⟨fe, bbl⟩
def v_twos_2.f (a0 : Int) (a1 : Int) : Option (Bool) := some (a0 == a1)
theorem v_twos_2.calls (a0 : Int) (a1 : Int) (r : Bool) (w : World) (h : v_twos_2.f a0 a1 = some r) :
  Calls Tryz.prog 134 #[.int .i64 a0, .int .i64 a1] w fun e w' => e = .returned (.bool r) ∧ Drawn0 w w' := by
 have H : (some (a0 == a1)) = some r := h
 clear h
 obtain rfl := zso H
 go_enter Tryz.func134, Tryz.ntmps134
 go_wp2
 go_ret
 exact ⟨ae, zdr⟩
def v_twos_3.f (a0 : Int) (a1 : Int) : Option (Bool) := some (a0 != a1)
theorem v_twos_3.calls (a0 : Int) (a1 : Int) (r : Bool) (w : World) (h : v_twos_3.f a0 a1 = some r) :
  Calls Tryz.prog 135 #[.int .i64 a0, .int .i64 a1] w fun e w' => e = .returned (.bool r) ∧ Drawn0 w w' := by
 have H : (some (a0 != a1)) = some r := h
 clear h
 obtain rfl := zso H
 go_enter Tryz.func135, Tryz.ntmps135
 go_wp2
 go_ret
 exact ⟨ae, zdr⟩
def v_twos_4.f (a0 : Int) (a1 : Int) : Option (Bool) := some (decide (a0 < a1))
theorem v_twos_4.calls (a0 : Int) (a1 : Int) (r : Bool) (w : World) (h : v_twos_4.f a0 a1 = some r) :
  Calls Tryz.prog 136 #[.int .i64 a0, .int .i64 a1] w fun e w' => e = .returned (.bool r) ∧ Drawn0 w w' := by
 have H : (some (decide (a0 < a1))) = some r := h
 clear h
 obtain rfl := zso H
 go_enter Tryz.func136, Tryz.ntmps136
 go_wp2
 go_ret
 exact ⟨ae, zdr⟩
def v_twos_5.f (a0 : Int) (a1 : Int) : Option (Bool) := some (decide (a0 ≤ a1))
theorem v_twos_5.calls (a0 : Int) (a1 : Int) (r : Bool) (w : World) (h : v_twos_5.f a0 a1 = some r) :
  Calls Tryz.prog 137 #[.int .i64 a0, .int .i64 a1] w fun e w' => e = .returned (.bool r) ∧ Drawn0 w w' := by
 have H : (some (decide (a0 ≤ a1))) = some r := h
 clear h
 obtain rfl := zso H
 go_enter Tryz.func137, Tryz.ntmps137
 go_wp2
 go_ret
 exact ⟨ae, zdr⟩
def v_twos_6.f (a0 : Int) (a1 : Int) : Option (Bool) := some (decide (a0 > a1))
theorem v_twos_6.calls (a0 : Int) (a1 : Int) (r : Bool) (w : World) (h : v_twos_6.f a0 a1 = some r) :
  Calls Tryz.prog 138 #[.int .i64 a0, .int .i64 a1] w fun e w' => e = .returned (.bool r) ∧ Drawn0 w w' := by
 have H : (some (decide (a0 > a1))) = some r := h
 clear h
 obtain rfl := zso H
 go_enter Tryz.func138, Tryz.ntmps138
 go_wp2
 go_ret
 exact ⟨ae, zdr⟩
def v_twos_7.f (a0 : Int) (a1 : Int) : Option (Bool) := some (decide (a0 ≥ a1))
theorem v_twos_7.calls (a0 : Int) (a1 : Int) (r : Bool) (w : World) (h : v_twos_7.f a0 a1 = some r) :
  Calls Tryz.prog 139 #[.int .i64 a0, .int .i64 a1] w fun e w' => e = .returned (.bool r) ∧ Drawn0 w w' := by
 have H : (some (decide (a0 ≥ a1))) = some r := h
 clear h
 obtain rfl := zso H
 go_enter Tryz.func139, Tryz.ntmps139
 go_wp2
 go_ret
 exact ⟨ae, zdr⟩
def v_twos_8.f (a0_0 : Int) (a0_1 : Int) (a1_0 : Int) (a1_1 : Int) : Option (Int × Int) := (v_True.f a0_0 a0_1).bind fun t200 => (if t200 = true then ((v_True.f a1_0 a1_1).bind fun t201 => ((v_Truth.f t201).bind fun bt202 => (some (bt202.1, bt202.2)))) else ((v_Truth.f false).bind fun bt204 => (some (bt204.1, bt204.2))))
theorem v_twos_8.calls (a0_0 : Int) (a0_1 : Int) (a1_0 : Int) (a1_1 : Int) (r1 : Int) (r2 : Int) (w : World) (h : v_twos_8.f a0_0 a0_1 a1_0 a1_1 = some (r1, r2)) :
  Calls Tryz.prog 140 #[.agg #[.int .i64 a0_0, .int .i64 a0_1], .agg #[.int .i64 a1_0, .int .i64 a1_1]] w fun e w' => e = .returned (.agg #[.int .i64 r1, .int .i64 r2]) ∧ Below w.heap.size w w' := by
 have hu25 := Tryz.underlying25
 have HB := zsB w
 have H : ((v_True.f a0_0 a0_1).bind fun t200 => (if t200 = true then ((v_True.f a1_0 a1_1).bind fun t201 => ((v_Truth.f t201).bind fun bt202 => (some (bt202.1, bt202.2)))) else ((v_Truth.f false).bind fun bt204 => (some (bt204.1, bt204.2))))) = some (r1, r2) := h
 clear h
 obtain ⟨t200, A3, H⟩ := bnd H
 by_cases c4 : t200 = true
 ·subst c4
  replace H := iT H
  obtain ⟨t201, A5, H⟩ := bnd H
  obtain ⟨⟨t202, t203⟩, A6, H⟩ := bnd H
  replace H : (some (t202, t203)) = some (r1, r2) := H
  obtain ⟨rfl, rfl⟩ := zs2 H
  go_enter Tryz.func140, Tryz.ntmps140
  go_wp2_with (first | ((with_reducible refine gate_dst (N := 2) rfl ?_); refine bxe (N := 2) (cs := #[.int .i64 a0_0, .int .i64 a0_1]) (t := 25) ?_; intro gb197 hg w7 hbox hb; have BK197 := Sd.mk hbox; have GW197 := bge w hg; have GE197 := bge w hg; replace HB := bsq w hb; clear hb hbox hg) | ((with_reducible refine gate_dst (N := 3) rfl ?_); refine bxe (N := 3) (cs := #[.int .i64 a1_0, .int .i64 a1_1]) (t := 25) ?_; intro gb198 hg w8 hbox hb; have BK198 := Sd.mk hbox; have GW198 := bge w hg; have GE198 := bge w hg; have NB197_198 := bnl BK197 hg; have NB198_197 := bng BK197 hg; replace BK197 := bkb BK197 hb; replace HB := bsq w hb; clear hb hbox hg) | ((with_reducible refine gate_dst (N := 4) rfl ?_); refine bxe (N := 4) (cs := #[.int .i64 0, .int .i64 0]) (t := 25) ?_; intro gb199 hg w9 hbox hb; have BK199 := Sd.mk hbox; have GW199 := bge w hg; have GE199 := bge w hg; have NB197_199 := bnl BK197 hg; have NB199_197 := bng BK197 hg; have NB198_199 := bnl BK198 hg; have NB199_198 := bng BK198 hg; replace BK197 := bkb BK197 hb; replace BK198 := bkb BK198 hb; replace HB := bsq w hb; clear hb hbox hg; have hnb10 := NB197_198.out; have hnc10 := NB198_197.out; have hnb11 := NB197_199.out; have hnc11 := NB199_197.out; have hcz12_0 := bz0 BK197; have hcz12_1 := bz1 BK197; have hfz12_0 := blk_frozen BK197.out 0; have hfz12_1 := blk_frozen BK197.out 1) | ((with_reducible refine gate_callee (f := 117) rfl ?_); refine goesL_ (some 6) rfl rfl Tryz.func117 (by kernel_rfl) rfl #[.agg #[.int .i64 a0_0, .int .i64 a0_1]] rfl ma ?_; (with_reducible refine (v_True.calls a0_0 a0_1 true _ A3.out).mono ?_); rintro e w13 ⟨rfl, hb⟩; refine ⟨_, rfl, ?_⟩; replace BK197 := bkb BK197 hb; replace BK198 := bkb BK198 hb; replace BK199 := bkb BK199 hb; replace HB := bsq w hb; (try clear hb); have hnb14 := NB198_199.out; have hnc14 := NB199_198.out; have hcz15_0 := bz0 BK198; have hcz15_1 := bz1 BK198; have hfz15_0 := blk_frozen BK198.out 0; have hfz15_1 := blk_frozen BK198.out 1) | (go_at_call 117; (with_reducible refine (v_True.calls a1_0 a1_1 t201 _ A5.out).mono ?_); rintro e w16 ⟨rfl, hb⟩; replace BK197 := bkb BK197 hb; replace BK198 := bkb BK198 hb; replace BK199 := bkb BK199 hb; replace HB := bsq w hb; (try clear hb)) | ((with_reducible refine gate_callee (f := 124) rfl ?_); refine goesL_ (some 11) rfl rfl Tryz.func124 (by kernel_rfl) rfl #[.bool t201] rfl ma ?_; (with_reducible refine (v_Truth.calls t201 t202 t203 _ A6.out).mono ?_); rintro e w17 ⟨rfl, hb⟩; refine ⟨_, rfl, ?_⟩; replace BK197 := bkb BK197 hb; replace BK198 := bkb BK198 hb; replace BK199 := bkb BK199 hb; replace HB := bsq w hb; (try clear hb); have hcz18_0 := bz0 BK199; have hcz18_1 := bz1 BK199; have hfz18_0 := blk_frozen BK199.out 0; have hfz18_1 := blk_frozen BK199.out 1))
  refine bodyPost_ret (results_cell_row rfl _ _ gb199 25 #[.int .i64 t202, .int .i64 t203] (0, 0) _ rfl (by (repeat refine dw ?_); refine blk_put (cs := #[.int .i64 t202, .int .i64 0]) ?_ 1 _ rfl; (repeat refine dw ?_); refine blk_put (cs := #[.int .i64 0, .int .i64 0]) ?_ 0 _ rfl; (repeat refine dw ?_); exact BK199.out) Tryz.underlying25 rfl (by kernel_rfl)) rfl ?_
  exact ⟨fe, bbl⟩
 ·replace c4 := znf c4
  subst c4
  replace H := iF H
  obtain ⟨⟨t204, t205⟩, A19, H⟩ := bnd H
  replace H : (some (t204, t205)) = some (r1, r2) := H
  obtain ⟨rfl, rfl⟩ := zs2 H
  go_enter Tryz.func140, Tryz.ntmps140
  go_wp2_with (first | ((with_reducible refine gate_dst (N := 2) rfl ?_); refine bxe (N := 2) (cs := #[.int .i64 a0_0, .int .i64 a0_1]) (t := 25) ?_; intro gb197 hg w20 hbox hb; have BK197 := Sd.mk hbox; have GW197 := bge w hg; have GE197 := bge w hg; replace HB := bsq w hb; clear hb hbox hg) | ((with_reducible refine gate_dst (N := 3) rfl ?_); refine bxe (N := 3) (cs := #[.int .i64 a1_0, .int .i64 a1_1]) (t := 25) ?_; intro gb198 hg w21 hbox hb; have BK198 := Sd.mk hbox; have GW198 := bge w hg; have GE198 := bge w hg; have NB197_198 := bnl BK197 hg; have NB198_197 := bng BK197 hg; replace BK197 := bkb BK197 hb; replace HB := bsq w hb; clear hb hbox hg) | ((with_reducible refine gate_dst (N := 4) rfl ?_); refine bxe (N := 4) (cs := #[.int .i64 0, .int .i64 0]) (t := 25) ?_; intro gb199 hg w22 hbox hb; have BK199 := Sd.mk hbox; have GW199 := bge w hg; have GE199 := bge w hg; have NB197_199 := bnl BK197 hg; have NB199_197 := bng BK197 hg; have NB198_199 := bnl BK198 hg; have NB199_198 := bng BK198 hg; replace BK197 := bkb BK197 hb; replace BK198 := bkb BK198 hb; replace HB := bsq w hb; clear hb hbox hg; have hnb23 := NB197_198.out; have hnc23 := NB198_197.out; have hnb24 := NB197_199.out; have hnc24 := NB199_197.out; have hcz25_0 := bz0 BK197; have hcz25_1 := bz1 BK197; have hfz25_0 := blk_frozen BK197.out 0; have hfz25_1 := blk_frozen BK197.out 1) | ((with_reducible refine gate_callee (f := 117) rfl ?_); refine goesL_ (some 6) rfl rfl Tryz.func117 (by kernel_rfl) rfl #[.agg #[.int .i64 a0_0, .int .i64 a0_1]] rfl ma ?_; (with_reducible refine (v_True.calls a0_0 a0_1 false _ A3.out).mono ?_); rintro e w26 ⟨rfl, hb⟩; refine ⟨_, rfl, ?_⟩; replace BK197 := bkb BK197 hb; replace BK198 := bkb BK198 hb; replace BK199 := bkb BK199 hb; replace HB := bsq w hb; (try clear hb)) | ((with_reducible refine gate_callee (f := 124) rfl ?_); refine goesL_ (some 11) rfl rfl Tryz.func124 (by kernel_rfl) rfl #[.bool false] rfl ma ?_; (with_reducible refine (v_Truth.calls false t204 t205 _ A19.out).mono ?_); rintro e w27 ⟨rfl, hb⟩; refine ⟨_, rfl, ?_⟩; replace BK197 := bkb BK197 hb; replace BK198 := bkb BK198 hb; replace BK199 := bkb BK199 hb; replace HB := bsq w hb; (try clear hb); have hnb28 := NB199_198.out; have hnc28 := NB198_199.out; have hcz29_0 := bz0 BK199; have hcz29_1 := bz1 BK199; have hfz29_0 := blk_frozen BK199.out 0; have hfz29_1 := blk_frozen BK199.out 1))
  refine bodyPost_ret (results_cell_row rfl _ _ gb199 25 #[.int .i64 t204, .int .i64 t205] (0, 0) _ rfl (by (repeat refine dw ?_); refine blk_put (cs := #[.int .i64 t204, .int .i64 0]) ?_ 1 _ rfl; (repeat refine dw ?_); refine blk_put (cs := #[.int .i64 0, .int .i64 0]) ?_ 0 _ rfl; (repeat refine dw ?_); exact BK199.out) Tryz.underlying25 rfl (by kernel_rfl)) rfl ?_
  exact ⟨fe, bbl⟩
def v_twos_9.f (a0_0 : Int) (a0_1 : Int) (a1_0 : Int) (a1_1 : Int) : Option (Int × Int) := (v_True.f a0_0 a0_1).bind fun t209 => (if t209 = true then ((v_Truth.f true).bind fun bt210 => (some (bt210.1, bt210.2))) else ((v_True.f a1_0 a1_1).bind fun t212 => ((v_Truth.f t212).bind fun bt213 => (some (bt213.1, bt213.2)))))
theorem v_twos_9.calls (a0_0 : Int) (a0_1 : Int) (a1_0 : Int) (a1_1 : Int) (r1 : Int) (r2 : Int) (w : World) (h : v_twos_9.f a0_0 a0_1 a1_0 a1_1 = some (r1, r2)) :
  Calls Tryz.prog 141 #[.agg #[.int .i64 a0_0, .int .i64 a0_1], .agg #[.int .i64 a1_0, .int .i64 a1_1]] w fun e w' => e = .returned (.agg #[.int .i64 r1, .int .i64 r2]) ∧ Below w.heap.size w w' := by
 have hu25 := Tryz.underlying25
 have HB := zsB w
 have H : ((v_True.f a0_0 a0_1).bind fun t209 => (if t209 = true then ((v_Truth.f true).bind fun bt210 => (some (bt210.1, bt210.2))) else ((v_True.f a1_0 a1_1).bind fun t212 => ((v_Truth.f t212).bind fun bt213 => (some (bt213.1, bt213.2)))))) = some (r1, r2) := h
 clear h
 obtain ⟨t209, A3, H⟩ := bnd H
 by_cases c4 : t209 = true
 ·subst c4
  replace H := iT H
  obtain ⟨⟨t210, t211⟩, A5, H⟩ := bnd H
  replace H : (some (t210, t211)) = some (r1, r2) := H
  obtain ⟨rfl, rfl⟩ := zs2 H
  go_enter Tryz.func141, Tryz.ntmps141
  go_wp2_with (first | ((with_reducible refine gate_dst (N := 2) rfl ?_); refine bxe (N := 2) (cs := #[.int .i64 a0_0, .int .i64 a0_1]) (t := 25) ?_; intro gb206 hg w6 hbox hb; have BK206 := Sd.mk hbox; have GW206 := bge w hg; have GE206 := bge w hg; replace HB := bsq w hb; clear hb hbox hg) | ((with_reducible refine gate_dst (N := 3) rfl ?_); refine bxe (N := 3) (cs := #[.int .i64 a1_0, .int .i64 a1_1]) (t := 25) ?_; intro gb207 hg w7 hbox hb; have BK207 := Sd.mk hbox; have GW207 := bge w hg; have GE207 := bge w hg; have NB206_207 := bnl BK206 hg; have NB207_206 := bng BK206 hg; replace BK206 := bkb BK206 hb; replace HB := bsq w hb; clear hb hbox hg) | ((with_reducible refine gate_dst (N := 4) rfl ?_); refine bxe (N := 4) (cs := #[.int .i64 0, .int .i64 0]) (t := 25) ?_; intro gb208 hg w8 hbox hb; have BK208 := Sd.mk hbox; have GW208 := bge w hg; have GE208 := bge w hg; have NB206_208 := bnl BK206 hg; have NB208_206 := bng BK206 hg; have NB207_208 := bnl BK207 hg; have NB208_207 := bng BK207 hg; replace BK206 := bkb BK206 hb; replace BK207 := bkb BK207 hb; replace HB := bsq w hb; clear hb hbox hg; have hnb9 := NB206_207.out; have hnc9 := NB207_206.out; have hnb10 := NB206_208.out; have hnc10 := NB208_206.out; have hcz11_0 := bz0 BK206; have hcz11_1 := bz1 BK206; have hfz11_0 := blk_frozen BK206.out 0; have hfz11_1 := blk_frozen BK206.out 1) | ((with_reducible refine gate_callee (f := 117) rfl ?_); refine goesL_ (some 6) rfl rfl Tryz.func117 (by kernel_rfl) rfl #[.agg #[.int .i64 a0_0, .int .i64 a0_1]] rfl ma ?_; (with_reducible refine (v_True.calls a0_0 a0_1 true _ A3.out).mono ?_); rintro e w12 ⟨rfl, hb⟩; refine ⟨_, rfl, ?_⟩; replace BK206 := bkb BK206 hb; replace BK207 := bkb BK207 hb; replace BK208 := bkb BK208 hb; replace HB := bsq w hb; (try clear hb)) | ((with_reducible refine gate_callee (f := 124) rfl ?_); refine goesL_ (some 11) rfl rfl Tryz.func124 (by kernel_rfl) rfl #[.bool true] rfl ma ?_; (with_reducible refine (v_Truth.calls true t210 t211 _ A5.out).mono ?_); rintro e w13 ⟨rfl, hb⟩; refine ⟨_, rfl, ?_⟩; replace BK206 := bkb BK206 hb; replace BK207 := bkb BK207 hb; replace BK208 := bkb BK208 hb; replace HB := bsq w hb; (try clear hb); have hnb14 := NB208_207.out; have hnc14 := NB207_208.out; have hcz15_0 := bz0 BK208; have hcz15_1 := bz1 BK208; have hfz15_0 := blk_frozen BK208.out 0; have hfz15_1 := blk_frozen BK208.out 1))
  refine bodyPost_ret (results_cell_row rfl _ _ gb208 25 #[.int .i64 t210, .int .i64 t211] (0, 0) _ rfl (by (repeat refine dw ?_); refine blk_put (cs := #[.int .i64 t210, .int .i64 0]) ?_ 1 _ rfl; (repeat refine dw ?_); refine blk_put (cs := #[.int .i64 0, .int .i64 0]) ?_ 0 _ rfl; (repeat refine dw ?_); exact BK208.out) Tryz.underlying25 rfl (by kernel_rfl)) rfl ?_
  exact ⟨fe, bbl⟩
 ·replace c4 := znf c4
  subst c4
  replace H := iF H
  obtain ⟨t212, A16, H⟩ := bnd H
  obtain ⟨⟨t213, t214⟩, A17, H⟩ := bnd H
  replace H : (some (t213, t214)) = some (r1, r2) := H
  obtain ⟨rfl, rfl⟩ := zs2 H
  go_enter Tryz.func141, Tryz.ntmps141
  go_wp2_with (first | ((with_reducible refine gate_dst (N := 2) rfl ?_); refine bxe (N := 2) (cs := #[.int .i64 a0_0, .int .i64 a0_1]) (t := 25) ?_; intro gb206 hg w18 hbox hb; have BK206 := Sd.mk hbox; have GW206 := bge w hg; have GE206 := bge w hg; replace HB := bsq w hb; clear hb hbox hg) | ((with_reducible refine gate_dst (N := 3) rfl ?_); refine bxe (N := 3) (cs := #[.int .i64 a1_0, .int .i64 a1_1]) (t := 25) ?_; intro gb207 hg w19 hbox hb; have BK207 := Sd.mk hbox; have GW207 := bge w hg; have GE207 := bge w hg; have NB206_207 := bnl BK206 hg; have NB207_206 := bng BK206 hg; replace BK206 := bkb BK206 hb; replace HB := bsq w hb; clear hb hbox hg) | ((with_reducible refine gate_dst (N := 4) rfl ?_); refine bxe (N := 4) (cs := #[.int .i64 0, .int .i64 0]) (t := 25) ?_; intro gb208 hg w20 hbox hb; have BK208 := Sd.mk hbox; have GW208 := bge w hg; have GE208 := bge w hg; have NB206_208 := bnl BK206 hg; have NB208_206 := bng BK206 hg; have NB207_208 := bnl BK207 hg; have NB208_207 := bng BK207 hg; replace BK206 := bkb BK206 hb; replace BK207 := bkb BK207 hb; replace HB := bsq w hb; clear hb hbox hg; have hnb21 := NB206_207.out; have hnc21 := NB207_206.out; have hnb22 := NB206_208.out; have hnc22 := NB208_206.out; have hcz23_0 := bz0 BK206; have hcz23_1 := bz1 BK206; have hfz23_0 := blk_frozen BK206.out 0; have hfz23_1 := blk_frozen BK206.out 1) | ((with_reducible refine gate_callee (f := 117) rfl ?_); refine goesL_ (some 6) rfl rfl Tryz.func117 (by kernel_rfl) rfl #[.agg #[.int .i64 a0_0, .int .i64 a0_1]] rfl ma ?_; (with_reducible refine (v_True.calls a0_0 a0_1 false _ A3.out).mono ?_); rintro e w24 ⟨rfl, hb⟩; refine ⟨_, rfl, ?_⟩; replace BK206 := bkb BK206 hb; replace BK207 := bkb BK207 hb; replace BK208 := bkb BK208 hb; replace HB := bsq w hb; (try clear hb); have hnb25 := NB207_208.out; have hnc25 := NB208_207.out; have hcz26_0 := bz0 BK207; have hcz26_1 := bz1 BK207; have hfz26_0 := blk_frozen BK207.out 0; have hfz26_1 := blk_frozen BK207.out 1) | (go_at_call 117; (with_reducible refine (v_True.calls a1_0 a1_1 t212 _ A16.out).mono ?_); rintro e w27 ⟨rfl, hb⟩; replace BK206 := bkb BK206 hb; replace BK207 := bkb BK207 hb; replace BK208 := bkb BK208 hb; replace HB := bsq w hb; (try clear hb)) | ((with_reducible refine gate_callee (f := 124) rfl ?_); refine goesL_ (some 11) rfl rfl Tryz.func124 (by kernel_rfl) rfl #[.bool t212] rfl ma ?_; (with_reducible refine (v_Truth.calls t212 t213 t214 _ A17.out).mono ?_); rintro e w28 ⟨rfl, hb⟩; refine ⟨_, rfl, ?_⟩; replace BK206 := bkb BK206 hb; replace BK207 := bkb BK207 hb; replace BK208 := bkb BK208 hb; replace HB := bsq w hb; (try clear hb); have hcz29_0 := bz0 BK208; have hcz29_1 := bz1 BK208; have hfz29_0 := blk_frozen BK208.out 0; have hfz29_1 := blk_frozen BK208.out 1))
  refine bodyPost_ret (results_cell_row rfl _ _ gb208 25 #[.int .i64 t213, .int .i64 t214] (0, 0) _ rfl (by (repeat refine dw ?_); refine blk_put (cs := #[.int .i64 t213, .int .i64 0]) ?_ 1 _ rfl; (repeat refine dw ?_); refine blk_put (cs := #[.int .i64 0, .int .i64 0]) ?_ 0 _ rfl; (repeat refine dw ?_); exact BK208.out) Tryz.underlying25 rfl (by kernel_rfl)) rfl ?_
  exact ⟨fe, bbl⟩
def v_is.f (a0_0 : Int) (a0_1 : Int) : Option (Bool) := if a0_0 = 1 then (if a0_1 ≥ (-1000000000000000) then (some (decide (a0_1 ≤ 1000000000000000))) else (some false)) else (if a0_0 = 2 then (some (a0_1 == 0)) else (if a0_0 = 3 then (some (a0_1 == 0)) else (if a0_0 = 4 then (some (a0_1 == 0)) else (if a0_0 = 5 then (some (a0_1 == 0)) else (some false)))))
theorem v_is.calls (a0_0 : Int) (a0_1 : Int) (r : Bool) (w : World) (h : v_is.f a0_0 a0_1 = some r) :
  Calls Tryz.prog 75 #[.agg #[.int .i64 a0_0, .int .i64 a0_1]] w fun e w' => e = .returned (.bool r) ∧ Below w.heap.size w w' := by
 have hu25 := Tryz.underlying25
 have HB := zsB w
 have H : (if a0_0 = 1 then (if a0_1 ≥ (-1000000000000000) then (some (decide (a0_1 ≤ 1000000000000000))) else (some false)) else (if a0_0 = 2 then (some (a0_1 == 0)) else (if a0_0 = 3 then (some (a0_1 == 0)) else (if a0_0 = 4 then (some (a0_1 == 0)) else (if a0_0 = 5 then (some (a0_1 == 0)) else (some false)))))) = some r := h
 clear h
 by_cases c2 : a0_0 = 1
 ·rw [if_pos c2] at H
  have c2b0 := beq_iff_eq.mpr c2
  have c2b1 := bne_eq_false_iff_eq.mpr c2
  clear c2
  by_cases c3 : a0_1 ≥ (-1000000000000000)
  ·rw [if_pos c3] at H
   have c3b0 : decide ((-1000000000000000) ≤ a0_1) = true := decide_eq_true c3
   clear c3
   obtain rfl := zso H
   go_enter Tryz.func75, Tryz.ntmps75
   go_wp2_with (first | ((with_reducible refine gate_dst (N := 1) rfl ?_); refine bxe (N := 1) (cs := #[.int .i64 a0_0, .int .i64 a0_1]) (t := 25) ?_; intro gb215 hg w4 hbox hb; have BK215 := Sd.mk hbox; have GW215 := bge w hg; have GE215 := bge w hg; replace HB := bsq w hb; clear hb hbox hg; have hcz5_0 := bz0 BK215; have hcz5_1 := bz1 BK215; have hfz5_0 := blk_frozen BK215.out 0; have hfz5_1 := blk_frozen BK215.out 1))
   go_ret
   exact ⟨fe, bbl⟩
  ·rw [if_neg c3] at H
   have c3b0 : decide ((-1000000000000000) ≤ a0_1) = false := decide_eq_false c3
   clear c3
   obtain rfl := zso H
   go_enter Tryz.func75, Tryz.ntmps75
   go_wp2_with (first | ((with_reducible refine gate_dst (N := 1) rfl ?_); refine bxe (N := 1) (cs := #[.int .i64 a0_0, .int .i64 a0_1]) (t := 25) ?_; intro gb215 hg w6 hbox hb; have BK215 := Sd.mk hbox; have GW215 := bge w hg; have GE215 := bge w hg; replace HB := bsq w hb; clear hb hbox hg; have hcz7_0 := bz0 BK215; have hcz7_1 := bz1 BK215; have hfz7_0 := blk_frozen BK215.out 0; have hfz7_1 := blk_frozen BK215.out 1))
   go_ret
   exact ⟨fe, bbl⟩
 ·rw [if_neg c2] at H
  have c2b0 := beq_eq_false_iff_ne.mpr c2
  have c2b1 := bne_iff_ne.mpr c2
  by_cases c8 : a0_0 = 2
  ·rw [if_pos c8] at H
   have c8b0 := beq_iff_eq.mpr c8
   have c8b1 := bne_eq_false_iff_eq.mpr c8
   clear c8
   obtain rfl := zso H
   go_enter Tryz.func75, Tryz.ntmps75
   go_wp2_with (first | ((with_reducible refine gate_dst (N := 1) rfl ?_); refine bxe (N := 1) (cs := #[.int .i64 a0_0, .int .i64 a0_1]) (t := 25) ?_; intro gb215 hg w9 hbox hb; have BK215 := Sd.mk hbox; have GW215 := bge w hg; have GE215 := bge w hg; replace HB := bsq w hb; clear hb hbox hg; have hcz10_0 := bz0 BK215; have hcz10_1 := bz1 BK215; have hfz10_0 := blk_frozen BK215.out 0; have hfz10_1 := blk_frozen BK215.out 1))
   go_ret
   exact ⟨fe, bbl⟩
  ·rw [if_neg c8] at H
   have c8b0 := beq_eq_false_iff_ne.mpr c8
   have c8b1 := bne_iff_ne.mpr c8
   by_cases c11 : a0_0 = 3
   ·rw [if_pos c11] at H
    have c11b0 := beq_iff_eq.mpr c11
    have c11b1 := bne_eq_false_iff_eq.mpr c11
    clear c11
    obtain rfl := zso H
    go_enter Tryz.func75, Tryz.ntmps75
    go_wp2_with (first | ((with_reducible refine gate_dst (N := 1) rfl ?_); refine bxe (N := 1) (cs := #[.int .i64 a0_0, .int .i64 a0_1]) (t := 25) ?_; intro gb215 hg w12 hbox hb; have BK215 := Sd.mk hbox; have GW215 := bge w hg; have GE215 := bge w hg; replace HB := bsq w hb; clear hb hbox hg; have hcz13_0 := bz0 BK215; have hcz13_1 := bz1 BK215; have hfz13_0 := blk_frozen BK215.out 0; have hfz13_1 := blk_frozen BK215.out 1))
    go_ret
    exact ⟨fe, bbl⟩
   ·rw [if_neg c11] at H
    have c11b0 := beq_eq_false_iff_ne.mpr c11
    have c11b1 := bne_iff_ne.mpr c11
    by_cases c14 : a0_0 = 4
    ·rw [if_pos c14] at H
     have c14b0 := beq_iff_eq.mpr c14
     have c14b1 := bne_eq_false_iff_eq.mpr c14
     clear c14
     obtain rfl := zso H
     go_enter Tryz.func75, Tryz.ntmps75
     go_wp2_with (first | ((with_reducible refine gate_dst (N := 1) rfl ?_); refine bxe (N := 1) (cs := #[.int .i64 a0_0, .int .i64 a0_1]) (t := 25) ?_; intro gb215 hg w15 hbox hb; have BK215 := Sd.mk hbox; have GW215 := bge w hg; have GE215 := bge w hg; replace HB := bsq w hb; clear hb hbox hg; have hcz16_0 := bz0 BK215; have hcz16_1 := bz1 BK215; have hfz16_0 := blk_frozen BK215.out 0; have hfz16_1 := blk_frozen BK215.out 1))
     go_ret
     exact ⟨fe, bbl⟩
    ·rw [if_neg c14] at H
     have c14b0 := beq_eq_false_iff_ne.mpr c14
     have c14b1 := bne_iff_ne.mpr c14
     by_cases c17 : a0_0 = 5
     ·rw [if_pos c17] at H
      have c17b0 := beq_iff_eq.mpr c17
      have c17b1 := bne_eq_false_iff_eq.mpr c17
      clear c17
      obtain rfl := zso H
      go_enter Tryz.func75, Tryz.ntmps75
      go_wp2_with (first | ((with_reducible refine gate_dst (N := 1) rfl ?_); refine bxe (N := 1) (cs := #[.int .i64 a0_0, .int .i64 a0_1]) (t := 25) ?_; intro gb215 hg w18 hbox hb; have BK215 := Sd.mk hbox; have GW215 := bge w hg; have GE215 := bge w hg; replace HB := bsq w hb; clear hb hbox hg; have hcz19_0 := bz0 BK215; have hcz19_1 := bz1 BK215; have hfz19_0 := blk_frozen BK215.out 0; have hfz19_1 := blk_frozen BK215.out 1))
      go_ret
      exact ⟨fe, bbl⟩
     ·rw [if_neg c17] at H
      have c17b0 := beq_eq_false_iff_ne.mpr c17
      have c17b1 := bne_iff_ne.mpr c17
      obtain rfl := zso H
      go_enter Tryz.func75, Tryz.ntmps75
      go_wp2_with (first | ((with_reducible refine gate_dst (N := 1) rfl ?_); refine bxe (N := 1) (cs := #[.int .i64 a0_0, .int .i64 a0_1]) (t := 25) ?_; intro gb215 hg w20 hbox hb; have BK215 := Sd.mk hbox; have GW215 := bge w hg; have GE215 := bge w hg; replace HB := bsq w hb; clear hb hbox hg; have hcz21_0 := bz0 BK215; have hcz21_1 := bz1 BK215; have hfz21_0 := blk_frozen BK215.out 0; have hfz21_1 := blk_frozen BK215.out 1))
      go_ret
      exact ⟨fe, bbl⟩
def v_Check_1.f (a0_0 : Int) (a0_1 : Int) : Option (Bool) := (v_is.f a0_0 a0_1).bind fun t217 => (some (!t217))
theorem v_Check_1.calls (a0_0 : Int) (a0_1 : Int) (r : Bool) (w : World) (h : v_Check_1.f a0_0 a0_1 = some r) :
  Calls Tryz.prog 74 #[.agg #[.int .i64 a0_0, .int .i64 a0_1]] w fun e w' => e = .returned (.bool r) ∧ Below w.heap.size w w' := by
 have hu25 := Tryz.underlying25
 have HB := zsB w
 have H : ((v_is.f a0_0 a0_1).bind fun t217 => (some (!t217))) = some r := h
 clear h
 obtain ⟨t217, A2, H⟩ := bnd H
 obtain rfl := zso H
 go_enter Tryz.func74, Tryz.ntmps74
 go_wp2_with (first | ((with_reducible refine gate_dst (N := 1) rfl ?_); refine bxe (N := 1) (cs := #[.int .i64 a0_0, .int .i64 a0_1]) (t := 25) ?_; intro gb216 hg w3 hbox hb; have BK216 := Sd.mk hbox; have GW216 := bge w hg; replace HB := bsq w hb; clear hb hbox hg; have hcz4_0 := bz0 BK216; have hcz4_1 := bz1 BK216; have hfz4_0 := blk_frozen BK216.out 0; have hfz4_1 := blk_frozen BK216.out 1) | ((with_reducible refine gate_callee (f := 75) rfl ?_); refine goesL_ (some 4) rfl rfl Tryz.func75 (by kernel_rfl) rfl #[.agg #[.int .i64 a0_0, .int .i64 a0_1]] rfl ma ?_; (with_reducible refine (v_is.calls a0_0 a0_1 t217 _ A2.out).mono ?_); rintro e w5 ⟨rfl, hb⟩; refine ⟨_, rfl, ?_⟩; replace BK216 := bkb BK216 hb; replace HB := bsq w hb; (try clear hb)))
 go_ret
 exact ⟨fe, bbl⟩
def r8_Is.f (a0_0 : Int) (a0_1 : Int) : Option (Bool) := if a0_0 = 1 then (if a0_1 ≥ (-1000000000000000) then (some (decide (a0_1 ≤ 1000000000000000))) else (some false)) else (if a0_0 ≥ 2 then (if a0_0 ≤ 5 then (some (a0_1 == 0)) else (some false)) else (some false))
theorem r8_Is.calls (a0_0 : Int) (a0_1 : Int) (r : Bool) (w : World) (h : r8_Is.f a0_0 a0_1 = some r) :
  Calls Tryz.prog 18 #[.agg #[.int .i64 a0_0, .int .i64 a0_1]] w fun e w' => e = .returned (.bool r) ∧ Below w.heap.size w w' := by
 have hu25 := Tryz.underlying25
 have HB := zsB w
 have H : (if a0_0 = 1 then (if a0_1 ≥ (-1000000000000000) then (some (decide (a0_1 ≤ 1000000000000000))) else (some false)) else (if a0_0 ≥ 2 then (if a0_0 ≤ 5 then (some (a0_1 == 0)) else (some false)) else (some false))) = some r := h
 clear h
 by_cases c2 : a0_0 = 1
 ·rw [if_pos c2] at H
  have c2b0 := beq_iff_eq.mpr c2
  have c2b1 := bne_eq_false_iff_eq.mpr c2
  clear c2
  by_cases c3 : a0_1 ≥ (-1000000000000000)
  ·rw [if_pos c3] at H
   have c3b0 : decide ((-1000000000000000) ≤ a0_1) = true := decide_eq_true c3
   clear c3
   obtain rfl := zso H
   go_enter Tryz.func18, Tryz.ntmps18
   go_wp2_with (first | ((with_reducible refine gate_dst (N := 1) rfl ?_); refine bxe (N := 1) (cs := #[.int .i64 a0_0, .int .i64 a0_1]) (t := 25) ?_; intro gb218 hg w4 hbox hb; have BK218 := Sd.mk hbox; have GW218 := bge w hg; have GE218 := bge w hg; replace HB := bsq w hb; clear hb hbox hg; have hcz5_0 := bz0 BK218; have hcz5_1 := bz1 BK218; have hfz5_0 := blk_frozen BK218.out 0; have hfz5_1 := blk_frozen BK218.out 1))
   go_ret
   exact ⟨fe, bbl⟩
  ·rw [if_neg c3] at H
   have c3b0 : decide ((-1000000000000000) ≤ a0_1) = false := decide_eq_false c3
   clear c3
   obtain rfl := zso H
   go_enter Tryz.func18, Tryz.ntmps18
   go_wp2_with (first | ((with_reducible refine gate_dst (N := 1) rfl ?_); refine bxe (N := 1) (cs := #[.int .i64 a0_0, .int .i64 a0_1]) (t := 25) ?_; intro gb218 hg w6 hbox hb; have BK218 := Sd.mk hbox; have GW218 := bge w hg; have GE218 := bge w hg; replace HB := bsq w hb; clear hb hbox hg; have hcz7_0 := bz0 BK218; have hcz7_1 := bz1 BK218; have hfz7_0 := blk_frozen BK218.out 0; have hfz7_1 := blk_frozen BK218.out 1))
   go_ret
   exact ⟨fe, bbl⟩
 ·rw [if_neg c2] at H
  have c2b0 := beq_eq_false_iff_ne.mpr c2
  have c2b1 := bne_iff_ne.mpr c2
  by_cases c8 : a0_0 ≥ 2
  ·rw [if_pos c8] at H
   have c8b0 : decide (2 ≤ a0_0) = true := decide_eq_true c8
   clear c8
   by_cases c9 : a0_0 ≤ 5
   ·rw [if_pos c9] at H
    have c9b0 : decide (a0_0 ≤ 5) = true := decide_eq_true c9
    clear c9
    obtain rfl := zso H
    go_enter Tryz.func18, Tryz.ntmps18
    go_wp2_with (first | ((with_reducible refine gate_dst (N := 1) rfl ?_); refine bxe (N := 1) (cs := #[.int .i64 a0_0, .int .i64 a0_1]) (t := 25) ?_; intro gb218 hg w10 hbox hb; have BK218 := Sd.mk hbox; have GW218 := bge w hg; have GE218 := bge w hg; replace HB := bsq w hb; clear hb hbox hg; have hcz11_0 := bz0 BK218; have hcz11_1 := bz1 BK218; have hfz11_0 := blk_frozen BK218.out 0; have hfz11_1 := blk_frozen BK218.out 1))
    go_ret
    exact ⟨fe, bbl⟩
   ·rw [if_neg c9] at H
    have c9b0 : decide (a0_0 ≤ 5) = false := decide_eq_false c9
    clear c9
    obtain rfl := zso H
    go_enter Tryz.func18, Tryz.ntmps18
    go_wp2_with (first | ((with_reducible refine gate_dst (N := 1) rfl ?_); refine bxe (N := 1) (cs := #[.int .i64 a0_0, .int .i64 a0_1]) (t := 25) ?_; intro gb218 hg w12 hbox hb; have BK218 := Sd.mk hbox; have GW218 := bge w hg; have GE218 := bge w hg; replace HB := bsq w hb; clear hb hbox hg; have hcz13_0 := bz0 BK218; have hcz13_1 := bz1 BK218; have hfz13_0 := blk_frozen BK218.out 0; have hfz13_1 := blk_frozen BK218.out 1))
    go_ret
    exact ⟨fe, bbl⟩
  ·rw [if_neg c8] at H
   have c8b0 : decide (2 ≤ a0_0) = false := decide_eq_false c8
   clear c8
   obtain rfl := zso H
   go_enter Tryz.func18, Tryz.ntmps18
   go_wp2_with (first | ((with_reducible refine gate_dst (N := 1) rfl ?_); refine bxe (N := 1) (cs := #[.int .i64 a0_0, .int .i64 a0_1]) (t := 25) ?_; intro gb218 hg w14 hbox hb; have BK218 := Sd.mk hbox; have GW218 := bge w hg; have GE218 := bge w hg; replace HB := bsq w hb; clear hb hbox hg; have hcz15_0 := bz0 BK218; have hcz15_1 := bz1 BK218; have hfz15_0 := blk_frozen BK218.out 0; have hfz15_1 := blk_frozen BK218.out 1))
   go_ret
   exact ⟨fe, bbl⟩
def r8_Check.l0 : Nat → List (S25) → Int → Option (Int)
 | 0, _, _ => none
 | k + 1, x0, x3 => if x3 < (x0.length : Int) then (if 0 ≤ x3 then ((r8_Is.f ((rd_T25 x0 x3).f0) ((rd_T25 x0 x3).f1)).bind fun t220 => (if t220 = true then (r8_Check.l0 k x0 (wrap64 (x3 + 1))) else (some 80))) else (none)) else (some 0)
def r8_Check.f (k : Nat) (l0 : List (S25)) : Option (Int) := r8_Check.l0 k l0 0
theorem r8_Check.calls (k : Nat) (A0 : Option Addr) (c0 : Nat) (l0 : List (S25)) (r : Int) (w : World) (hr0 : Kd.C k25 w A0 l0.length l0) (hc0 : l0.length ≤ c0) (h : r8_Check.f k l0 = some r) :
  Calls Tryz.prog 59 #[.slice A0 l0.length c0] w fun e w' => e = .returned (.int .i64 r) ∧ Below w.heap.size w w' := by
 have hu25 := Tryz.underlying25
 have HR0 := Sd.mk hr0
 have HC0 := Sd.mk hc0
 clear hr0 hc0
 have HB := zsB w
 have H : (r8_Check.l0 k l0 0) = some r := h
 clear h
 have H' := Sd.mk H
 clear H
 go_enter Tryz.func59, Tryz.ntmps59
 go_wp2
 go_loopg [3] k (fun kq v3 w' => ∃ (x3_1 : Int), v3 = .int .i64 x3_1 ∧ Sd (r8_Check.l0 kq l0 x3_1 = some r) ∧ Sd (kq ≤ k) ∧ Sd (Below w.heap.size w w'))
 case atStart => exact ⟨(0), ae, H', ⟨Nat.le_refl _⟩, ⟨bbl⟩⟩
 case round =>
  clear H'
  obtain ⟨x3_1, rfl, HA, HK1, HB⟩ := hrel
  cases gk with
  | zero => exact absurd HA.out (by simp [r8_Check.l0])
  | succ k1 =>
   have H := HA.out
   clear HA
   simp only [r8_Check.l0] at H
   by_cases c2 : x3_1 < (l0.length : Int)
   ·rw [if_pos c2] at H
    have c2b0 : decide (x3_1 < (l0.length : Int)) = true := decide_eq_true c2
    clear c2
    by_cases c3 : 0 ≤ x3_1
    ·rw [if_pos c3] at H
     have c3b0 : decide (0 ≤ x3_1) = true := decide_eq_true c3
     clear c3
     obtain ⟨t220, A4, H⟩ := bnd H
     by_cases c5 : t220 = true
     ·subst c5
      replace H := iT H
      have H' := Sd.mk H
      clear H
      have p219 : 0 ≤ (x3_1 : Int) := ode
      have q219 : x3_1 < (l0.length : Int) := ode
      obtain ⟨ad219, e219, hx219_0, hx219_1⟩ := at_T25 HR0.out x3_1 p219 q219
      cases e219
      replace hx219_0 := hxc HB hx219_0
      replace hx219_1 := hxc HB hx219_1
      replace p219 := eq_true p219
      replace q219 := eq_true q219
      go_wp2_with (first | ((with_reducible refine gate_callee (f := 18) rfl ?_); refine goesL_ (some 14) rfl rfl Tryz.func18 (by kernel_rfl) rfl #[.agg #[.int .i64 ((rd_T25 l0 x3_1).f0), .int .i64 ((rd_T25 l0 x3_1).f1)]] rfl ma ?_; (with_reducible refine (r8_Is.calls ((rd_T25 l0 x3_1).f0) ((rd_T25 l0 x3_1).f1) true _ A4.out).mono ?_); rintro e w6 ⟨rfl, hb⟩; refine ⟨_, rfl, ?_⟩; replace HB := bsq w hb; (try clear hb)))
      go_roundg k1
      case measure => have := HK1.out; omega
      case rel => exact ⟨(wrap64 (x3_1 + 1)), ae, H', ⟨by have := HK1.out; omega⟩, ⟨bbl⟩⟩
     ·replace c5 := znf c5
      subst c5
      replace H := iF H
      obtain rfl := zso H
      have p219 : 0 ≤ (x3_1 : Int) := ode
      have q219 : x3_1 < (l0.length : Int) := ode
      obtain ⟨ad219, e219, hx219_0, hx219_1⟩ := at_T25 HR0.out x3_1 p219 q219
      cases e219
      replace hx219_0 := hxc HB hx219_0
      replace hx219_1 := hxc HB hx219_1
      replace p219 := eq_true p219
      replace q219 := eq_true q219
      go_wp2_with (first | ((with_reducible refine gate_callee (f := 18) rfl ?_); refine goesL_ (some 14) rfl rfl Tryz.func18 (by kernel_rfl) rfl #[.agg #[.int .i64 ((rd_T25 l0 x3_1).f0), .int .i64 ((rd_T25 l0 x3_1).f1)]] rfl ma ?_; (with_reducible refine (r8_Is.calls ((rd_T25 l0 x3_1).f0) ((rd_T25 l0 x3_1).f1) false _ A4.out).mono ?_); rintro e w7 ⟨rfl, hb⟩; refine ⟨_, rfl, ?_⟩; replace HB := bsq w hb; (try clear hb)))
      go_ret
      exact ⟨fe, bbl⟩
    ·rw [if_neg c3] at H
     exact absurd H (by simp)
   ·rw [if_neg c2] at H
    have c2b0 : decide (x3_1 < (l0.length : Int)) = false := decide_eq_false c2
    clear c2
    obtain rfl := zso H
    go_wp2
    go_ret
    exact ⟨fe, bbl⟩
abbrev V := Int × Int
/-- May it be a value? -/
def isV (a : V) : Prop := (a.1 = 1 ∧ -1000000000000000 ≤ a.2 ∧ a.2 ≤ 1000000000000000) ∨ ((a.1 = 2 ∨ a.1 = 3 ∨ a.1 = 4 ∨ a.1 = 5) ∧ a.2 = 0)
instance (a : V) : Decidable (isV a) := by unfold isV; exact inferInstance
def vNum (n : Int) : V := if n > 1000000000000000 then (4, 0) else if n < -1000000000000000 then (5, 0) else (1, n)
def vRank (a : V) : Int := if a.1 = 4 then 1000000000000001 else if a.1 = 5 then -1000000000000001 else a.2
def vSign (n : Int) : Int := if n < 0 then -1 else if n = 0 then 0 else 1
def vInf (s : Int) : V := if s = 0 then (3, 0) else if s < 0 then (5, 0) else (4, 0)
def vTruth (b : Bool) : V := if b = true then (1, 1000) else (1, 0)
def vTrue (a : V) : Bool := if a.1 = 2 then false else if a.1 = 0 then false else if a.1 = 1 then a.2 != 0 else true
def vAdd (a b : V) : V := if a.1 = 1 then (if b.1 = 1 then vNum (a.2 + b.2) else b) else if b.1 = 1 then a else if a = b then a else (3, 0)
def vMul (a b : V) : V := if a.1 = 1 ∧ b.1 = 1 then vNum (vSign (vRank a) * vSign (vRank b) * ((a.2 * vSign a.2) * (b.2 * vSign b.2) / 1000)) else vInf (vSign (vRank a) * vSign (vRank b))
def vDiv (a b : V) : V := if b.1 = 1 then (if a.1 = 1 then (if b.2 = 0 then vInf a.2 else vNum ((a.2 * 1000).tdiv b.2)) else if b.2 < 0 then vNum (-vRank a) else a) else if a.1 = 1 then vNum 0 else (3, 0)
theorem isV_num {n : Int} : isV (vNum n) := by
 unfold vNum isV
 split
 ·exact .inr ⟨.inr (.inr (.inl rfl)), rfl⟩
 ·split
  ·exact .inr ⟨.inr (.inr (.inr rfl)), rfl⟩
  ·exact .inl ⟨rfl, by simp; omega, by simp; omega⟩
theorem vSign_range (n : Int) : vSign n = -1 ∨ vSign n = 0 ∨ vSign n = 1 := by
 unfold vSign
 split
 ·simp
 ·split <;> simp
theorem num_is (n : Int) : v_Num.f n = some (vNum n) := by
 unfold v_Num.f vNum v_Plus.f v_Minus.f
 split
 ·rfl
 ·split <;> rfl
theorem truth_is (b : Bool) : v_Truth.f b = some (vTruth b) := by
 unfold v_Truth.f vTruth
 cases b <;> rfl
theorem true_is (a : V) : v_True.f a.1 a.2 = some (vTrue a) := by
 unfold v_True.f vTrue
 split
 ·rfl
 ·split
  ·rfl
  ·split <;> rfl
theorem rank_is (a : V) : v_rank.f a.1 a.2 = some (vRank a) := by
 unfold v_rank.f vRank
 split
 ·rfl
 ·split <;> rfl
theorem sign_mnmx (n : Int) : mn (mx n (-1)) 1 = vSign n := by
 unfold mn mx vSign
 split <;> split <;> (try split) <;> (try split) <;> omega
theorem sign_is (a : V) : v_sign.f a.1 a.2 = some (vSign (vRank a)) := by
 unfold v_sign.f
 rw [rank_is]
 simp only [Option.bind_some, sign_mnmx]
theorem back_is (n : Int) : v_back.f n = some (vNum n) := by
 unfold v_back.f
 rw [num_is]; rfl
theorem infinite_is (s : Int) : v_infinite.f s = some (vInf s) := by
 unfold v_infinite.f vInf
 by_cases h : s = 0
 ·rw [if_pos h, if_pos h]; rfl
 ·rw [if_neg h, if_neg h, back_is]
  simp only [Option.bind_some, sign_mnmx]
  by_cases h2 : s < 0
  ·rw [if_pos h2]; simp [vSign, h2, vNum]
  ·rw [if_neg h2]; simp [vSign, h2, h, vNum]
theorem wrap_id {n : Int} (h0 : -9223372036854775808 ≤ n) (h1 : n ≤ 9223372036854775807) : wrap64 n = n := by unfold wrap64; omega
theorem isV_n {a : V} (h : isV a) : -1000000000000000 ≤ a.2 ∧ a.2 ≤ 1000000000000000 := by
 rcases h with ⟨_, h1, h2⟩ | ⟨_, h⟩
 ·exact ⟨h1, h2⟩
 ·omega
theorem isV_rank {a : V} (h : isV a) : -1000000000000001 ≤ vRank a ∧ vRank a ≤ 1000000000000001 := by
 have := isV_n h
 unfold vRank
 split
 ·omega
 ·split <;> omega
theorem rank_num {a : V} (h : a.1 = 1) : vRank a = a.2 := by
 unfold vRank
 rw [if_neg (by omega), if_neg (by omega)]
theorem add_is {a b : V} (ha : isV a) (hb : isV b) : v_add.f 3 a.1 a.2 b.1 b.2 = some (vAdd a b) := by
 have na := isV_n ha
 have nb := isV_n hb
 have ew : wrap64 (a.2 + b.2) = a.2 + b.2 := wrap_id (by omega) (by omega)
 unfold v_add.f v_finite.f vAdd
 simp only [Option.bind_some, v_add.j0, v_add.j1, v_finite.f, ew, num_is, v_NaN.f]
 by_cases h1 : a.1 = 1
 ·by_cases h2 : b.1 = 1
  ·simp [h1, h2]
  ·simp [h1, h2]
 ·by_cases h2 : b.1 = 1
  ·simp [h1, h2]
  ·by_cases h3 : a = b
   ·subst h3; simp [h1]
   ·have : ¬ (a.1 = b.1 ∧ a.2 = b.2) := fun h => h3 (Prod.ext h.1 h.2)
    by_cases h4 : a.1 = b.1
    ·have h5 : ¬ a.2 = b.2 := fun h => this ⟨h4, h⟩
     simp [h2, h3, h4, h5]
    ·simp [h1, h2, h3, h4]
theorem abs_sign (n : Int) : 0 ≤ n * vSign n ∧ (n * vSign n = n ∨ n * vSign n = -n) := by
 unfold vSign
 split
 ·omega
 ·split <;> omega
theorem mul128 (x y : Int) (hx0 : 0 ≤ x) (hx : x ≤ 1000000000000000) (hy0 : 0 ≤ y) (hy : y ≤ 1000000000000000) : bits_Mul64.f x y = some (x * y / 18446744073709551616, x * y % 18446744073709551616) := by
 unfold bits_Mul64.f
 obtain ⟨xn, rfl⟩ := Int.eq_ofNat_of_zero_le hx0
 obtain ⟨yn, rfl⟩ := Int.eq_ofNat_of_zero_le hy0
 have ax : Go.bits .and .u64 (xn : Int) 4294967295 = ((xn % 4294967296 : Nat) : Int) := by
  rw [show (4294967295 : Int) = ((4294967295 : Nat) : Int) from rfl, u64_and_nat xn 4294967295 (by omega) (by omega), Nat.and_two_pow_sub_one_eq_mod xn 32]
 have ay : Go.bits .and .u64 (yn : Int) 4294967295 = ((yn % 4294967296 : Nat) : Int) := by
  rw [show (4294967295 : Int) = ((4294967295 : Nat) : Int) from rfl, u64_and_nat yn 4294967295 (by omega) (by omega), Nat.and_two_pow_sub_one_eq_mod yn 32]
 rw [ax, ay]
 -- digits
 obtain ⟨x1, hx1⟩ : ∃ q : Nat, q = xn / 4294967296 := ⟨_, rfl⟩
 obtain ⟨x0, hx0'⟩ : ∃ q : Nat, q = xn % 4294967296 := ⟨_, rfl⟩
 obtain ⟨y1, hy1⟩ : ∃ q : Nat, q = yn / 4294967296 := ⟨_, rfl⟩
 obtain ⟨y0, hy0'⟩ : ∃ q : Nat, q = yn % 4294967296 := ⟨_, rfl⟩
 have ex : (xn : Int) / 4294967296 = (x1 : Int) := by rw [hx1]; omega
 have ey : (yn : Int) / 4294967296 = (y1 : Int) := by rw [hy1]; omega
 rw [ex, ey, ← hx0', ← hy0']
 have bx1 : x1 ≤ 232830 := by omega
 have by1 : y1 ≤ 232830 := by omega
 have bx0 : x0 < 4294967296 := by omega
 have by0 : y0 < 4294967296 := by omega
 have exn : xn = x1 * 4294967296 + x0 := by omega
 have eyn : yn = y1 * 4294967296 + y0 := by omega
 -- partial products
 obtain ⟨p, hp⟩ : ∃ p : Nat, p = x0 * y0 := ⟨_, rfl⟩
 obtain ⟨q, hq⟩ : ∃ p : Nat, p = x1 * y0 := ⟨_, rfl⟩
 obtain ⟨r, hr⟩ : ∃ p : Nat, p = x0 * y1 := ⟨_, rfl⟩
 obtain ⟨s, hs⟩ : ∃ p : Nat, p = x1 * y1 := ⟨_, rfl⟩
 have bp : p ≤ 4294967295 * 4294967295 := by rw [hp]; exact Nat.mul_le_mul (by omega) (by omega)
 have bq : q ≤ 232830 * 4294967295 := by rw [hq]; exact Nat.mul_le_mul (by omega) (by omega)
 have br : r ≤ 4294967295 * 232830 := by rw [hr]; exact Nat.mul_le_mul (by omega) (by omega)
 have bs : s ≤ 232830 * 232830 := by rw [hs]; exact Nat.mul_le_mul (by omega) (by omega)
 have ep : ((x0 : Nat) : Int) * (y0 : Int) = (p : Int) := by rw [hp, Int.natCast_mul]
 have eq' : ((x1 : Nat) : Int) * (y0 : Int) = (q : Int) := by rw [hq, Int.natCast_mul]
 have er : ((x0 : Nat) : Int) * (y1 : Int) = (r : Int) := by rw [hr, Int.natCast_mul]
 have es : ((x1 : Nat) : Int) * (y1 : Int) = (s : Int) := by rw [hs, Int.natCast_mul]
 have exy : (xn : Int) * (yn : Int) = (s : Int) * 18446744073709551616 + ((q : Int) + r) * 4294967296 + p := by
  rw [exn, eyn, ← ep, ← eq', ← er, ← es]
  simp only [Int.natCast_add, Int.natCast_mul]
  rw [show ((4294967296 : Nat) : Int) = 4294967296 from rfl]
  simp only [Int.add_mul, Int.mul_add]
  have m1 : ((x1 : Int) * 4294967296) * ((y1 : Int) * 4294967296) = (x1 : Int) * y1 * 18446744073709551616 := by
   rw [Int.mul_assoc, ← Int.mul_assoc 4294967296, Int.mul_comm 4294967296, Int.mul_assoc, ← Int.mul_assoc (x1 : Int)]
   rfl
  have m2 : ((x1 : Int) * 4294967296) * (y0 : Int) = (x1 : Int) * y0 * 4294967296 := by rw [Int.mul_assoc, Int.mul_comm 4294967296, ← Int.mul_assoc]
  have m3 : (x0 : Int) * ((y1 : Int) * 4294967296) = (x0 : Int) * y1 * 4294967296 := by rw [← Int.mul_assoc]
  rw [m1, m2, m3]; omega
 rw [exy, ep, eq', er, es]
 clear exy ep eq' er es hp hq hr hs
 simp only [IntKind.wrap_u64]
 -- t = q + p / 2^32
 have w1 : (s : Int) % 18446744073709551616 = s := by omega
 have w2 : (q : Int) % 18446744073709551616 = q := by omega
 have w3 : (p : Int) % 18446744073709551616 = p := by omega
 have w4 : (r : Int) % 18446744073709551616 = r := by omega
 rw [w1, w2, w3, w4]
 obtain ⟨t, ht⟩ : ∃ t : Nat, (t : Int) = (q : Int) + (p : Int) / 4294967296 := ⟨q + p / 4294967296, by omega⟩
 rw [← ht]
 have bt : t < 1000000000000000000 := by omega
 have w5 : (t : Int) % 18446744073709551616 = t := by omega
 rw [w5]
 have at' : Go.bits .and .u64 (t : Int) 4294967295 = ((t % 4294967296 : Nat) : Int) := by
  rw [show (4294967295 : Int) = ((4294967295 : Nat) : Int) from rfl, u64_and_nat t 4294967295 (by omega) (by omega), Nat.and_two_pow_sub_one_eq_mod t 32]
 rw [at']
 congr 2 <;> omega
theorem mul_is {a b : V} (ha : isV a) (hb : isV b) : v_mul.f 1 a.1 a.2 b.1 b.2 = some (vMul a b) := by
 have na := isV_n ha
 have nb := isV_n hb
 have sa := vSign_range (vRank a)
 have sb := vSign_range (vRank b)
 have ew : wrap64 (vSign (vRank a) * vSign (vRank b)) = vSign (vRank a) * vSign (vRank b) := by
  rcases sa with sa | sa | sa <;> rcases sb with sb | sb | sb <;> rw [sa, sb] <;> exact wrap_id (by omega) (by omega)
 unfold v_mul.f v_finite.f vMul
 rw [sign_is, sign_is]
 simp only [Option.bind_some, v_mul.j0, ew, infinite_is, sign_is]
 by_cases h1 : a.1 = 1
 ·by_cases h2 : b.1 = 1
  ·have h12 : a.1 = 1 ∧ b.1 = 1 := ⟨h1, h2⟩
   rw [if_pos h12, if_pos (by simp [h1]), if_neg (by simp [h2])]
   rw [rank_num h1, rank_num h2] at *
   obtain ⟨xa, ya⟩ := abs_sign a.2
   obtain ⟨xb, yb⟩ := abs_sign b.2
   obtain ⟨x, hx⟩ : ∃ x, a.2 * vSign a.2 = x := ⟨_, rfl⟩
   obtain ⟨y, hy⟩ : ∃ y, b.2 * vSign b.2 = y := ⟨_, rfl⟩
   rw [hx] at xa ya ⊢
   rw [hy] at xb yb ⊢
   have bx : x ≤ 1000000000000000 := by omega
   have by' : y ≤ 1000000000000000 := by omega
   have wx : IntKind.u64.wrap (wrap64 x) = x := by rw [wrap_id (by omega) (by omega), IntKind.wrap_u64]; omega
   have wy : IntKind.u64.wrap (wrap64 y) = y := by rw [wrap_id (by omega) (by omega), IntKind.wrap_u64]; omega
   rw [wx, wy, mul128 x y xa bx xb by']
   simp only [Option.bind_some]
   have hxy0 : 0 ≤ x * y := Int.mul_nonneg xa xb
   have hz : vSign a.2 * vSign b.2 = 0 → x * y = 0 := by
    intro h
    rcases Int.mul_eq_zero.1 h with h | h
    ·rw [← hx, h, Int.mul_zero, Int.zero_mul]
    ·rw [← hy, h, Int.mul_zero, Int.mul_zero]
   obtain ⟨p, hp⟩ : ∃ p, x * y = p := ⟨_, rfl⟩
   rw [hp] at hxy0 hz ⊢
   have key : 1000000000000000 < p / 1000 → vInf (vSign a.2 * vSign b.2) = vNum (vSign a.2 * vSign b.2 * (p / 1000)) := by
    intro hq
    have hs : vSign a.2 * vSign b.2 = -1 ∨ vSign a.2 * vSign b.2 = 1 := by
     have : vSign a.2 * vSign b.2 ≠ 0 := fun h => by have := hz h; omega
     rcases sa with sa | sa | sa <;> rcases sb with sb | sb | sb <;> simp [sa, sb] at this ⊢
    rcases hs with hs | hs
    ·rw [hs]; unfold vInf vNum
     rw [if_neg (by decide), if_pos (by decide), if_neg (by omega), if_pos (by omega)]
    ·rw [hs]; unfold vInf vNum
     rw [if_neg (by decide), if_neg (by decide), if_pos (by omega)]
   by_cases hh : p / 18446744073709551616 ≥ 1000
   ·rw [if_pos hh, key (by omega)]
   ·rw [if_neg hh]
    have hd : bits_Div64.f (p / 18446744073709551616) (p % 18446744073709551616) 1000 = some (p / 1000, p % 1000) := by
     unfold bits_Div64.f
     rw [if_pos rfl, if_pos (by omega), if_pos (by omega), if_pos (by omega), if_pos (by omega)]
     rw [show p / 18446744073709551616 * 18446744073709551616 + p % 18446744073709551616 = p by omega]
    rw [hd]
    simp only [Option.bind_some]
    by_cases hq : p / 1000 > 1000000000000000
    ·rw [if_pos hq, key (by omega)]
    ·rw [if_neg hq, num_is]
     have w1 : wrap64 (p / 1000) = p / 1000 := wrap_id (by omega) (by omega)
     rw [w1]
     have w2 : wrap64 (vSign a.2 * vSign b.2 * (p / 1000)) = vSign a.2 * vSign b.2 * (p / 1000) := by
      rcases sa with sa | sa | sa <;> rcases sb with sb | sb | sb <;> rw [sa, sb] <;> exact wrap_id (by omega) (by omega)
     rw [w2]; rfl
  ·simp [h1, h2]
 ·simp [h1]
theorem div_is {a b : V} (ha : isV a) (hb : isV b) : v_div.f 2 a.1 a.2 b.1 b.2 = some (vDiv a b) := by
 have na := isV_n ha
 have nb := isV_n hb
 have ra := isV_rank ha
 have e1 : wrap64 (-vRank a) = -vRank a := wrap_id (by omega) (by omega)
 have e2 : wrap64 (a.2 * 1000) = a.2 * 1000 := wrap_id (by omega) (by omega)
 have e3 : wrap64 ((a.2 * 1000).tdiv b.2) = (a.2 * 1000).tdiv b.2 := by
  have h := Int.natAbs_tdiv_le_natAbs (a.2 * 1000) b.2
  exact wrap_id (by omega) (by omega)
 unfold v_div.f v_finite.f vDiv
 simp only [Option.bind_some, v_div.j0, v_div.j1, v_finite.f, rank_is, back_is, e1, e2, e3, num_is, infinite_is, v_NaN.f]
 by_cases h1 : a.1 = 1
 ·by_cases h2 : b.1 = 1
  ·by_cases h3 : b.2 = 0
   ·simp [h1, h2, h3]
   ·simp [h1, h2, h3]
  ·simp [h1, h2]
 ·by_cases h2 : b.1 = 1
  ·by_cases h3 : b.2 < 0
   ·simp [h1, h2, h3]
   ·simp [h1, h2, h3]
  ·simp [h1, h2]
theorem is_is (a : V) : v_is.f a.1 a.2 = some (decide (isV a)) := by
 unfold v_is.f isV
 by_cases h1 : a.1 = 1
 ·rw [if_pos h1]
  by_cases h2 : a.2 ≥ -1000000000000000
  ·rw [if_pos h2]; congr 1; simp [h1, h2]
  ·rw [if_neg h2]; congr 1; simp [h1]; omega
 ·rw [if_neg h1]
  by_cases h2 : a.1 = 2
  ·rw [if_pos h2]; congr 1; simp [h2]; rfl
  ·rw [if_neg h2]
   by_cases h3 : a.1 = 3
   ·rw [if_pos h3]; congr 1; simp [h3]; rfl
   ·rw [if_neg h3]
    by_cases h4 : a.1 = 4
    ·rw [if_pos h4]; congr 1; simp [h4]; rfl
    ·rw [if_neg h4]
     by_cases h5 : a.1 = 5
     ·rw [if_pos h5]; congr 1; simp [h5]; rfl
     ·rw [if_neg h5]; congr 1; simp [h1, h2, h3, h4, h5]
end Go.Proofs.YtcmiehddjgfjaaaGreat.A
namespace Go.Proofs.YtcmiehddjgfjaaaGreat.V
open Go.RowKit Go.Proofs.YtcmiehddjgfjaaaGreatW.PrintWords Go.Proofs.YtcmiehddjgfjaaaGreatW.PrintLast Go.Proofs.YtcmiehddjgfjaaaGreatW.PrintMore
/-- The entries, in the order in which they were laid. -/
def ents : List (ByteArray × Value) → Nat → List MapEntry
 | [], _ => []
 | (s, v) :: l, n => { key := .string s, val := v, born := n } :: ents l (n + 1)
theorem ents_snoc (s : ByteArray) (v : Value) : ∀ (l : List (ByteArray × Value)) (n : Nat), ents (l ++ [(s, v)]) n = ents l n ++ [{ key := .string s, val := v, born := n + l.length }]
 | [], n => rfl
 | (t, u) :: l, n => by
  rw [List.cons_append, ents, ents, ents_snoc s v l (n + 1), List.cons_append, List.length_cons]
  congr 4; omega
theorem find_some (op : ByteArray) : ∀ (l : List (ByteArray × Value)) (n i : Nat), ∃ j, Instr.findNow .string (.string op) (ents l n) i = some ((l.lookup op).map fun v => (j, v))
 | [], n, i => ⟨0, rfl⟩
 | (s, v) :: l, n, i => by
  rw [ents, List.lookup_cons]
  unfold Instr.findNow
  simp only [Instr.sameNow]
  cases h : op == s with
  | true => exact ⟨i, rfl⟩
  | false => exact find_some op l (n + 1) (i + 1)
/-- Block r is the map of these entries. -/
def HM (w : World) (r : Nat) (l : List (ByteArray × Value)) : Prop := w.heap[r]? = some (.map (ents l 0).toArray l.length)
theorem HM.below {w w' : World} {r : Nat} {l : List (ByteArray × Value)} (h : HM w r l) (hb : Below w.heap.size w w') : HM w' r l :=
 (hb.block r (Array.getElem?_eq_some_iff.1 h).1).trans h
section
variable {P : Program} {w : World} {r : Nat} {l : List (ByteArray × Value)} {T ks el : TypeId}
theorem run_find (ht : P.underlying T = some (.map ks el)) (hs : P.underlying ks = some .string) (h : HM w r l) (s : ByteArray) (z : Value) (hz : (zeroValue el).run P w = .ok z w) :
  (Instr.lookup T (.map (some r)) (.string s) true).run P w = .ok (match l.lookup s with | some v => .tuple #[v, .bool true] | none => .tuple #[z, .bool false]) w := by
 obtain ⟨j, hf⟩ := find_some s l 0 0
 have hget : w.heap[r]? = some (.map (ents l 0).toArray l.length) := h
 have hfk : (Instr.findKey ks (.string s) (ents l 0)).run P w = .ok ((l.lookup s).map fun v => (j, v)) w := MapKept.run_findKey hs hf
 have hck : ∀ b, (Instr.checkKey b 10000 ks (.string s)).run P w = .ok () w := fun b => MapKept.run_checkKey hs (by simp [MapKept.IsKey]) b 9999
 cases hl : l.lookup s with
 | none =>
  rw [hl] at hfk
  simp [Instr.lookup, run_underlying ht, hck, MapKept.run_getObj_map hget, hfk, hz]
 | some v =>
  rw [hl] at hfk
  simp [Instr.lookup, run_underlying ht, hck, MapKept.run_getObj_map hget, hfk]
end
end Go.Proofs.YtcmiehddjgfjaaaGreat.V
namespace Go.Proofs.YtcmiehddjgfjaaaGreat.A
open Go.RowKit Go.Proofs.YtcmiehddjgfjaaaGreatW.PrintWords Go.Proofs.YtcmiehddjgfjaaaGreatW.PrintLast Go.Proofs.YtcmiehddjgfjaaaGreatW.PrintMore Go.Proofs.YtcmiehddjgfjaaaGreat.V
abbrev vv (a : V) : Value := .agg #[.int .i64 a.1, .int .i64 a.2]
theorem blk_new2' (w : World) (o o' : Obj) : ((w.alloc o).alloc o').heap[w.heap.size + 1]? = some o' := by
 have := blk_new (w.alloc o) o'
 simpa using this
theorem fz_below {w w1 : World} (h : Below w.heap.size w w1) {a : Addr} {v : Value} (hc : w.cell? a = some v) (hf : w.frozen? a = false) : w1.frozen? a = false := (h.frozen (World.block_lt_of_cell? w a hc)).trans hf
def vPlain (F : Int → Int) (a : V) : V := if a.1 = 2 then a else if a.1 = 3 then a else vNum (F (vRank a))
/-- A function of a whole number. -/
def IsI (g : Nat) (F : Int → Int) : Prop := (∀ args w, (callFunc g args).run Tryz.prog w = .ok (.enter g args) w) ∧ ∀ w1 n, -1000000000000001 ≤ n → n ≤ 1000000000000001 → Calls Tryz.prog g #[.int .i64 n] w1 fun e w' => e = .returned (.int .i64 (F n)) ∧ Below w1.heap.size w1 w'
theorem plain1_calls (g : Nat) (F : Int → Int) (hI : IsI g F) (b : Nat) (a : V) (w : World) (hv : isV a) (hc : w.cell? ⟨b, 0, none⟩ = some (.func (.func g) #[] #[])) :
  Calls Tryz.prog 157 #[vv a, .pointer (some ⟨b, 0, none⟩)] w fun e w' => e = .returned (vv (vPlain F a)) ∧ Below w.heap.size w w' := by
 obtain ⟨eg, hf⟩ := hI
 have hlt : b < w.heap.size := World.block_lt_of_cell? w _ hc
 have hr := isV_rank hv
 obtain ⟨ak, an⟩ := a
 have HR := Sd.mk (rank_is (ak, an))
 have HF := Sd.mk hf
 have HRR := Sd.mk hr
 clear hf hr
 by_cases h2 : ak = 2
 ·have e : vPlain F (ak, an) = (ak, an) := if_pos h2
  rw [e]
  have c1 : (ak == 2) = true := beq_iff_eq.2 h2
  clear h2 e HR HRR hv
  go_enter Tryz.func157, Tryz.ntmps157
  go_wp2
  refine bodyPost_ret (v := vv (ak, an)) (by simp [results, Tryz.results157, go_sem]) rfl ⟨rfl, ?_⟩
  repeat (first | exact Below.refl _ _ | (refine Below.alloc ?_ (by simp) _) | (refine Below.setCell ?_ (by simp) _))
 ·have c1 : (ak == 2) = false := beq_eq_false_iff_ne.2 h2
  by_cases h3 : ak = 3
  ·have e : vPlain F (ak, an) = (ak, an) := by unfold vPlain; rw [if_neg h2, if_pos h3]
   rw [e]
   have c2 : (ak == 3) = true := beq_iff_eq.2 h3
   clear h2 h3 e HR HRR hv
   go_enter Tryz.func157, Tryz.ntmps157
   go_wp2
   refine bodyPost_ret (v := vv (ak, an)) (by simp [results, Tryz.results157, go_sem]) rfl ⟨rfl, ?_⟩
   repeat (first | exact Below.refl _ _ | (refine Below.alloc ?_ (by simp) _) | (refine Below.setCell ?_ (by simp) _))
  ·have e : vPlain F (ak, an) = vNum (F (vRank (ak, an))) := by unfold vPlain; rw [if_neg h2, if_neg h3]
   rw [e]
   obtain ⟨r1, r2, hrr⟩ : ∃ r1 r2, vNum (F (vRank (ak, an))) = (r1, r2) := ⟨_, _, rfl⟩
   have HBK := Sd.mk ((back_is (F (vRank (ak, an)))).trans (congrArg some hrr))
   rw [hrr]
   clear hrr
   obtain ⟨q, hq⟩ : ∃ q, vRank (ak, an) = q := ⟨_, rfl⟩
   rw [hq] at HR HRR HBK
   clear hq
   obtain ⟨fq, hfq⟩ : ∃ fq, F q = fq := ⟨_, rfl⟩
   have HFQ := Sd.mk (fun w1 (h0 : -1000000000000001 ≤ q) (h1 : q ≤ 1000000000000001) => HF.out w1 q h0 h1)
   rw [hfq] at HBK HFQ
   clear hfq
   have c2 : (ak == 3) = false := beq_eq_false_iff_ne.2 h3
   clear h2 h3 e hv
   go_enter Tryz.func157, Tryz.ntmps157
   go_wp2_with fail
   have hb0 : Below w.heap.size w ((w.alloc (.cells #[.int .i64 ak, .int .i64 an] 25)).alloc (.cells #[.int .i64 0, .int .i64 0] 25)) := ((Below.refl _ _).alloc (Nat.le_refl _) _).alloc (by simp) _
   have s0 : ((w.alloc (.cells #[.int .i64 ak, .int .i64 an] 25)).alloc (.cells #[.int .i64 0, .int .i64 0] 25)).heap.size = w.heap.size + 2 := by simp
   have cb : ((w.alloc (.cells #[.int .i64 ak, .int .i64 an] 25)).alloc (.cells #[.int .i64 0, .int .i64 0] 25)).cell? ⟨b, 0, none⟩ = some (.func (.func g) #[] #[]) := (hb0.cell hlt).trans hc
   have k0 : ((w.alloc (.cells #[.int .i64 ak, .int .i64 an] 25)).alloc (.cells #[.int .i64 0, .int .i64 0] 25)).cell? ⟨w.heap.size, 0, none⟩ = some (.int .i64 ak) := by simp
   have k1 : ((w.alloc (.cells #[.int .i64 ak, .int .i64 an] 25)).alloc (.cells #[.int .i64 0, .int .i64 0] 25)).cell? ⟨w.heap.size, 1, none⟩ = some (.int .i64 an) := by simp
   have r0 : ((w.alloc (.cells #[.int .i64 ak, .int .i64 an] 25)).alloc (.cells #[.int .i64 0, .int .i64 0] 25)).heap[w.heap.size + 1]? = some (.cells #[.int .i64 0, .int .i64 0] 25 (0, 0)) := blk_new2' _ _ _
   have m0 := cell_of_row _ _ 0 _ _ _ r0
   have m1 := cell_of_row _ _ 1 _ _ _ r0
   have z0 := blk_frozen r0 0
   have z1 := blk_frozen r0 1
   simp only [List.getElem?_toArray, List.getElem?_cons_zero, List.getElem?_cons_succ] at m0 m1
   have HB0 := Sd.mk hb0
   have RB := Sd.mk r0
   have SZ := Sd.mk s0
   generalize (w.alloc (.cells #[.int .i64 ak, .int .i64 an] 25)).alloc (.cells #[.int .i64 0, .int .i64 0] 25) = W2 at HB0 RB SZ cb k0 k1 m0 m1 z0 z1 ⊢
   clear hb0 r0 s0 hc
   have n0 : q ≤ 1000000000000001 := HRR.out.2
   have n1 : -1000000000000001 ≤ q := HRR.out.1
   go_region_with (first
     | (go_at_call 130; refine (v_rank.calls ak an q _ HR.out).mono ?_; rintro e w1 ⟨rfl, hb1⟩; have m0_ := m0; have m1_ := m1; have cb := pw_cell_below hb1 cb; have k0 := pw_cell_below hb1 k0; have k1 := pw_cell_below hb1 k1; have m0 := pw_cell_below hb1 m0_; have m1 := pw_cell_below hb1 m1_; have z0 := fz_below hb1 m0_ z0; have z1 := fz_below hb1 m1_ z1; clear m0_ m1_; have HB1 := Sd.mk (HB0.out.trans ((Below.refl W2.heap.size W2).drew.trans hb1 |>.mono HB0.out.size)); clear hb1)
     | (go_at_fn g; refine (HFQ.out _ n1 n0).mono ?_; rintro e w2 ⟨rfl, hb2⟩; have m0_ := m0; have m1_ := m1; have cb := pw_cell_below hb2 cb; have k0 := pw_cell_below hb2 k0; have k1 := pw_cell_below hb2 k1; have m0 := pw_cell_below hb2 m0_; have m1 := pw_cell_below hb2 m1_; have z0 := fz_below hb2 m0_ z0; have z1 := fz_below hb2 m1_ z1; clear m0_ m1_; have HB2 := Sd.mk (HB1.out.trans (hb2.mono HB1.out.size)); clear hb2)
     | (go_at_call 129; refine (v_back.calls fq r1 r2 _ HBK.out).mono ?_; rintro e w3 ⟨rfl, hb3⟩; have m0_ := m0; have m1_ := m1; have cb := pw_cell_below hb3 cb; have k0 := pw_cell_below hb3 k0; have k1 := pw_cell_below hb3 k1; have m0 := pw_cell_below hb3 m0_; have m1 := pw_cell_below hb3 m1_; have z0 := fz_below hb3 m0_ z0; have z1 := fz_below hb3 m1_ z1; clear m0_ m1_; have HB3 := Sd.mk (HB2.out.trans (hb3.mono HB2.out.size)); clear hb3))
   all_goals
    go_wp2_with fail
    exact bodyPost_ret (v := vv (r1, r2)) (by simp [results, Tryz.results157, go_sem, m0, m1]) rfl ⟨rfl, (HB3.out.setCell (by simp) _).setCell (by simp) _⟩
theorem blk_new3' (w : World) (o o' o'' : Obj) : (((w.alloc o).alloc o').alloc o'').heap[w.heap.size + 2]? = some o'' := by
 have := blk_new ((w.alloc o).alloc o') o''
 simpa using this
theorem below_one (w : World) (o : Obj) : Below w.heap.size w (w.alloc o) := (Below.refl _ _).alloc (Nat.le_refl _) _
theorem below_two (w : World) (o o' : Obj) : Below w.heap.size w ((w.alloc o).alloc o') := (below_one w o).alloc (by simp) _
theorem cell_new0 (w : World) (a b : Value) (t : TypeId) : (w.alloc (.cells #[a, b] t)).cell? ⟨w.heap.size, 0, none⟩ = some a := by simp
theorem cell_new1 (w : World) (a b : Value) (t : TypeId) : (w.alloc (.cells #[a, b] t)).cell? ⟨w.heap.size, 1, none⟩ = some b := by simp
/-- A function of two values. -/
def IsP (g : Nat) (F : V → V → V) : Prop := (∀ args w, (callFunc g args).run Tryz.prog w = .ok (.enter g args) w) ∧ ∀ w1 a b, isV a → isV b → Calls Tryz.prog g #[vv a, vv b] w1 fun e w' => e = .returned (vv (F a b)) ∧ Below w1.heap.size w1 w'
def vNumbers (F : V → V → V) (a b : V) : V := if a.1 = 3 ∨ b.1 = 3 then (3, 0) else F a b
theorem numbers1_calls (g : Nat) (F : V → V → V) (hI : IsP g F) (b : Nat) (x y : V) (w : World) (hx : isV x) (hy : isV y) (hc : w.cell? ⟨b, 0, none⟩ = some (.func (.func g) #[] #[])) :
  Calls Tryz.prog 160 #[vv x, vv y, .pointer (some ⟨b, 0, none⟩)] w fun e w' => e = .returned (vv (vNumbers F x y)) ∧ Below w.heap.size w w' := by
 obtain ⟨eg, hf⟩ := hI
 have hlt : b < w.heap.size := World.block_lt_of_cell? w _ hc
 have HF := Sd.mk (fun w1 => hf w1 x y hx hy)
 clear hf hx hy
 obtain ⟨r1, r2, hrr⟩ : ∃ r1 r2, F x y = (r1, r2) := ⟨_, _, rfl⟩
 rw [hrr] at HF
 have e : vNumbers F x y = if x.1 = 3 ∨ y.1 = 3 then (3, 0) else (r1, r2) := by unfold vNumbers; rw [hrr]
 rw [e]
 clear e hrr
 obtain ⟨xk, xn⟩ := x
 obtain ⟨yk, yn⟩ := y
 have hb0 : Below w.heap.size w (((w.alloc (.cells #[.int .i64 xk, .int .i64 xn] 25)).alloc (.cells #[.int .i64 yk, .int .i64 yn] 25)).alloc (.cells #[.int .i64 0, .int .i64 0] 25)) := (((Below.refl _ _).alloc (Nat.le_refl _) _).alloc (by simp) _).alloc (by simp; omega) _
 have cb : (((w.alloc (.cells #[.int .i64 xk, .int .i64 xn] 25)).alloc (.cells #[.int .i64 yk, .int .i64 yn] 25)).alloc (.cells #[.int .i64 0, .int .i64 0] 25)).cell? ⟨b, 0, none⟩ = some (.func (.func g) #[] #[]) := (hb0.cell hlt).trans hc
 have k0 : (((w.alloc (.cells #[.int .i64 xk, .int .i64 xn] 25)).alloc (.cells #[.int .i64 yk, .int .i64 yn] 25)).alloc (.cells #[.int .i64 0, .int .i64 0] 25)).cell? ⟨w.heap.size, 0, none⟩ = some (.int .i64 xk) := pw_cell_below (below_two (w.alloc _) _ _) (cell_new0 w _ _ _)
 have k1 : (((w.alloc (.cells #[.int .i64 xk, .int .i64 xn] 25)).alloc (.cells #[.int .i64 yk, .int .i64 yn] 25)).alloc (.cells #[.int .i64 0, .int .i64 0] 25)).cell? ⟨w.heap.size, 1, none⟩ = some (.int .i64 xn) := pw_cell_below (below_two (w.alloc _) _ _) (cell_new1 w _ _ _)
 have l0 : (((w.alloc (.cells #[.int .i64 xk, .int .i64 xn] 25)).alloc (.cells #[.int .i64 yk, .int .i64 yn] 25)).alloc (.cells #[.int .i64 0, .int .i64 0] 25)).cell? ⟨w.heap.size + 1, 0, none⟩ = some (.int .i64 yk) := pw_cell_below (below_one ((w.alloc _).alloc _) _) (by simp)
 have l1 : (((w.alloc (.cells #[.int .i64 xk, .int .i64 xn] 25)).alloc (.cells #[.int .i64 yk, .int .i64 yn] 25)).alloc (.cells #[.int .i64 0, .int .i64 0] 25)).cell? ⟨w.heap.size + 1, 1, none⟩ = some (.int .i64 yn) := pw_cell_below (below_one ((w.alloc _).alloc _) _) (by simp)
 have r0 : (((w.alloc (.cells #[.int .i64 xk, .int .i64 xn] 25)).alloc (.cells #[.int .i64 yk, .int .i64 yn] 25)).alloc (.cells #[.int .i64 0, .int .i64 0] 25)).heap[w.heap.size + 2]? = some (.cells #[.int .i64 0, .int .i64 0] 25 (0, 0)) := blk_new3' _ _ _ _
 have m0 := cell_of_row _ _ 0 _ _ _ r0
 have m1 := cell_of_row _ _ 1 _ _ _ r0
 have z0 := blk_frozen r0 0
 have z1 := blk_frozen r0 1
 simp only [List.getElem?_toArray, List.getElem?_cons_zero, List.getElem?_cons_succ] at m0 m1
 have HB0 := Sd.mk hb0
 by_cases h1 : xk = 3
 ·subst h1
  rw [if_pos (Or.inl rfl)]
  clear HF eg hc r0
  go_enter Tryz.func160, Tryz.ntmps160
  go_wp2_with fail
  generalize ((w.alloc (.cells #[.int .i64 3, .int .i64 xn] 25)).alloc (.cells #[.int .i64 yk, .int .i64 yn] 25)).alloc (.cells #[.int .i64 0, .int .i64 0] 25) = W2 at HB0 cb k0 k1 l0 l1 m0 m1 z0 z1 ⊢
  clear hb0
  go_wp2_with (go_at_call 42; refine (v_NaN.calls 3 0 _ (by rfl)).mono ?_; rintro e w1 ⟨rfl, hb1⟩; have m0_ := m0; have m1_ := m1; have m0 := pw_cell_below hb1 m0_; have m1 := pw_cell_below hb1 m1_; have z0 := fz_below hb1 m0_ z0; have z1 := fz_below hb1 m1_ z1; clear m0_ m1_; have HB1 := Sd.mk (HB0.out.trans (hb1.mono HB0.out.size)); clear hb1)
  exact bodyPost_ret (v := vv (3, 0)) (by simp [results, Tryz.results160, go_sem, m0, m1]) rfl ⟨rfl, (HB1.out.setCell (by simp; omega) _).setCell (by simp; omega) _⟩
 ·have c1 : (xk == 3) = false := beq_eq_false_iff_ne.2 h1
  by_cases h2 : yk = 3
  ·subst h2
   rw [if_pos (Or.inr rfl)]
   clear h1
   clear HF eg hc r0
   go_enter Tryz.func160, Tryz.ntmps160
   go_wp2_with fail
   generalize ((w.alloc (.cells #[.int .i64 xk, .int .i64 xn] 25)).alloc (.cells #[.int .i64 3, .int .i64 yn] 25)).alloc (.cells #[.int .i64 0, .int .i64 0] 25) = W2 at HB0 cb k0 k1 l0 l1 m0 m1 z0 z1 ⊢
   clear hb0
   go_wp2_with (go_at_call 42; refine (v_NaN.calls 3 0 _ (by rfl)).mono ?_; rintro e w1 ⟨rfl, hb1⟩; have m0_ := m0; have m1_ := m1; have m0 := pw_cell_below hb1 m0_; have m1 := pw_cell_below hb1 m1_; have z0 := fz_below hb1 m0_ z0; have z1 := fz_below hb1 m1_ z1; clear m0_ m1_; have HB1 := Sd.mk (HB0.out.trans (hb1.mono HB0.out.size)); clear hb1)
   exact bodyPost_ret (v := vv (3, 0)) (by simp [results, Tryz.results160, go_sem, m0, m1]) rfl ⟨rfl, (HB1.out.setCell (by simp; omega) _).setCell (by simp; omega) _⟩
  ·have c2 : (yk == 3) = false := beq_eq_false_iff_ne.2 h2
   rw [if_neg (fun h => h.elim h1 h2)]
   clear h1 h2 hc r0
   go_enter Tryz.func160, Tryz.ntmps160
   go_wp2_with fail
   generalize ((w.alloc (.cells #[.int .i64 xk, .int .i64 xn] 25)).alloc (.cells #[.int .i64 yk, .int .i64 yn] 25)).alloc (.cells #[.int .i64 0, .int .i64 0] 25) = W2 at HB0 cb k0 k1 l0 l1 m0 m1 z0 z1 ⊢
   clear hb0
   go_wp2_with (go_at_fn g; refine (HF.out _).mono ?_; rintro e w1 ⟨rfl, hb1⟩; have m0_ := m0; have m1_ := m1; have m0 := pw_cell_below hb1 m0_; have m1 := pw_cell_below hb1 m1_; have z0 := fz_below hb1 m0_ z0; have z1 := fz_below hb1 m1_ z1; clear m0_ m1_; have HB1 := Sd.mk (HB0.out.trans (hb1.mono HB0.out.size)); clear hb1)
   exact bodyPost_ret (v := vv (r1, r2)) (by simp [results, Tryz.results160, go_sem, m0, m1]) rfl ⟨rfl, (HB1.out.setCell (by simp; omega) _).setCell (by simp; omega) _⟩
theorem rank_calls (k n : Int) (w : World) : Calls Tryz.prog 130 #[.agg #[.int .i64 k, .int .i64 n]] w fun e w' => e = .returned (.int .i64 (vRank (k, n))) ∧ Below w.heap.size w w' := v_rank.calls k n _ w (rank_is (k, n))
/-- A test of two whole numbers. -/
def IsB (g : Nat) (F : Int → Int → Bool) : Prop := (∀ args w, (callFunc g args).run Tryz.prog w = .ok (.enter g args) w) ∧ ∀ w1 m n, Calls Tryz.prog g #[.int .i64 m, .int .i64 n] w1 fun e w' => e = .returned (.bool (F m n)) ∧ Drawn0 w1 w'
def vOrder (no : Bool) (F : Int → Int → Bool) (a b : V) : V := vTruth (if a.1 = 3 ∨ b.1 = 3 then no else F (vRank a) (vRank b))
theorem order1_calls (g : Nat) (no : Bool) (F : Int → Int → Bool) (hI : IsB g F) (b d : Nat) (x y : V) (w : World) (hc : w.cell? ⟨b, 0, none⟩ = some (.bool no)) (hd : w.cell? ⟨d, 0, none⟩ = some (.func (.func g) #[] #[])) :
  Calls Tryz.prog 165 #[vv x, vv y, .pointer (some ⟨b, 0, none⟩), .pointer (some ⟨d, 0, none⟩)] w fun e w' => e = .returned (vv (vOrder no F x y)) ∧ Below w.heap.size w w' := by
 obtain ⟨eg, hf⟩ := hI
 have hlt : b < w.heap.size := World.block_lt_of_cell? w _ hc
 have hlt' : d < w.heap.size := World.block_lt_of_cell? w _ hd
 obtain ⟨r1, r2, hrr⟩ : ∃ r1 r2, vOrder no F x y = (r1, r2) := ⟨_, _, rfl⟩
 have HT := Sd.mk ((truth_is (if x.1 = 3 ∨ y.1 = 3 then no else F (vRank x) (vRank y))).trans (congrArg some hrr))
 have HF := Sd.mk (fun w1 => hf w1 (vRank x) (vRank y))
 rw [hrr]
 clear hrr hf
 generalize F (vRank x) (vRank y) = fb at HF HT
 obtain ⟨xk, xn⟩ := x
 obtain ⟨yk, yn⟩ := y
 have hb0 : Below w.heap.size w (((w.alloc (.cells #[.int .i64 xk, .int .i64 xn] 25)).alloc (.cells #[.int .i64 yk, .int .i64 yn] 25)).alloc (.cells #[.int .i64 0, .int .i64 0] 25)) := (((Below.refl _ _).alloc (Nat.le_refl _) _).alloc (by simp) _).alloc (by simp; omega) _
 have cb : (((w.alloc (.cells #[.int .i64 xk, .int .i64 xn] 25)).alloc (.cells #[.int .i64 yk, .int .i64 yn] 25)).alloc (.cells #[.int .i64 0, .int .i64 0] 25)).cell? ⟨b, 0, none⟩ = some (.bool no) := (hb0.cell hlt).trans hc
 have cc : (((w.alloc (.cells #[.int .i64 xk, .int .i64 xn] 25)).alloc (.cells #[.int .i64 yk, .int .i64 yn] 25)).alloc (.cells #[.int .i64 0, .int .i64 0] 25)).cell? ⟨d, 0, none⟩ = some (.func (.func g) #[] #[]) := (hb0.cell hlt').trans hd
 have k0 : (((w.alloc (.cells #[.int .i64 xk, .int .i64 xn] 25)).alloc (.cells #[.int .i64 yk, .int .i64 yn] 25)).alloc (.cells #[.int .i64 0, .int .i64 0] 25)).cell? ⟨w.heap.size, 0, none⟩ = some (.int .i64 xk) := pw_cell_below (below_two (w.alloc _) _ _) (cell_new0 w _ _ _)
 have k1 : (((w.alloc (.cells #[.int .i64 xk, .int .i64 xn] 25)).alloc (.cells #[.int .i64 yk, .int .i64 yn] 25)).alloc (.cells #[.int .i64 0, .int .i64 0] 25)).cell? ⟨w.heap.size, 1, none⟩ = some (.int .i64 xn) := pw_cell_below (below_two (w.alloc _) _ _) (cell_new1 w _ _ _)
 have l0 : (((w.alloc (.cells #[.int .i64 xk, .int .i64 xn] 25)).alloc (.cells #[.int .i64 yk, .int .i64 yn] 25)).alloc (.cells #[.int .i64 0, .int .i64 0] 25)).cell? ⟨w.heap.size + 1, 0, none⟩ = some (.int .i64 yk) := pw_cell_below (below_one ((w.alloc _).alloc _) _) (by simp)
 have l1 : (((w.alloc (.cells #[.int .i64 xk, .int .i64 xn] 25)).alloc (.cells #[.int .i64 yk, .int .i64 yn] 25)).alloc (.cells #[.int .i64 0, .int .i64 0] 25)).cell? ⟨w.heap.size + 1, 1, none⟩ = some (.int .i64 yn) := pw_cell_below (below_one ((w.alloc _).alloc _) _) (by simp)
 have r0 : (((w.alloc (.cells #[.int .i64 xk, .int .i64 xn] 25)).alloc (.cells #[.int .i64 yk, .int .i64 yn] 25)).alloc (.cells #[.int .i64 0, .int .i64 0] 25)).heap[w.heap.size + 2]? = some (.cells #[.int .i64 0, .int .i64 0] 25 (0, 0)) := blk_new3' _ _ _ _
 have m0 := cell_of_row _ _ 0 _ _ _ r0
 have m1 := cell_of_row _ _ 1 _ _ _ r0
 have z0 := blk_frozen r0 0
 have z1 := blk_frozen r0 1
 simp only [List.getElem?_toArray, List.getElem?_cons_zero, List.getElem?_cons_succ] at m0 m1
 have HB0 := Sd.mk hb0
 by_cases h1 : xk = 3
 ·subst h1
  rw [if_pos (Or.inl rfl)] at HT
  clear HF eg hc hd r0
  go_enter Tryz.func165, Tryz.ntmps165
  go_wp2_with fail
  generalize ((w.alloc (.cells #[.int .i64 3, .int .i64 xn] 25)).alloc (.cells #[.int .i64 yk, .int .i64 yn] 25)).alloc (.cells #[.int .i64 0, .int .i64 0] 25) = W2 at HB0 cb cc k0 k1 l0 l1 m0 m1 z0 z1 ⊢
  clear hb0
  go_wp2_with (go_at_call 124; refine (v_Truth.calls _ r1 r2 _ HT.out).mono ?_; rintro e w1 ⟨rfl, hb1⟩; have m0_ := m0; have m1_ := m1; have cb := pw_cell_below hb1 cb; have cc := pw_cell_below hb1 cc; have k0 := pw_cell_below hb1 k0; have k1 := pw_cell_below hb1 k1; have l0 := pw_cell_below hb1 l0; have l1 := pw_cell_below hb1 l1; have m0 := pw_cell_below hb1 m0_; have m1 := pw_cell_below hb1 m1_; have z0 := fz_below hb1 m0_ z0; have z1 := fz_below hb1 m1_ z1; clear m0_ m1_; have HB0 := Sd.mk (HB0.out.trans (hb1.mono HB0.out.size)); clear hb1)
  exact bodyPost_ret (v := vv (r1, r2)) (by simp [results, Tryz.results165, go_sem, m0, m1]) rfl ⟨rfl, (HB0.out.setCell (by simp; omega) _).setCell (by simp; omega) _⟩
 ·have c1 : (xk == 3) = false := beq_eq_false_iff_ne.2 h1
  by_cases h2 : yk = 3
  ·subst h2
   rw [if_pos (Or.inr rfl)] at HT
   clear h1
   clear HF eg hc hd r0
   go_enter Tryz.func165, Tryz.ntmps165
   go_wp2_with fail
   generalize ((w.alloc (.cells #[.int .i64 xk, .int .i64 xn] 25)).alloc (.cells #[.int .i64 3, .int .i64 yn] 25)).alloc (.cells #[.int .i64 0, .int .i64 0] 25) = W2 at HB0 cb cc k0 k1 l0 l1 m0 m1 z0 z1 ⊢
   clear hb0
   go_wp2_with (go_at_call 124; refine (v_Truth.calls _ r1 r2 _ HT.out).mono ?_; rintro e w1 ⟨rfl, hb1⟩; have m0_ := m0; have m1_ := m1; have cb := pw_cell_below hb1 cb; have cc := pw_cell_below hb1 cc; have k0 := pw_cell_below hb1 k0; have k1 := pw_cell_below hb1 k1; have l0 := pw_cell_below hb1 l0; have l1 := pw_cell_below hb1 l1; have m0 := pw_cell_below hb1 m0_; have m1 := pw_cell_below hb1 m1_; have z0 := fz_below hb1 m0_ z0; have z1 := fz_below hb1 m1_ z1; clear m0_ m1_; have HB0 := Sd.mk (HB0.out.trans (hb1.mono HB0.out.size)); clear hb1)
   exact bodyPost_ret (v := vv (r1, r2)) (by simp [results, Tryz.results165, go_sem, m0, m1]) rfl ⟨rfl, (HB0.out.setCell (by simp; omega) _).setCell (by simp; omega) _⟩
  ·have c2 : (yk == 3) = false := beq_eq_false_iff_ne.2 h2
   rw [if_neg (fun h => h.elim h1 h2)] at HT
   clear h1 h2 hc hd r0
   go_enter Tryz.func165, Tryz.ntmps165
   go_wp2_with fail
   generalize ((w.alloc (.cells #[.int .i64 xk, .int .i64 xn] 25)).alloc (.cells #[.int .i64 yk, .int .i64 yn] 25)).alloc (.cells #[.int .i64 0, .int .i64 0] 25) = W2 at HB0 cb cc k0 k1 l0 l1 m0 m1 z0 z1 ⊢
   clear hb0
   go_region_with (first
     | (go_at_call 130; refine (rank_calls _ _ _).mono ?_; rintro e w1 ⟨rfl, hb1⟩; first | (have m0_ := m0; have m1_ := m1; have cb := pw_cell_below hb1 cb; have cc := pw_cell_below hb1 cc; have k0 := pw_cell_below hb1 k0; have k1 := pw_cell_below hb1 k1; have l0 := pw_cell_below hb1 l0; have l1 := pw_cell_below hb1 l1; have m0 := pw_cell_below hb1 m0_; have m1 := pw_cell_below hb1 m1_; have z0 := fz_below hb1 m0_ z0; have z1 := fz_below hb1 m1_ z1; clear m0_ m1_; have HB0 := Sd.mk (HB0.out.trans (hb1.mono HB0.out.size)); clear hb1) | (have m0_ := m0; have m1_ := m1; have cb := pw_cell_below hb1 cb; have cc := pw_cell_below hb1 cc; have k0 := pw_cell_below hb1 k0; have k1 := pw_cell_below hb1 k1; have l0 := pw_cell_below hb1 l0; have l1 := pw_cell_below hb1 l1; have m0 := pw_cell_below hb1 m0_; have m1 := pw_cell_below hb1 m1_; have z0 := fz_below hb1 m0_ z0; have z1 := fz_below hb1 m1_ z1; clear m0_ m1_; have HB0 := Sd.mk (HB0.out.trans (((Below.refl _ _).drew.trans hb1).mono HB0.out.size)); clear hb1))
     | (go_at_fn g; refine (HF.out _).mono ?_; rintro e w1 ⟨rfl, hb1'⟩; have hb1 := hb1'.below; clear hb1'; have m0_ := m0; have m1_ := m1; have cb := pw_cell_below hb1 cb; have cc := pw_cell_below hb1 cc; have k0 := pw_cell_below hb1 k0; have k1 := pw_cell_below hb1 k1; have l0 := pw_cell_below hb1 l0; have l1 := pw_cell_below hb1 l1; have m0 := pw_cell_below hb1 m0_; have m1 := pw_cell_below hb1 m1_; have z0 := fz_below hb1 m0_ z0; have z1 := fz_below hb1 m1_ z1; clear m0_ m1_; have HB0 := Sd.mk (HB0.out.trans (hb1.mono HB0.out.size)); clear hb1)
     | (go_at_call 124; refine (v_Truth.calls _ r1 r2 _ HT.out).mono ?_; rintro e w1 ⟨rfl, hb1⟩; have m0_ := m0; have m1_ := m1; have cb := pw_cell_below hb1 cb; have cc := pw_cell_below hb1 cc; have k0 := pw_cell_below hb1 k0; have k1 := pw_cell_below hb1 k1; have l0 := pw_cell_below hb1 l0; have l1 := pw_cell_below hb1 l1; have m0 := pw_cell_below hb1 m0_; have m1 := pw_cell_below hb1 m1_; have z0 := fz_below hb1 m0_ z0; have z1 := fz_below hb1 m1_ z1; clear m0_ m1_; have HB0 := Sd.mk (HB0.out.trans (hb1.mono HB0.out.size)); clear hb1))
   all_goals
    go_wp2_with fail
    exact bodyPost_ret (v := vv (r1, r2)) (by simp [results, Tryz.results165, go_sem, m0, m1]) rfl ⟨rfl, (HB0.out.setCell (by simp; omega) _).setCell (by simp; omega) _⟩
def layC_ren : Go.Shelf.Ren := ⟨fun | 29 => 173 | 31 => 159 | n => n, fun | 22 => 148 | 23 => 3 | n => n, fun | n => n⟩
theorem layC : Go.Proofs.SlLaysE.n31 Tryz.prog layC_ren := {
 mixed := by kernel_rfl
 f29 := ⟨Tryz.f173.name, by decide, Tryz.func173.trans (congrArg some (by kernel_rfl))⟩
 f31 := ⟨Tryz.f159.name, by decide, Tryz.func159.trans (congrArg some (by kernel_rfl))⟩
 t0 := Tryz.underlying0
 a0 := Tryz.isAgg0
 z0 := Tryz.sizeOf0
 v0 := Tryz.zeroValue0
 t3 := Tryz.underlying3
 a3 := Tryz.isAgg3
 z3 := Tryz.sizeOf3
 v3 := Tryz.zeroValue3
 t4 := Tryz.underlying4
 a4 := Tryz.isAgg4
 z4 := Tryz.sizeOf4
 v4 := Tryz.zeroValue4
 t22 := Tryz.underlying148
 a22 := Tryz.isAgg148
 z22 := Tryz.sizeOf148
 v22 := Tryz.zeroValue148
 a23 := Tryz.isAgg3
 z23 := Tryz.sizeOf3 }
def vKind (ks : List Int) (a : V) : V := vTruth (ks.any fun y => a.1 == y)
theorem kind1_calls (ks : List Int) (bb cap b : Nat) (x : V) (w : World) (hl : ks.length ≤ 9223372036854775807) (hc : w.cell? ⟨b, 0, none⟩ = some (.slice (some ⟨bb, 0, none⟩) ks.length cap)) (hk : ∀ j, j < ks.length → w.cell? ⟨bb, j, none⟩ = some (.int .i64 ks[j]!)) :
  Calls Tryz.prog 158 #[vv x, .pointer (some ⟨b, 0, none⟩)] w fun e w' => e = .returned (vv (vKind ks x)) ∧ Below w.heap.size w w' := by
 have hlt : b < w.heap.size := World.block_lt_of_cell? w _ hc
 obtain ⟨xk, xn⟩ := x
 have HCON := Sd.mk (fun (w1 : World) (h1 : Below w.heap.size w w1) => AnyE.slices_Contains layC (Value.int .i64) (fun x y => x == y) (EqlAt.int _ _ .i64) bb 0 ks.length cap ks xk w1 (Nat.le_refl _) hl (fun j hj => (h1.cell (p := ⟨bb, 0 + j, none⟩) (World.block_lt_of_cell? w ⟨bb, j, none⟩ (hk j hj))).trans (by rw [Nat.zero_add]; exact hk j hj)))
 obtain ⟨r1, r2, hrr⟩ : ∃ r1 r2, vKind ks (xk, xn) = (r1, r2) := ⟨_, _, rfl⟩
 have HT := Sd.mk ((truth_is (ks.any fun y => xk == y)).trans (congrArg some hrr))
 rw [hrr]
 clear hrr hk
 rw [List.take_length] at HCON
 generalize (ks.any fun y => xk == y) = q at HT HCON
 generalize ks.length = n at hc HCON
 have hb0 : Below w.heap.size w ((w.alloc (.cells #[.int .i64 xk, .int .i64 xn] 25)).alloc (.cells #[.int .i64 0, .int .i64 0] 25)) := below_two w _ _
 have cb : ((w.alloc (.cells #[.int .i64 xk, .int .i64 xn] 25)).alloc (.cells #[.int .i64 0, .int .i64 0] 25)).cell? ⟨b, 0, none⟩ = some (.slice (some ⟨bb, 0, none⟩) n cap) := (hb0.cell hlt).trans hc
 have k0 : ((w.alloc (.cells #[.int .i64 xk, .int .i64 xn] 25)).alloc (.cells #[.int .i64 0, .int .i64 0] 25)).cell? ⟨w.heap.size, 0, none⟩ = some (.int .i64 xk) := pw_cell_below (below_one (w.alloc _) _) (cell_new0 w _ _ _)
 have r0 : ((w.alloc (.cells #[.int .i64 xk, .int .i64 xn] 25)).alloc (.cells #[.int .i64 0, .int .i64 0] 25)).heap[w.heap.size + 1]? = some (.cells #[.int .i64 0, .int .i64 0] 25 (0, 0)) := blk_new2' _ _ _
 have m0 := cell_of_row _ _ 0 _ _ _ r0
 have m1 := cell_of_row _ _ 1 _ _ _ r0
 have z0 := blk_frozen r0 0
 have z1 := blk_frozen r0 1
 simp only [List.getElem?_toArray, List.getElem?_cons_zero, List.getElem?_cons_succ] at m0 m1
 have HB0 := Sd.mk hb0
 clear hc r0 hl
 go_enter Tryz.func158, Tryz.ntmps158
 go_wp2_with fail
 generalize (w.alloc (.cells #[.int .i64 xk, .int .i64 xn] 25)).alloc (.cells #[.int .i64 0, .int .i64 0] 25) = W2 at HB0 cb k0 m0 m1 z0 z1 ⊢
 clear hb0
 go_wp2_with (first
  | (go_at_call 159; refine (HCON.out _ HB0.out).mono ?_; rintro e w' ⟨rfl, rfl⟩)
  | (go_at_call 124; refine (v_Truth.calls _ r1 r2 _ HT.out).mono ?_; rintro e w1 ⟨rfl, hb1⟩; have m0_ := m0; have m1_ := m1; have m0 := pw_cell_below hb1 m0_; have m1 := pw_cell_below hb1 m1_; have z0 := fz_below hb1 m0_ z0; have z1 := fz_below hb1 m1_ z1; clear m0_ m1_; have HB0 := Sd.mk (HB0.out.trans (hb1.mono HB0.out.size)); clear hb1))
 exact bodyPost_ret (v := vv (r1, r2)) (by simp [results, Tryz.results158, go_sem, m0, m1]) rfl ⟨rfl, (HB0.out.setCell (by simp) _).setCell (by simp) _⟩
end Go.Proofs.YtcmiehddjgfjaaaGreat.A
namespace Go.Proofs.YtcmiehddjgfjaaaGreat.V
open Go.RowKit Go.Proofs.YtcmiehddjgfjaaaGreatW.PrintWords Go.Proofs.YtcmiehddjgfjaaaGreatW.PrintLast Go.Proofs.YtcmiehddjgfjaaaGreatW.PrintMore
/-- All blocks but r are as they were. -/
def Keeps (r : Nat) (w w1 : World) : Prop := w.heap.size ≤ w1.heap.size ∧ ∀ b, b < w.heap.size → b ≠ r → w1.heap[b]? = w.heap[b]?
theorem Keeps.refl (r : Nat) (w : World) : Keeps r w w := ⟨Nat.le_refl _, fun _ _ _ => rfl⟩
theorem Keeps.trans {r : Nat} {w w1 w2 : World} (h : Keeps r w w1) (h' : Keeps r w1 w2) : Keeps r w w2 := ⟨Nat.le_trans h.1 h'.1, fun b hb hn => (h'.2 b (Nat.lt_of_lt_of_le hb h.1) hn).trans (h.2 b hb hn)⟩
theorem Keeps.of_below {r : Nat} {w w1 : World} (h : Below w.heap.size w w1) : Keeps r w w1 := ⟨h.size, fun b hb _ => h.block b hb⟩
theorem cell_of_block {w w1 : World} {a : Addr} (h : w1.heap[a.block]? = w.heap[a.block]?) : w1.cell? a = w.cell? a := by
 unfold World.cell?
 rw [h]
theorem Keeps.cell {r : Nat} {w w1 : World} (h : Keeps r w w1) {b o : Nat} {v : Value} (hn : b ≠ r) (hc : w.cell? ⟨b, o, none⟩ = some v) : w1.cell? ⟨b, o, none⟩ = some v :=
 (cell_of_block (a := ⟨b, o, none⟩) (h.2 b (World.block_lt_of_cell? w _ hc) hn)).trans hc
section
variable {P : Program} {w : World} {r : Nat} {l : List (ByteArray × Value)} {T ks el : TypeId}
theorem run_insertK (ht : P.underlying T = some (.map ks el)) (hs : P.underlying ks = some .string) (h : HM w r l) (s : ByteArray) (v : Value) (hno : l.lookup s = none) :
  ∃ w', (Instr.mapUpdate T (.map (some r)) (.string s) v).run P w = .ok () w' ∧ HM w' r (l ++ [(s, v)]) ∧ (∀ B w0, B ≤ r → Below B w0 w → Below B w0 w') ∧ Keeps r w w' := by
 have hlt : r < w.heap.size := (Array.getElem?_eq_some_iff.1 h).1
 obtain ⟨j, hf⟩ := find_some s l 0 0
 rw [hno] at hf
 refine ⟨{ w with heap := w.heap.setIfInBounds r (.map ((ents l 0).toArray.push { key := .string s, val := v, born := l.length }) (l.length + 1)) }, ?_, ?_, ?_, ?_⟩
 ·have hget : w.heap[r]? = some (.map (ents l 0).toArray l.length) := h
  have hfk : (Instr.findKey ks (.string s) (ents l 0)).run P w = .ok none w := MapKept.run_findKey hs hf
  have hck : (Instr.checkKey false 10000 ks (.string s)).run P w = .ok () w := MapKept.run_checkKey hs (by simp [MapKept.IsKey]) false 9999
  have hst := fun o => MapKept.run_setObj_map (P := P) o hget
  simp [Instr.mapUpdate, run_underlying ht, hck, MapKept.run_getObj_map hget, hst, hfk]
 ·unfold HM
  simp [hlt, ents_snoc]
 ·intro B w0 hB hb
  refine hb.trans ⟨rfl, rfl, rfl, by simp, fun k hk => ?_⟩
  simp only
  rw [Array.getElem?_setIfInBounds_ne (by omega)]
 ·refine ⟨by simp, fun b hb hn => ?_⟩
  simp only
  rw [Array.getElem?_setIfInBounds_ne (by omega)]
end
section
variable {P : Program} {ops : Array Oper} {rest : List Oper} {o : Oper} {a : Act} {Q : Exit → Act → World → Prop} {w w0 : World} {r B : Nat} {l : List (ByteArray × Value)} {T ks el : TypeId}
/-- One entry more, in a literal. -/
theorem wpList_insertK (s : ByteArray) {m v : Operand} (hd : o.dst = none) (hgd : o.guard = none) (ho : o.op = .insert T m (.const (.string s)) v) (ht : P.underlying T = some (.map ks el)) (hs : P.underlying ks = some .string)
  (u : Value) (hm : a.eval m = .map (some r)) (hv : a.eval v = u) (h : HM w r l) (hno : l.lookup s = none) (hB : B ≤ r) (HB : Below B w0 w)
  (hK : ∀ w', HM w' r (l ++ [(s, u)]) → Below B w0 w' → Keeps r w w' → wpList P ops Q rest a w') : wpList P ops Q (o :: rest) a w := by
 subst hv
 obtain ⟨w', h1, h2, h3, h4⟩ := run_insertK ht hs h s (a.eval v) hno
 refine wpList_plain hgd fun K hK' => ?_
 unfold Oper.wp execOp
 have hc : a.eval (.const (.string s)) = .string s := rfl
 simp only [ho, hm, hc, Sem.run_bind, Sem.run_pure, Result.andThen_ok, h1]
 show K (a.put o.dst undef) _
 rw [hd]
 exact hK' a _ (hK w' h2 (h3 B w0 hB HB) h4)
end
end Go.Proofs.YtcmiehddjgfjaaaGreat.V
namespace Go.Proofs.YtcmiehddjgfjaaaGreat.A
open Go.RowKit Go.Proofs.YtcmiehddjgfjaaaGreatW.PrintWords Go.Proofs.YtcmiehddjgfjaaaGreatW.PrintLast Go.Proofs.YtcmiehddjgfjaaaGreatW.PrintMore Go.Proofs.YtcmiehddjgfjaaaGreat.V
/-- f tells F of a value, in whatever world in which all but block r lies as it does here. -/
def At1 (f : Value) (r : Nat) (w : World) (F : V → V) : Prop := ∃ (g : Nat) (cb : Array Value), f = .func (.func g) #[] cb ∧ (∀ args w, (callFunc g args).run Tryz.prog w = .ok (.enter g args) w) ∧
 ∀ w1, Keeps r w w1 → ∀ a, isV a → Calls Tryz.prog g (#[vv a] ++ cb) w1 fun e w' => e = .returned (vv (F a)) ∧ Below w1.heap.size w1 w'
def At2 (f : Value) (r : Nat) (w : World) (F : V → V → V) : Prop := ∃ (g : Nat) (cb : Array Value), f = .func (.func g) #[] cb ∧ (∀ args w, (callFunc g args).run Tryz.prog w = .ok (.enter g args) w) ∧
 ∀ w1, Keeps r w w1 → ∀ a b, isV a → isV b → Calls Tryz.prog g (#[vv a, vv b] ++ cb) w1 fun e w' => e = .returned (vv (F a b)) ∧ Below w1.heap.size w1 w'
theorem At1.keeps {f : Value} {r : Nat} {w w' : World} {F : V → V} (h : At1 f r w F) (hb : Keeps r w w') : At1 f r w' F := by
 obtain ⟨g, cb, rfl, eg, hc⟩ := h
 exact ⟨g, cb, rfl, eg, fun w1 h1 => hc w1 (hb.trans h1)⟩
theorem At2.keeps {f : Value} {r : Nat} {w w' : World} {F : V → V → V} (h : At2 f r w F) (hb : Keeps r w w') : At2 f r w' F := by
 obtain ⟨g, cb, rfl, eg, hc⟩ := h
 exact ⟨g, cb, rfl, eg, fun w1 h1 => hc w1 (hb.trans h1)⟩
theorem plain_calls (g : Nat) (F : Int → Int) (hI : IsI g F) (r : Nat) (w : World) (hr : r < w.heap.size) :
  Calls Tryz.prog 118 #[.func (.func g) #[] #[]] w fun e w' => ∃ f, e = .returned f ∧ At1 f r w' (vPlain F) ∧ Below w.heap.size w w' := by
 have HI := Sd.mk hI
 clear hI
 go_enter Tryz.func118, Tryz.ntmps118
 go_wp2
 go_ret
 refine ⟨_, rfl, ⟨157, #[.pointer (some ⟨w.heap.size, 0, none⟩)], rfl, enters_of Tryz.func157 (by kernel_rfl) rfl, fun w1 h1 a ha => ?_⟩, below_one w _⟩
 exact plain1_calls g F HI.out w.heap.size a w1 ha (h1.cell (by omega) (by simp))
theorem numbers_calls (g : Nat) (F : V → V → V) (hI : IsP g F) (r : Nat) (w : World) (hr : r < w.heap.size) :
  Calls Tryz.prog 126 #[.func (.func g) #[] #[]] w fun e w' => ∃ f, e = .returned f ∧ At2 f r w' (vNumbers F) ∧ Below w.heap.size w w' := by
 have HI := Sd.mk hI
 clear hI
 go_enter Tryz.func126, Tryz.ntmps126
 go_wp2
 go_ret
 refine ⟨_, rfl, ⟨160, #[.pointer (some ⟨w.heap.size, 0, none⟩)], rfl, enters_of Tryz.func160 (by kernel_rfl) rfl, fun w1 h1 a b ha hb => ?_⟩, below_one w _⟩
 exact numbers1_calls g F HI.out w.heap.size a b w1 ha hb (h1.cell (by omega) (by simp))
theorem order_calls (no : Bool) (g : Nat) (F : Int → Int → Bool) (hI : IsB g F) (r : Nat) (w : World) (hr : r < w.heap.size) :
  Calls Tryz.prog 133 #[.bool no, .func (.func g) #[] #[]] w fun e w' => ∃ f, e = .returned f ∧ At2 f r w' (vOrder no F) ∧ Below w.heap.size w w' := by
 have HI := Sd.mk hI
 clear hI
 go_enter Tryz.func133, Tryz.ntmps133
 go_wp2
 go_ret
 refine ⟨_, rfl, ⟨165, #[.pointer (some ⟨w.heap.size, 0, none⟩), .pointer (some ⟨w.heap.size + 1, 0, none⟩)], rfl, enters_of Tryz.func165 (by kernel_rfl) rfl, fun w1 h1 a b ha hb => ?_⟩, below_two w _ _⟩
 exact order1_calls g no F HI.out w.heap.size (w.heap.size + 1) a b w1 (h1.cell (by omega) (by simp)) (h1.cell (by omega) (by simp))
theorem kind_calls (ks : List Int) (bb cap r : Nat) (w : World) (hr : r < w.heap.size) (hbr : bb ≠ r) (hl : ks.length ≤ 9223372036854775807) (hk : ∀ j, j < ks.length → w.cell? ⟨bb, j, none⟩ = some (.int .i64 ks[j]!)) :
  Calls Tryz.prog 125 #[.slice (some ⟨bb, 0, none⟩) ks.length cap] w fun e w' => ∃ f, e = .returned f ∧ At1 f r w' (vKind ks) ∧ Below w.heap.size w w' := by
 have HK := Sd.mk hk
 clear hk
 go_enter Tryz.func125, Tryz.ntmps125
 go_wp2
 go_ret
 refine ⟨_, rfl, ⟨158, #[.pointer (some ⟨w.heap.size, 0, none⟩)], rfl, enters_of Tryz.func158 (by kernel_rfl) rfl, fun w1 h1 a ha => ?_⟩, below_one w _⟩
 exact kind1_calls ks bb cap w.heap.size a w1 hl (h1.cell (by omega) (by simp)) fun j hj => h1.cell hbr (pw_cell_below (below_one w _) (HK.out j hj))
theorem ones1_is : IsI 119 (fun n => -n) := ⟨enters_of Tryz.func119 (by kernel_rfl) rfl, fun w1 n h0 h1 => by
 refine (v_ones_1.calls n (-n) w1 ?_).mono fun e w' h => ⟨h.1, h.2.below⟩
 unfold v_ones_1.f
 rw [wrap_id (by omega) (by omega)]⟩
def vMax (n : Int) : Int := if n < -n then -n else n
theorem ones2_is : IsI 120 vMax := ⟨enters_of Tryz.func120 (by kernel_rfl) rfl, fun w1 n h0 h1 => by
 refine v_ones_2.calls n (vMax n) w1 ?_
 unfold v_ones_2.f
 rw [wrap_id (by omega) (by omega)]; rfl⟩
def vFloor (a : V) : V := if a.1 = 1 then vNum (a.2 - (a.2.tmod 1000 + 1000).tmod 1000) else a
def vNot (a : V) : V := if a.1 = 2 then a else vTruth (!vTrue a)
theorem tmod_bd (x : Int) : -1000 < x.tmod 1000 ∧ x.tmod 1000 < 1000 := ⟨Int.lt_tmod_of_pos x (by decide), Int.tmod_lt_of_pos x (by decide)⟩
theorem ones3_is {a : V} (ha : isV a) : v_ones_3.f a.1 a.2 = some (vFloor a) := by
 unfold v_ones_3.f vFloor
 have e : v_finite.f a.1 a.2 = some (decide (a.1 = 1)) := by
  unfold v_finite.f
  first | rfl | (congr 1)
 rw [e]
 show (if decide (a.1 = 1) = true then _ else _) = _
 by_cases h : a.1 = 1
 ·have hb : -1000000000000000 ≤ a.2 ∧ a.2 ≤ 1000000000000000 := by
   rcases ha with ⟨_, h1, h2⟩ | ⟨_, h2⟩
   ·exact ⟨h1, h2⟩
   ·omega
  rw [if_pos (decide_eq_true h), if_pos h]
  have t1 := tmod_bd a.2
  have t2 := tmod_bd (a.2.tmod 1000 + 1000)
  have e1 : wrap64 (a.2.tmod 1000 + 1000) = a.2.tmod 1000 + 1000 := wrap_id (by omega) (by omega)
  rw [e1, wrap_id (by omega) (by omega), num_is]; rfl
 ·rw [if_neg (by simpa using h), if_neg h]
theorem ones4_is (a : V) : v_ones_4.f a.1 a.2 = some (vNot a) := by
 unfold v_ones_4.f vNot
 rw [true_is a]
 by_cases h : a.1 = 2
 ·rw [if_pos h, if_pos h]
 ·rw [if_neg h, if_neg h]
  show (v_Truth.f (!vTrue a)).bind _ = _
  rw [truth_is]; rfl
theorem is1_ones3 (r : Nat) (w : World) : At1 (.func (.func 121) #[] #[]) r w vFloor := ⟨_, _, rfl, enters_of Tryz.func121 (by kernel_rfl) rfl, fun w1 _ a ha => v_ones_3.calls a.1 a.2 _ _ w1 (ones3_is ha)⟩
theorem is1_ones4 (r : Nat) (w : World) : At1 (.func (.func 123) #[] #[]) r w vNot := ⟨_, _, rfl, enters_of Tryz.func123 (by kernel_rfl) rfl, fun w1 _ a ha => v_ones_4.calls a.1 a.2 _ _ w1 (ones4_is a)⟩
theorem add_isP : IsP 127 vAdd := ⟨enters_of Tryz.func127 (by kernel_rfl) rfl, fun w1 a b ha hb => v_add.calls 3 a.1 a.2 b.1 b.2 _ _ w1 (add_is ha hb)⟩
theorem mul_isP : IsP 131 vMul := ⟨enters_of Tryz.func131 (by kernel_rfl) rfl, fun w1 a b ha hb => v_mul.calls 1 a.1 a.2 b.1 b.2 _ _ w1 (mul_is ha hb)⟩
theorem div_isP : IsP 132 vDiv := ⟨enters_of Tryz.func132 (by kernel_rfl) rfl, fun w1 a b ha hb => v_div.calls 2 a.1 a.2 b.1 b.2 _ _ w1 (div_is ha hb)⟩
def vSub (a b : V) : V := vAdd a (vNum (-vRank b))
theorem sub_is {a b : V} (ha : isV a) (hb : isV b) : v_twos_1.f 3 a.1 a.2 b.1 b.2 = some (vSub a b) := by
 have hr := isV_rank hb
 unfold v_twos_1.f vSub
 rw [rank_is b]
 show (v_back.f (wrap64 (-vRank b))).bind _ = _
 rw [wrap_id (by omega) (by omega), back_is]
 show (v_add.f 3 a.1 a.2 (vNum (-vRank b)).1 (vNum (-vRank b)).2).bind _ = _
 rw [add_is ha isV_num]; rfl
theorem sub_isP : IsP 128 vSub := ⟨enters_of Tryz.func128 (by kernel_rfl) rfl, fun w1 a b ha hb => v_twos_1.calls 3 a.1 a.2 b.1 b.2 _ _ w1 (sub_is ha hb)⟩
theorem eq_isB : IsB 134 (fun m n => m == n) := ⟨enters_of Tryz.func134 (by kernel_rfl) rfl, fun w1 m n => v_twos_2.calls m n _ w1 rfl⟩
theorem ne_isB : IsB 135 (fun m n => m != n) := ⟨enters_of Tryz.func135 (by kernel_rfl) rfl, fun w1 m n => v_twos_3.calls m n _ w1 rfl⟩
theorem lt_isB : IsB 136 (fun m n => decide (m < n)) := ⟨enters_of Tryz.func136 (by kernel_rfl) rfl, fun w1 m n => v_twos_4.calls m n _ w1 rfl⟩
theorem le_isB : IsB 137 (fun m n => decide (m ≤ n)) := ⟨enters_of Tryz.func137 (by kernel_rfl) rfl, fun w1 m n => v_twos_5.calls m n _ w1 rfl⟩
theorem gt_isB : IsB 138 (fun m n => decide (m > n)) := ⟨enters_of Tryz.func138 (by kernel_rfl) rfl, fun w1 m n => v_twos_6.calls m n _ w1 rfl⟩
theorem ge_isB : IsB 139 (fun m n => decide (m ≥ n)) := ⟨enters_of Tryz.func139 (by kernel_rfl) rfl, fun w1 m n => v_twos_7.calls m n _ w1 rfl⟩
def vAnd (a b : V) : V := vTruth (vTrue a && vTrue b)
def vOr (a b : V) : V := vTruth (vTrue a || vTrue b)
theorem and_is (a b : V) : v_twos_8.f a.1 a.2 b.1 b.2 = some (vAnd a b) := by
 unfold v_twos_8.f vAnd
 rw [true_is a, true_is b]
 cases vTrue a <;> simp [truth_is]
theorem or_is (a b : V) : v_twos_9.f a.1 a.2 b.1 b.2 = some (vOr a b) := by
 unfold v_twos_9.f vOr
 rw [true_is a, true_is b]
 cases vTrue a <;> simp [truth_is]
theorem is2_and (r : Nat) (w : World) : At2 (.func (.func 140) #[] #[]) r w vAnd := ⟨_, _, rfl, enters_of Tryz.func140 (by kernel_rfl) rfl, fun w1 _ a b ha hb => v_twos_8.calls a.1 a.2 b.1 b.2 _ _ w1 (and_is a b)⟩
theorem is2_or (r : Nat) (w : World) : At2 (.func (.func 141) #[] #[]) r w vOr := ⟨_, _, rfl, enters_of Tryz.func141 (by kernel_rfl) rfl, fun w1 _ a b ha hb => v_twos_9.calls a.1 a.2 b.1 b.2 _ _ w1 (or_is a b)⟩
def oneI (g : Nat) : Int → Int := if g = 119 then (fun n => -n) else vMax
theorem oneI_is {g : Nat} (h : g = 119 ∨ g = 120) : IsI g (oneI g) := by
 rcases h with rfl | rfl
 ·exact ones1_is
 ·exact ones2_is
def twoP (g : Nat) : V → V → V := if g = 127 then vAdd else if g = 128 then vSub else if g = 131 then vMul else vDiv
theorem twoP_is {g : Nat} (h : g = 127 ∨ g = 128 ∨ g = 131 ∨ g = 132) : IsP g (twoP g) := by
 rcases h with rfl | rfl | rfl | rfl
 ·exact add_isP
 ·exact sub_isP
 ·exact mul_isP
 ·exact div_isP
def twoB (g : Nat) : Int → Int → Bool := if g = 134 then (fun m n => m == n) else if g = 135 then (fun m n => m != n) else if g = 136 then (fun m n => decide (m < n)) else if g = 137 then (fun m n => decide (m ≤ n)) else if g = 138 then (fun m n => decide (m > n)) else (fun m n => decide (m ≥ n))
theorem twoB_is {g : Nat} (h : g = 134 ∨ g = 135 ∨ g = 136 ∨ g = 137 ∨ g = 138 ∨ g = 139) : IsB g (twoB g) := by
 rcases h with rfl | rfl | rfl | rfl | rfl | rfl
 ·exact eq_isB
 ·exact ne_isB
 ·exact lt_isB
 ·exact le_isB
 ·exact gt_isB
 ·exact ge_isB
theorem kind_one (k : Int) (r : Nat) (w : World) (hr : r < w.heap.size) : Calls Tryz.prog 125 #[.slice (some ⟨w.heap.size, 0, none⟩) 1 1] (w.alloc (.cells #[.int .i64 k] 3)) fun e w' => ∃ f, e = .returned f ∧ At1 f r w' (vKind [k]) ∧ Below w.heap.size w w' :=
 (kind_calls [k] w.heap.size 1 r _ (by simp; omega) (by omega) (by simp) (fun j hj => by
  have : j = 0 := by simp at hj; exact hj
  subst this; simp)).mono fun e w' ⟨f, h1, h2, h3⟩ => ⟨f, h1, h2, (below_one w _).trans (h3.mono (by simp))⟩
theorem kind_two (k l : Int) (r : Nat) (w : World) (hr : r < w.heap.size) : Calls Tryz.prog 125 #[.slice (some ⟨w.heap.size, 0, none⟩) 2 2] (w.alloc (.cells #[.int .i64 k, .int .i64 l] 3)) fun e w' => ∃ f, e = .returned f ∧ At1 f r w' (vKind [k, l]) ∧ Below w.heap.size w w' :=
 (kind_calls [k, l] w.heap.size 2 r _ (by simp; omega) (by omega) (by simp) (fun j hj => by
  have : j = 0 ∨ j = 1 := by simp at hj; omega
  rcases this with rfl | rfl <;> simp)).mono fun e w' ⟨f, h1, h2, h3⟩ => ⟨f, h1, h2, (below_one w _).trans (h3.mono (by simp))⟩
/-- The entries are these functions. -/
inductive Ents1 (r : Nat) (w : World) : List (ByteArray × Value) → List (ByteArray × (V → V)) → Prop
 | nil : Ents1 r w [] []
 | snoc {l t s f F} : Ents1 r w l t → At1 f r w F → Ents1 r w (l ++ [(s, f)]) (t ++ [(s, F)])
inductive Ents2 (r : Nat) (w : World) : List (ByteArray × Value) → List (ByteArray × (V → V → V)) → Prop
 | nil : Ents2 r w [] []
 | snoc {l t s f F} : Ents2 r w l t → At2 f r w F → Ents2 r w (l ++ [(s, f)]) (t ++ [(s, F)])
theorem Ents1.keeps {r : Nat} {w w' : World} {l t} (h : Ents1 r w l t) (hk : Keeps r w w') : Ents1 r w' l t := by
 induction h with
 | nil => exact .nil
 | snoc _ hf ih => exact .snoc ih (hf.keeps hk)
theorem Ents2.keeps {r : Nat} {w w' : World} {l t} (h : Ents2 r w l t) (hk : Keeps r w w') : Ents2 r w' l t := by
 induction h with
 | nil => exact .nil
 | snoc _ hf ih => exact .snoc ih (hf.keeps hk)
theorem lookup_snoc {α : Type} (op s : ByteArray) (f : α) : ∀ l : List (ByteArray × α), (l ++ [(s, f)]).lookup op = (l.lookup op).or (if (op == s) = true then some f else none)
 | [] => by rw [List.nil_append, List.lookup_cons]; cases op == s <;> rfl
 | (t, g) :: l => by
  rw [List.cons_append, List.lookup_cons, List.lookup_cons]
  cases op == t
  ·exact lookup_snoc op s f l
  ·rfl
/-- What is found. -/
theorem Ents1.find {r : Nat} {w : World} {l t} (h : Ents1 r w l t) (op : ByteArray) : (l.lookup op = none ∧ t.lookup op = none) ∨ ∃ f F, l.lookup op = some f ∧ t.lookup op = some F ∧ At1 f r w F := by
 induction h with
 | nil => exact .inl ⟨rfl, rfl⟩
 | @snoc l t s f F _ hf ih =>
  rw [lookup_snoc, lookup_snoc]
  rcases ih with ⟨h1, h2⟩ | ⟨f', F', h1, h2, h3⟩
  ·rw [h1, h2]
   cases hs : op == s
   ·exact .inl ⟨rfl, rfl⟩
   ·exact .inr ⟨f, F, rfl, rfl, hf⟩
  ·rw [h1, h2]
   exact .inr ⟨f', F', rfl, rfl, h3⟩
theorem Ents2.find {r : Nat} {w : World} {l t} (h : Ents2 r w l t) (op : ByteArray) : (l.lookup op = none ∧ t.lookup op = none) ∨ ∃ f F, l.lookup op = some f ∧ t.lookup op = some F ∧ At2 f r w F := by
 induction h with
 | nil => exact .inl ⟨rfl, rfl⟩
 | @snoc l t s f F _ hf ih =>
  rw [lookup_snoc, lookup_snoc]
  rcases ih with ⟨h1, h2⟩ | ⟨f', F', h1, h2, h3⟩
  ·rw [h1, h2]
   cases hs : op == s
   ·exact .inl ⟨rfl, rfl⟩
   ·exact .inr ⟨f, F, rfl, rfl, hf⟩
  ·rw [h1, h2]
   exact .inr ⟨f', F', rfl, rfl, h3⟩
/-- A map in the making. -/
structure Mk1 (w0 : World) (r : Nat) (l : List (ByteArray × Value)) (t : List (ByteArray × (V → V))) (w : World) : Prop where
 m : HM w r l
 e : Ents1 r w l t
 b : Below w0.heap.size w0 w
 h : w0.heap.size ≤ r
structure Mk2 (w0 : World) (r : Nat) (l : List (ByteArray × Value)) (t : List (ByteArray × (V → V → V))) (w : World) : Prop where
 m : HM w r l
 e : Ents2 r w l t
 b : Below w0.heap.size w0 w
 h : w0.heap.size ≤ r
theorem Mk1.lt {w0 w : World} {r l t} (h : Mk1 w0 r l t w) : r < w.heap.size := (Array.getElem?_eq_some_iff.1 h.m).1
theorem Mk2.lt {w0 w : World} {r l t} (h : Mk2 w0 r l t w) : r < w.heap.size := (Array.getElem?_eq_some_iff.1 h.m).1
theorem Mk1.below {w0 w w' : World} {r l t} (h : Mk1 w0 r l t w) (hb : Below w.heap.size w w') : Mk1 w0 r l t w' := ⟨h.m.below hb, h.e.keeps (.of_below hb), h.b.trans (hb.mono h.b.size), h.h⟩
theorem Mk2.below {w0 w w' : World} {r l t} (h : Mk2 w0 r l t w) (hb : Below w.heap.size w w') : Mk2 w0 r l t w' := ⟨h.m.below hb, h.e.keeps (.of_below hb), h.b.trans (hb.mono h.b.size), h.h⟩
theorem Mk1.more {w0 w w' : World} {r l t s f F} (h : Mk1 w0 r l t w) (hf : At1 f r w F) (hm : HM w' r (l ++ [(s, f)])) (hb : Below w0.heap.size w0 w') (hk : Keeps r w w') : Mk1 w0 r (l ++ [(s, f)]) (t ++ [(s, F)]) w' := ⟨hm, .snoc (h.e.keeps hk) (hf.keeps hk), hb, h.h⟩
theorem Mk2.more {w0 w w' : World} {r l t s f F} (h : Mk2 w0 r l t w) (hf : At2 f r w F) (hm : HM w' r (l ++ [(s, f)])) (hb : Below w0.heap.size w0 w') (hk : Keeps r w w') : Mk2 w0 r (l ++ [(s, f)]) (t ++ [(s, F)]) w' := ⟨hm, .snoc (h.e.keeps hk) (hf.keeps hk), hb, h.h⟩
def tab1 : List (ByteArray × (V → V)) := [(⟨#[45]⟩, vPlain (oneI 119)), (⟨#[97, 98, 115]⟩, vPlain (oneI 120)), (⟨#[102, 108, 111, 111, 114]⟩, vFloor), (⟨#[33]⟩, vNot), (⟨#[105, 115, 95, 110, 117, 108, 108]⟩, vKind [2]), (⟨#[105, 115, 95, 110, 97, 110]⟩, vKind [3]), (⟨#[105, 115, 95, 105, 110, 102]⟩, vKind [4, 5]), (⟨#[105, 115, 95, 110, 117, 109, 98, 101, 114]⟩, vKind [1])]
def tab2 : List (ByteArray × (V → V → V)) := [(⟨#[43]⟩, vNumbers (twoP 127)), (⟨#[45]⟩, vNumbers (twoP 128)), (⟨#[42]⟩, vNumbers (twoP 131)), (⟨#[47]⟩, vNumbers (twoP 132)), (⟨#[61, 61]⟩, vOrder false (twoB 134)), (⟨#[33, 61]⟩, vOrder true (twoB 135)), (⟨#[60]⟩, vOrder false (twoB 136)), (⟨#[60, 61]⟩, vOrder false (twoB 137)), (⟨#[62]⟩, vOrder false (twoB 138)), (⟨#[62, 61]⟩, vOrder false (twoB 139)), (⟨#[38, 38]⟩, vAnd), (⟨#[124, 124]⟩, vOr)]
theorem ones_calls (w : World) : Calls Tryz.prog 82 #[] w fun e w' => ∃ r l, e = .returned (.map (some r)) ∧ Mk1 w r l tab1 w' := by
 have hut := Tryz.underlying103
 have hus := Tryz.underlying9
 have hmm := @Go.RowKit.run_makeMap Tryz.prog
 have MK := Sd.mk (show Mk1 w w.heap.size [] [] (w.alloc (.map #[] 0)) from ⟨by exact blk_new w _, .nil, below_one w _, Nat.le_refl _⟩)
 go_enter Tryz.func82, Tryz.ntmps82
 go_wp2_with (first
  | (go_at_call 118; refine (plain_calls _ (oneI _) (oneI_is (by decide)) _ _ MK.out.lt).mono ?_; rintro e w1 ⟨f, rfl, hf, hb⟩; have MK := Sd.mk (MK.out.below hb); have HF := Sd.mk hf; clear hf hb)
  | (go_at_call 125; refine (kind_one _ _ _ MK.out.lt).mono ?_; rintro e w1 ⟨f, rfl, hf, hb⟩; have MK := Sd.mk (MK.out.below hb); have HF := Sd.mk hf; clear hf hb)
  | (go_at_call 125; refine (kind_two _ _ _ _ MK.out.lt).mono ?_; rintro e w1 ⟨f, rfl, hf, hb⟩; have MK := Sd.mk (MK.out.below hb); have HF := Sd.mk hf; clear hf hb)
  | ((with_reducible refine gate_ (.insert 103 (.tmp 1) (.const (.string ⟨#[45]⟩)) _) rfl ?_); refine wpList_insertK ⟨#[45]⟩ rfl rfl rfl hut hus _ rfl rfl MK.out.m (by first | rfl | decide) MK.out.h MK.out.b ?_; intro w1 hm hb hk; have MK := Sd.mk (MK.out.more HF.out hm hb hk); clear hm hb hk)
  | ((with_reducible refine gate_ (.insert 103 (.tmp 1) (.const (.string ⟨#[97, 98, 115]⟩)) _) rfl ?_); refine wpList_insertK ⟨#[97, 98, 115]⟩ rfl rfl rfl hut hus _ rfl rfl MK.out.m (by first | rfl | decide) MK.out.h MK.out.b ?_; intro w1 hm hb hk; have MK := Sd.mk (MK.out.more HF.out hm hb hk); clear hm hb hk)
  | ((with_reducible refine gate_ (.insert 103 (.tmp 1) (.const (.string ⟨#[102, 108, 111, 111, 114]⟩)) _) rfl ?_); refine wpList_insertK ⟨#[102, 108, 111, 111, 114]⟩ rfl rfl rfl hut hus _ rfl rfl MK.out.m (by first | rfl | decide) MK.out.h MK.out.b ?_; intro w1 hm hb hk; have MK := Sd.mk (MK.out.more (is1_ones3 _ _) hm hb hk); clear hm hb hk)
  | ((with_reducible refine gate_ (.insert 103 (.tmp 1) (.const (.string ⟨#[33]⟩)) _) rfl ?_); refine wpList_insertK ⟨#[33]⟩ rfl rfl rfl hut hus _ rfl rfl MK.out.m (by first | rfl | decide) MK.out.h MK.out.b ?_; intro w1 hm hb hk; have MK := Sd.mk (MK.out.more (is1_ones4 _ _) hm hb hk); clear hm hb hk)
  | ((with_reducible refine gate_ (.insert 103 (.tmp 1) (.const (.string ⟨#[105, 115, 95, 110, 117, 108, 108]⟩)) _) rfl ?_); refine wpList_insertK ⟨#[105, 115, 95, 110, 117, 108, 108]⟩ rfl rfl rfl hut hus _ rfl rfl MK.out.m (by first | rfl | decide) MK.out.h MK.out.b ?_; intro w1 hm hb hk; have MK := Sd.mk (MK.out.more HF.out hm hb hk); clear hm hb hk)
  | ((with_reducible refine gate_ (.insert 103 (.tmp 1) (.const (.string ⟨#[105, 115, 95, 110, 97, 110]⟩)) _) rfl ?_); refine wpList_insertK ⟨#[105, 115, 95, 110, 97, 110]⟩ rfl rfl rfl hut hus _ rfl rfl MK.out.m (by first | rfl | decide) MK.out.h MK.out.b ?_; intro w1 hm hb hk; have MK := Sd.mk (MK.out.more HF.out hm hb hk); clear hm hb hk)
  | ((with_reducible refine gate_ (.insert 103 (.tmp 1) (.const (.string ⟨#[105, 115, 95, 105, 110, 102]⟩)) _) rfl ?_); refine wpList_insertK ⟨#[105, 115, 95, 105, 110, 102]⟩ rfl rfl rfl hut hus _ rfl rfl MK.out.m (by first | rfl | decide) MK.out.h MK.out.b ?_; intro w1 hm hb hk; have MK := Sd.mk (MK.out.more HF.out hm hb hk); clear hm hb hk)
  | ((with_reducible refine gate_ (.insert 103 (.tmp 1) (.const (.string ⟨#[105, 115, 95, 110, 117, 109, 98, 101, 114]⟩)) _) rfl ?_); refine wpList_insertK ⟨#[105, 115, 95, 110, 117, 109, 98, 101, 114]⟩ rfl rfl rfl hut hus _ rfl rfl MK.out.m (by first | rfl | decide) MK.out.h MK.out.b ?_; intro w1 hm hb hk; have MK := Sd.mk (MK.out.more HF.out hm hb hk); clear hm hb hk))
 go_ret
 exact ⟨_, _, rfl, MK.out⟩
theorem twos_calls (w : World) : Calls Tryz.prog 83 #[] w fun e w' => ∃ r l, e = .returned (.map (some r)) ∧ Mk2 w r l tab2 w' := by
 have hut := Tryz.underlying107
 have hus := Tryz.underlying9
 have hmm := @Go.RowKit.run_makeMap Tryz.prog
 have MK := Sd.mk (show Mk2 w w.heap.size [] [] (w.alloc (.map #[] 0)) from ⟨by exact blk_new w _, .nil, below_one w _, Nat.le_refl _⟩)
 go_enter Tryz.func83, Tryz.ntmps83
 go_wp2_with (first
  | (go_at_call 126; refine (numbers_calls _ (twoP _) (twoP_is (by decide)) _ _ MK.out.lt).mono ?_; rintro e w1 ⟨f, rfl, hf, hb⟩; have MK := Sd.mk (MK.out.below hb); have HF := Sd.mk hf; clear hf hb)
  | (go_at_call 133; refine (order_calls _ _ (twoB _) (twoB_is (by decide)) _ _ MK.out.lt).mono ?_; rintro e w1 ⟨f, rfl, hf, hb⟩; have MK := Sd.mk (MK.out.below hb); have HF := Sd.mk hf; clear hf hb)
  | ((with_reducible refine gate_ (.insert 107 (.tmp 1) (.const (.string ⟨#[43]⟩)) _) rfl ?_); refine wpList_insertK ⟨#[43]⟩ rfl rfl rfl hut hus _ rfl rfl MK.out.m (by first | rfl | decide) MK.out.h MK.out.b ?_; intro w1 hm hb hk; have MK := Sd.mk (MK.out.more HF.out hm hb hk); clear hm hb hk)
  | ((with_reducible refine gate_ (.insert 107 (.tmp 1) (.const (.string ⟨#[45]⟩)) _) rfl ?_); refine wpList_insertK ⟨#[45]⟩ rfl rfl rfl hut hus _ rfl rfl MK.out.m (by first | rfl | decide) MK.out.h MK.out.b ?_; intro w1 hm hb hk; have MK := Sd.mk (MK.out.more HF.out hm hb hk); clear hm hb hk)
  | ((with_reducible refine gate_ (.insert 107 (.tmp 1) (.const (.string ⟨#[42]⟩)) _) rfl ?_); refine wpList_insertK ⟨#[42]⟩ rfl rfl rfl hut hus _ rfl rfl MK.out.m (by first | rfl | decide) MK.out.h MK.out.b ?_; intro w1 hm hb hk; have MK := Sd.mk (MK.out.more HF.out hm hb hk); clear hm hb hk)
  | ((with_reducible refine gate_ (.insert 107 (.tmp 1) (.const (.string ⟨#[47]⟩)) _) rfl ?_); refine wpList_insertK ⟨#[47]⟩ rfl rfl rfl hut hus _ rfl rfl MK.out.m (by first | rfl | decide) MK.out.h MK.out.b ?_; intro w1 hm hb hk; have MK := Sd.mk (MK.out.more HF.out hm hb hk); clear hm hb hk)
  | ((with_reducible refine gate_ (.insert 107 (.tmp 1) (.const (.string ⟨#[61, 61]⟩)) _) rfl ?_); refine wpList_insertK ⟨#[61, 61]⟩ rfl rfl rfl hut hus _ rfl rfl MK.out.m (by first | rfl | decide) MK.out.h MK.out.b ?_; intro w1 hm hb hk; have MK := Sd.mk (MK.out.more HF.out hm hb hk); clear hm hb hk)
  | ((with_reducible refine gate_ (.insert 107 (.tmp 1) (.const (.string ⟨#[33, 61]⟩)) _) rfl ?_); refine wpList_insertK ⟨#[33, 61]⟩ rfl rfl rfl hut hus _ rfl rfl MK.out.m (by first | rfl | decide) MK.out.h MK.out.b ?_; intro w1 hm hb hk; have MK := Sd.mk (MK.out.more HF.out hm hb hk); clear hm hb hk)
  | ((with_reducible refine gate_ (.insert 107 (.tmp 1) (.const (.string ⟨#[60]⟩)) _) rfl ?_); refine wpList_insertK ⟨#[60]⟩ rfl rfl rfl hut hus _ rfl rfl MK.out.m (by first | rfl | decide) MK.out.h MK.out.b ?_; intro w1 hm hb hk; have MK := Sd.mk (MK.out.more HF.out hm hb hk); clear hm hb hk)
  | ((with_reducible refine gate_ (.insert 107 (.tmp 1) (.const (.string ⟨#[60, 61]⟩)) _) rfl ?_); refine wpList_insertK ⟨#[60, 61]⟩ rfl rfl rfl hut hus _ rfl rfl MK.out.m (by first | rfl | decide) MK.out.h MK.out.b ?_; intro w1 hm hb hk; have MK := Sd.mk (MK.out.more HF.out hm hb hk); clear hm hb hk)
  | ((with_reducible refine gate_ (.insert 107 (.tmp 1) (.const (.string ⟨#[62]⟩)) _) rfl ?_); refine wpList_insertK ⟨#[62]⟩ rfl rfl rfl hut hus _ rfl rfl MK.out.m (by first | rfl | decide) MK.out.h MK.out.b ?_; intro w1 hm hb hk; have MK := Sd.mk (MK.out.more HF.out hm hb hk); clear hm hb hk)
  | ((with_reducible refine gate_ (.insert 107 (.tmp 1) (.const (.string ⟨#[62, 61]⟩)) _) rfl ?_); refine wpList_insertK ⟨#[62, 61]⟩ rfl rfl rfl hut hus _ rfl rfl MK.out.m (by first | rfl | decide) MK.out.h MK.out.b ?_; intro w1 hm hb hk; have MK := Sd.mk (MK.out.more HF.out hm hb hk); clear hm hb hk)
  | ((with_reducible refine gate_ (.insert 107 (.tmp 1) (.const (.string ⟨#[38, 38]⟩)) _) rfl ?_); refine wpList_insertK ⟨#[38, 38]⟩ rfl rfl rfl hut hus _ rfl rfl MK.out.m (by first | rfl | decide) MK.out.h MK.out.b ?_; intro w1 hm hb hk; have MK := Sd.mk (MK.out.more (is2_and _ _) hm hb hk); clear hm hb hk)
  | ((with_reducible refine gate_ (.insert 107 (.tmp 1) (.const (.string ⟨#[124, 124]⟩)) _) rfl ?_); refine wpList_insertK ⟨#[124, 124]⟩ rfl rfl rfl hut hus _ rfl rfl MK.out.m (by first | rfl | decide) MK.out.h MK.out.b ?_; intro w1 hm hb hk; have MK := Sd.mk (MK.out.more (is2_or _ _) hm hb hk); clear hm hb hk))
 go_ret
 exact ⟨_, _, rfl, MK.out⟩
def layV_ren : Go.Shelf.Ren := ⟨fun | 6 => 110 | 8 => 73 | n => n, fun | 22 => 47 | 23 => 25 | 25 => 49 | n => n, fun | n => n⟩
theorem layV : Go.Proofs.SlLaysH0.n8 Tryz.prog layV_ren := {
 mixed := by kernel_rfl
 f6 := ⟨Tryz.f110.name, by decide, Tryz.func110.trans (congrArg some (by kernel_rfl))⟩
 f8 := ⟨Tryz.f73.name, by decide, Tryz.func73.trans (congrArg some (by kernel_rfl))⟩
 t0 := Tryz.underlying0
 a0 := Tryz.isAgg0
 z0 := Tryz.sizeOf0
 v0 := Tryz.zeroValue0
 t3 := Tryz.underlying3
 a3 := Tryz.isAgg3
 z3 := Tryz.sizeOf3
 v3 := Tryz.zeroValue3
 t4 := Tryz.underlying4
 a4 := Tryz.isAgg4
 z4 := Tryz.sizeOf4
 v4 := Tryz.zeroValue4
 t22 := Tryz.underlying47
 a22 := Tryz.isAgg47
 z22 := Tryz.sizeOf47
 v22 := Tryz.zeroValue47
 t25 := Tryz.underlying49
 a25 := Tryz.isAgg49
 z25 := Tryz.sizeOf49
 v25 := Tryz.zeroValue49 }
abbrev sv (x : S25) : V := (x.f0, x.f1)
def badV (x : S25) : Bool := !decide (isV (sv x))
theorem check1_calls (x : S25) (w : World) : Calls Tryz.prog 74 #[.agg #[.int .i64 x.f0, .int .i64 x.f1]] w fun e w' => e = .returned (.bool (badV x)) ∧ Below w.heap.size w w' :=
 v_Check_1.calls x.f0 x.f1 _ w (by
  unfold v_Check_1.f
  rw [is_is (sv x)]; rfl)
def v_Check.f (l : List S25) : Option Int := some (if l.any badV then 80 else 0)
theorem v_Check.calls (A0 : Option Addr) (c0 : Nat) (l0 : List S25) (r : Int) (w : World) (hr0 : Kd.C k25 w A0 l0.length l0) (hc0 : l0.length ≤ c0) (h : v_Check.f l0 = some r) :
  Calls Tryz.prog 33 #[.slice A0 l0.length c0] w fun e w' => e = .returned (.int .i64 r) ∧ Below w.heap.size w w' := by
 injection h with h
 subst h
 have eg : ∀ args w, (callFunc 74 args).run Tryz.prog w = .ok (.enter 74 args) w := enters_of Tryz.func74 (by kernel_rfl) rfl
 have hi := Go.Proofs.YtcmiehddjgfjaaaGreat.I.containsFunc layV k25 z25 Tryz.isAgg25 Tryz.sizeOf25 badV 74 #[] eg A0 c0 l0 w hr0 (fun x _ w1 cs _ hK => by
  obtain rfl := k25_open hK
  exact check1_calls x w1)
 change Calls Tryz.prog 73 _ _ _ at hi
 generalize l0.any badV = r at hi
 have HI := Sd.mk hi
 clear hi hr0
 go_enter Tryz.func33, Tryz.ntmps33
 go_wp2_with (go_at_call 73; refine HI.out.mono ?_; rintro e w' ⟨rfl, hb'⟩; have HB := Sd.mk hb'; clear hb')
 all_goals
  go_ret
  exact ⟨by simp_all, HB.out⟩
def vDo (op : ByteArray) (l : List V) : V × Int :=
 if l.any (fun x => !decide (isV x)) = true then ((0, 0), 80) else
 match l with
 | [a] => (match tab1.lookup op with | some F => (F a, 0) | none => ((0, 0), 2))
 | [a, b] => (match tab2.lookup op with | some F => (if a.1 = 2 ∨ b.1 = 2 then ((2, 0), 0) else (F a b, 0)) | none => ((0, 0), 2))
 | _ => ((0, 0), 2)
theorem any_sv (l : List S25) : (l.map sv).any (fun x => !decide (isV x)) = l.any badV := by rw [List.any_map]; rfl
theorem Ents1.find_none {r : Nat} {w : World} {l t} (h : Ents1 r w l t) {op : ByteArray} (ht : t.lookup op = none) : l.lookup op = none := by
 rcases h.find op with ⟨h1, _⟩ | ⟨f, F, _, h2, _⟩
 ·exact h1
 ·rw [ht] at h2; exact absurd h2 (by simp)
theorem Ents1.find_some {r : Nat} {w : World} {l t} (h : Ents1 r w l t) {op : ByteArray} {F : V → V} (ht : t.lookup op = some F) : ∃ f, l.lookup op = some f ∧ At1 f r w F := by
 rcases h.find op with ⟨_, h2⟩ | ⟨f, F', h1, h2, h3⟩
 ·rw [ht] at h2; exact absurd h2 (by simp)
 ·rw [ht] at h2; injection h2 with h2; subst h2; exact ⟨f, h1, h3⟩
theorem Ents2.find_none {r : Nat} {w : World} {l t} (h : Ents2 r w l t) {op : ByteArray} (ht : t.lookup op = none) : l.lookup op = none := by
 rcases h.find op with ⟨h1, _⟩ | ⟨f, F, _, h2, _⟩
 ·exact h1
 ·rw [ht] at h2; exact absurd h2 (by simp)
theorem Ents2.find_some {r : Nat} {w : World} {l t} (h : Ents2 r w l t) {op : ByteArray} {F : V → V → V} (ht : t.lookup op = some F) : ∃ f, l.lookup op = some f ∧ At2 f r w F := by
 rcases h.find op with ⟨_, h2⟩ | ⟨f, F', h1, h2, h3⟩
 ·rw [ht] at h2; exact absurd h2 (by simp)
 ·rw [ht] at h2; injection h2 with h2; subst h2; exact ⟨f, h1, h3⟩
theorem null_calls (w : World) : Calls Tryz.prog 39 #[] w fun e w' => e = .returned (vv (2, 0)) ∧ Below w.heap.size w w' := by
 go_enter Tryz.func39, Tryz.ntmps39
 go_wp2
 refine bodyPost_ret (v := vv (2, 0)) (by simp [results, Tryz.results39, go_sem]) rfl ⟨rfl, ?_⟩
 repeat (first | exact Below.refl _ _ | (refine Below.alloc ?_ (by simp) _) | (refine Below.setCell ?_ (by simp) _))
section
variable (a0 : ByteArray) (c1 : Nat) (w : World)
theorem do_bad (A1 : Option Addr) (n : Nat) (hC : ∀ w1, Below w.heap.size w w1 → Calls Tryz.prog 33 #[.slice A1 n c1] w1 fun e w' => e = .returned (.int .i64 80) ∧ Below w1.heap.size w1 w') :
  Calls Tryz.prog 45 #[.string a0, .slice A1 n c1] w fun e w' => e = .returned (.tuple #[vv (0, 0), .int .i64 80]) ∧ Below w.heap.size w w' := by
 have hb0 : Below w.heap.size w (w.alloc (.cells #[.int .i64 0, .int .i64 0] 25)) := below_one w _
 have r0 : (w.alloc (.cells #[.int .i64 0, .int .i64 0] 25)).heap[w.heap.size]? = some (.cells #[.int .i64 0, .int .i64 0] 25 (0, 0)) := blk_new w _
 have m0 := cell_of_row _ _ 0 _ _ _ r0
 have m1 := cell_of_row _ _ 1 _ _ _ r0
 have z0 := blk_frozen r0 0
 have z1 := blk_frozen r0 1
 simp only [List.getElem?_toArray, List.getElem?_cons_zero, List.getElem?_cons_succ] at m0 m1
 have HB := Sd.mk hb0
 have HC := Sd.mk (hC _ hb0)
 clear hC
 go_enter Tryz.func45, Tryz.ntmps45
 go_wp2_with fail
 generalize w.alloc (.cells #[.int .i64 0, .int .i64 0] 25) = W1 at HB HC m0 m1 z0 z1 ⊢
 clear hb0 r0
 go_wp2_with (go_at_call 33; refine HC.out.mono ?_; rintro e w1 ⟨rfl, hb1⟩; have m0_ := m0; have m1_ := m1; have m0 := pw_cell_below hb1 m0_; have m1 := pw_cell_below hb1 m1_; have z0 := fz_below hb1 m0_ z0; have z1 := fz_below hb1 m1_ z1; clear m0_ m1_; have HB := Sd.mk (HB.out.trans (hb1.mono HB.out.size)); clear hb1)
 exact bodyPost_ret (v := .tuple #[vv (0, 0), .int .i64 80]) (by simp [results, Tryz.results45, go_sem, m0, m1]) rfl ⟨rfl, (HB.out.setCell (by simp) _).setCell (by simp) _⟩
theorem do_len (A1 : Option Addr) (n : Nat) (h1 : n ≠ 1) (h2 : n ≠ 2) (hC : ∀ w1, Below w.heap.size w w1 → Calls Tryz.prog 33 #[.slice A1 n c1] w1 fun e w' => e = .returned (.int .i64 0) ∧ Below w1.heap.size w1 w') :
  Calls Tryz.prog 45 #[.string a0, .slice A1 n c1] w fun e w' => e = .returned (.tuple #[vv (0, 0), .int .i64 2]) ∧ Below w.heap.size w w' := by
 have n1 : ((n : Int) == 1) = false := beq_eq_false_iff_ne.2 (by omega)
 have n2 : ((n : Int) == 2) = false := beq_eq_false_iff_ne.2 (by omega)
 clear h1 h2
 have hb0 : Below w.heap.size w (w.alloc (.cells #[.int .i64 0, .int .i64 0] 25)) := below_one w _
 have r0 : (w.alloc (.cells #[.int .i64 0, .int .i64 0] 25)).heap[w.heap.size]? = some (.cells #[.int .i64 0, .int .i64 0] 25 (0, 0)) := blk_new w _
 have m0 := cell_of_row _ _ 0 _ _ _ r0
 have m1 := cell_of_row _ _ 1 _ _ _ r0
 have z0 := blk_frozen r0 0
 have z1 := blk_frozen r0 1
 simp only [List.getElem?_toArray, List.getElem?_cons_zero, List.getElem?_cons_succ] at m0 m1
 have HB := Sd.mk hb0
 have HC := Sd.mk (hC _ hb0)
 clear hC
 go_enter Tryz.func45, Tryz.ntmps45
 go_wp2_with fail
 generalize w.alloc (.cells #[.int .i64 0, .int .i64 0] 25) = W1 at HB HC m0 m1 z0 z1 ⊢
 clear hb0 r0
 go_wp2_with (go_at_call 33; refine HC.out.mono ?_; rintro e w1 ⟨rfl, hb1⟩; have m0_ := m0; have m1_ := m1; have m0 := pw_cell_below hb1 m0_; have m1 := pw_cell_below hb1 m1_; have z0 := fz_below hb1 m0_ z0; have z1 := fz_below hb1 m1_ z1; clear m0_ m1_; have HB := Sd.mk (HB.out.trans (hb1.mono HB.out.size)); clear hb1)
 exact bodyPost_ret (v := .tuple #[vv (0, 0), .int .i64 2]) (by simp [results, Tryz.results45, go_sem, m0, m1]) rfl ⟨rfl, (HB.out.setCell (by simp) _).setCell (by simp) _⟩
theorem do_one_none (A : Addr) (x0 x1 : Int) (ht : tab1.lookup a0 = none) (hp0 : w.cell? A = some (.int .i64 x0)) (hp1 : w.cell? ⟨A.block, A.off + 1, none⟩ = some (.int .i64 x1)) (hC : ∀ w1, Below w.heap.size w w1 → Calls Tryz.prog 33 #[.slice (some A) 1 c1] w1 fun e w' => e = .returned (.int .i64 0) ∧ Below w1.heap.size w1 w') :
  Calls Tryz.prog 45 #[.string a0, .slice (some A) 1 c1] w fun e w' => e = .returned (.tuple #[vv (0, 0), .int .i64 2]) ∧ Below w.heap.size w w' := by
 have HT := Sd.mk ht
 clear ht
 have hb0 : Below w.heap.size w (w.alloc (.cells #[.int .i64 0, .int .i64 0] 25)) := below_one w _
 have r0 : (w.alloc (.cells #[.int .i64 0, .int .i64 0] 25)).heap[w.heap.size]? = some (.cells #[.int .i64 0, .int .i64 0] 25 (0, 0)) := blk_new w _
 have m0 := cell_of_row _ _ 0 _ _ _ r0
 have m1 := cell_of_row _ _ 1 _ _ _ r0
 have z0 := blk_frozen r0 0
 have z1 := blk_frozen r0 1
 simp only [List.getElem?_toArray, List.getElem?_cons_zero, List.getElem?_cons_succ] at m0 m1
 have HB := Sd.mk hb0
 have p0 := pw_cell_below hb0 hp0
 have p1 := pw_cell_below hb0 hp1
 have HC := Sd.mk (hC _ hb0)
 clear hC hp0 hp1
 go_enter Tryz.func45, Tryz.ntmps45
 go_wp2_with fail
 generalize w.alloc (.cells #[.int .i64 0, .int .i64 0] 25) = W1 at HB HC p0 p1 m0 m1 z0 z1 ⊢
 clear hb0 r0
 go_wp2_with (first
  | (go_at_call 33; refine HC.out.mono ?_; rintro e w1 ⟨rfl, hb1⟩; have p0 := pw_cell_below hb1 p0; have p1 := pw_cell_below hb1 p1; have m0_ := m0; have m1_ := m1; have m0 := pw_cell_below hb1 m0_; have m1 := pw_cell_below hb1 m1_; have z0 := fz_below hb1 m0_ z0; have z1 := fz_below hb1 m1_ z1; clear m0_ m1_; have HB := Sd.mk (HB.out.trans (hb1.mono HB.out.size)); clear hb1)
  | (go_at_call 82; refine (ones_calls _).mono ?_; rintro e w1 ⟨r, l, rfl, mk⟩; have hb1 := mk.b; have p0 := pw_cell_below hb1 p0; have p1 := pw_cell_below hb1 p1; have hlk := run_find (Tryz.underlying103) (Tryz.underlying9) mk.m a0 .nilFunc (Tryz.zeroValue101 _); rw [mk.e.find_none HT.out] at hlk; clear mk; have m0_ := m0; have m1_ := m1; have m0 := pw_cell_below hb1 m0_; have m1 := pw_cell_below hb1 m1_; have z0 := fz_below hb1 m0_ z0; have z1 := fz_below hb1 m1_ z1; clear m0_ m1_; have HB := Sd.mk (HB.out.trans (hb1.mono HB.out.size)); clear hb1))
 exact bodyPost_ret (v := .tuple #[vv (0, 0), .int .i64 2]) (by simp [results, Tryz.results45, go_sem, m0, m1]) rfl ⟨rfl, (HB.out.setCell (by simp) _).setCell (by simp) _⟩
theorem do_one (A : Addr) (x0 x1 : Int) (F : V → V) (ht : tab1.lookup a0 = some F) (r1 r2 : Int) (hF : F (x0, x1) = (r1, r2)) (hv : isV (x0, x1)) (hp0 : w.cell? A = some (.int .i64 x0)) (hp1 : w.cell? ⟨A.block, A.off + 1, none⟩ = some (.int .i64 x1)) (hC : ∀ w1, Below w.heap.size w w1 → Calls Tryz.prog 33 #[.slice (some A) 1 c1] w1 fun e w' => e = .returned (.int .i64 0) ∧ Below w1.heap.size w1 w') :
  Calls Tryz.prog 45 #[.string a0, .slice (some A) 1 c1] w fun e w' => e = .returned (.tuple #[vv (r1, r2), .int .i64 0]) ∧ Below w.heap.size w w' := by
 have HT := Sd.mk ht
 clear ht
 have HF := Sd.mk hF
 have HV := Sd.mk hv
 clear hF hv
 have hb0 : Below w.heap.size w (w.alloc (.cells #[.int .i64 0, .int .i64 0] 25)) := below_one w _
 have r0 : (w.alloc (.cells #[.int .i64 0, .int .i64 0] 25)).heap[w.heap.size]? = some (.cells #[.int .i64 0, .int .i64 0] 25 (0, 0)) := blk_new w _
 have m0 := cell_of_row _ _ 0 _ _ _ r0
 have m1 := cell_of_row _ _ 1 _ _ _ r0
 have z0 := blk_frozen r0 0
 have z1 := blk_frozen r0 1
 simp only [List.getElem?_toArray, List.getElem?_cons_zero, List.getElem?_cons_succ] at m0 m1
 have HB := Sd.mk hb0
 have p0 := pw_cell_below hb0 hp0
 have p1 := pw_cell_below hb0 hp1
 have HC := Sd.mk (hC _ hb0)
 clear hC hp0 hp1
 go_enter Tryz.func45, Tryz.ntmps45
 go_wp2_with fail
 generalize w.alloc (.cells #[.int .i64 0, .int .i64 0] 25) = W1 at HB HC p0 p1 m0 m1 z0 z1 ⊢
 clear hb0 r0
 go_wp2_with (first
  | (go_at_call 33; refine HC.out.mono ?_; rintro e w1 ⟨rfl, hb1⟩; have p0 := pw_cell_below hb1 p0; have p1 := pw_cell_below hb1 p1; have m0_ := m0; have m1_ := m1; have m0 := pw_cell_below hb1 m0_; have m1 := pw_cell_below hb1 m1_; have z0 := fz_below hb1 m0_ z0; have z1 := fz_below hb1 m1_ z1; clear m0_ m1_; have HB := Sd.mk (HB.out.trans (hb1.mono HB.out.size)); clear hb1)
  | (first
   | (go_at_call 82; refine (ones_calls _).mono ?_; rintro e w1 ⟨r, l, rfl, mk⟩; have hb1 := mk.b; have p0 := pw_cell_below hb1 p0; have p1 := pw_cell_below hb1 p1; obtain ⟨f, hf1, g, cb, rfl, eg, hf2⟩ := mk.e.find_some HT.out; have hlk := run_find (Tryz.underlying103) (Tryz.underlying9) mk.m a0 .nilFunc (Tryz.zeroValue101 _); rw [hf1] at hlk; have HG := Sd.mk (hf2 w1 (Keeps.refl _ _) (x0, x1) HV.out); clear mk hf1 hf2; simp only at hlk; have m0_ := m0; have m1_ := m1; have m0 := pw_cell_below hb1 m0_; have m1 := pw_cell_below hb1 m1_; have z0 := fz_below hb1 m0_ z0; have z1 := fz_below hb1 m1_ z1; clear m0_ m1_; have HB := Sd.mk (HB.out.trans (hb1.mono HB.out.size)); clear hb1; rw [HF.out] at HG)
   | (go_at_fn g; refine HG.out.mono ?_; rintro e w1 ⟨rfl, hb1⟩; have m0_ := m0; have m1_ := m1; have m0 := pw_cell_below hb1 m0_; have m1 := pw_cell_below hb1 m1_; have z0 := fz_below hb1 m0_ z0; have z1 := fz_below hb1 m1_ z1; clear m0_ m1_; have HB := Sd.mk (HB.out.trans (hb1.mono HB.out.size)); clear hb1)))
 exact bodyPost_ret (v := .tuple #[vv (r1, r2), .int .i64 0]) (by simp [results, Tryz.results45, go_sem, m0, m1]) rfl ⟨rfl, (HB.out.setCell (by simp) _).setCell (by simp) _⟩
theorem do_two_none (A : Addr) (x0 x1 y0 y1 : Int) (ht : tab2.lookup a0 = none) (hp0 : w.cell? A = some (.int .i64 x0)) (hp1 : w.cell? ⟨A.block, A.off + 1, none⟩ = some (.int .i64 x1)) (hq0 : w.cell? ⟨A.block, A.off + 2, none⟩ = some (.int .i64 y0)) (hq1 : w.cell? ⟨A.block, A.off + 2 + 1, none⟩ = some (.int .i64 y1)) (hC : ∀ w1, Below w.heap.size w w1 → Calls Tryz.prog 33 #[.slice (some A) 2 c1] w1 fun e w' => e = .returned (.int .i64 0) ∧ Below w1.heap.size w1 w') :
  Calls Tryz.prog 45 #[.string a0, .slice (some A) 2 c1] w fun e w' => e = .returned (.tuple #[vv (0, 0), .int .i64 2]) ∧ Below w.heap.size w w' := by
 have HT := Sd.mk ht
 clear ht
 have hb0 : Below w.heap.size w (w.alloc (.cells #[.int .i64 0, .int .i64 0] 25)) := below_one w _
 have r0 : (w.alloc (.cells #[.int .i64 0, .int .i64 0] 25)).heap[w.heap.size]? = some (.cells #[.int .i64 0, .int .i64 0] 25 (0, 0)) := blk_new w _
 have m0 := cell_of_row _ _ 0 _ _ _ r0
 have m1 := cell_of_row _ _ 1 _ _ _ r0
 have z0 := blk_frozen r0 0
 have z1 := blk_frozen r0 1
 simp only [List.getElem?_toArray, List.getElem?_cons_zero, List.getElem?_cons_succ] at m0 m1
 have HB := Sd.mk hb0
 have p0 := pw_cell_below hb0 hp0
 have p1 := pw_cell_below hb0 hp1
 have q0 := pw_cell_below hb0 hq0
 have q1 := pw_cell_below hb0 hq1
 have q2 : (w.alloc (.cells #[.int .i64 0, .int .i64 0] 25)).cell? ⟨A.block, A.off + 3, none⟩ = some (.int .i64 y1) := q1
 have HC := Sd.mk (hC _ hb0)
 clear hC hp0 hp1 hq0 hq1
 go_enter Tryz.func45, Tryz.ntmps45
 go_wp2_with fail
 generalize w.alloc (.cells #[.int .i64 0, .int .i64 0] 25) = W1 at HB HC p0 p1 q0 q1 q2 m0 m1 z0 z1 ⊢
 clear hb0 r0
 go_wp2_with (first
  | (go_at_call 33; refine HC.out.mono ?_; rintro e w1 ⟨rfl, hb1⟩; have p0 := pw_cell_below hb1 p0; have p1 := pw_cell_below hb1 p1; have q0 := pw_cell_below hb1 q0; have q1 := pw_cell_below hb1 q1; have q2 := pw_cell_below hb1 q2; have m0_ := m0; have m1_ := m1; have m0 := pw_cell_below hb1 m0_; have m1 := pw_cell_below hb1 m1_; have z0 := fz_below hb1 m0_ z0; have z1 := fz_below hb1 m1_ z1; clear m0_ m1_; have HB := Sd.mk (HB.out.trans (hb1.mono HB.out.size)); clear hb1)
  | (go_at_call 83; refine (twos_calls _).mono ?_; rintro e w1 ⟨r, l, rfl, mk⟩; have hb1 := mk.b; have p0 := pw_cell_below hb1 p0; have p1 := pw_cell_below hb1 p1; have q0 := pw_cell_below hb1 q0; have q1 := pw_cell_below hb1 q1; have q2 := pw_cell_below hb1 q2; have hlk := run_find (Tryz.underlying107) (Tryz.underlying9) mk.m a0 .nilFunc (Tryz.zeroValue105 _); rw [mk.e.find_none HT.out] at hlk; clear mk; have m0_ := m0; have m1_ := m1; have m0 := pw_cell_below hb1 m0_; have m1 := pw_cell_below hb1 m1_; have z0 := fz_below hb1 m0_ z0; have z1 := fz_below hb1 m1_ z1; clear m0_ m1_; have HB := Sd.mk (HB.out.trans (hb1.mono HB.out.size)); clear hb1))
 exact bodyPost_ret (v := .tuple #[vv (0, 0), .int .i64 2]) (by simp [results, Tryz.results45, go_sem, m0, m1]) rfl ⟨rfl, (HB.out.setCell (by simp) _).setCell (by simp) _⟩
theorem do_two_null (A : Addr) (x0 x1 y0 y1 : Int) (F : V → V → V) (ht : tab2.lookup a0 = some F) (hn : x0 = 2 ∨ y0 = 2) (hp0 : w.cell? A = some (.int .i64 x0)) (hp1 : w.cell? ⟨A.block, A.off + 1, none⟩ = some (.int .i64 x1)) (hq0 : w.cell? ⟨A.block, A.off + 2, none⟩ = some (.int .i64 y0)) (hq1 : w.cell? ⟨A.block, A.off + 2 + 1, none⟩ = some (.int .i64 y1)) (hC : ∀ w1, Below w.heap.size w w1 → Calls Tryz.prog 33 #[.slice (some A) 2 c1] w1 fun e w' => e = .returned (.int .i64 0) ∧ Below w1.heap.size w1 w') :
  Calls Tryz.prog 45 #[.string a0, .slice (some A) 2 c1] w fun e w' => e = .returned (.tuple #[vv (2, 0), .int .i64 0]) ∧ Below w.heap.size w w' := by
 have HT := Sd.mk ht
 clear ht
 have hb0 : Below w.heap.size w (w.alloc (.cells #[.int .i64 0, .int .i64 0] 25)) := below_one w _
 have r0 : (w.alloc (.cells #[.int .i64 0, .int .i64 0] 25)).heap[w.heap.size]? = some (.cells #[.int .i64 0, .int .i64 0] 25 (0, 0)) := blk_new w _
 have m0 := cell_of_row _ _ 0 _ _ _ r0
 have m1 := cell_of_row _ _ 1 _ _ _ r0
 have z0 := blk_frozen r0 0
 have z1 := blk_frozen r0 1
 simp only [List.getElem?_toArray, List.getElem?_cons_zero, List.getElem?_cons_succ] at m0 m1
 have HB := Sd.mk hb0
 have p0 := pw_cell_below hb0 hp0
 have p1 := pw_cell_below hb0 hp1
 have q0 := pw_cell_below hb0 hq0
 have q1 := pw_cell_below hb0 hq1
 have q2 : (w.alloc (.cells #[.int .i64 0, .int .i64 0] 25)).cell? ⟨A.block, A.off + 3, none⟩ = some (.int .i64 y1) := q1
 have HC := Sd.mk (hC _ hb0)
 clear hC hp0 hp1 hq0 hq1
 have c12 : (x0 = 2) ∨ ((x0 == 2) = false ∧ y0 = 2) := by
  by_cases h : x0 = 2
  ·exact .inl h
  ·exact .inr ⟨beq_eq_false_iff_ne.2 h, hn.resolve_left h⟩
 clear hn
 rcases c12 with rfl | ⟨c1, rfl⟩
 ·go_enter Tryz.func45, Tryz.ntmps45
  go_wp2_with fail
  generalize w.alloc (.cells #[.int .i64 0, .int .i64 0] 25) = W1 at HB HC p0 p1 q0 q1 q2 m0 m1 z0 z1 ⊢
  clear hb0 r0
  go_wp2_with (first
   | (go_at_call 33; refine HC.out.mono ?_; rintro e w1 ⟨rfl, hb1⟩; have p0 := pw_cell_below hb1 p0; have p1 := pw_cell_below hb1 p1; have q0 := pw_cell_below hb1 q0; have q1 := pw_cell_below hb1 q1; have q2 := pw_cell_below hb1 q2; have m0_ := m0; have m1_ := m1; have m0 := pw_cell_below hb1 m0_; have m1 := pw_cell_below hb1 m1_; have z0 := fz_below hb1 m0_ z0; have z1 := fz_below hb1 m1_ z1; clear m0_ m1_; have HB := Sd.mk (HB.out.trans (hb1.mono HB.out.size)); clear hb1)
   | (go_at_call 83; refine (twos_calls _).mono ?_; rintro e w1 ⟨r, l, rfl, mk⟩; have hb1 := mk.b; have p0 := pw_cell_below hb1 p0; have p1 := pw_cell_below hb1 p1; have q0 := pw_cell_below hb1 q0; have q1 := pw_cell_below hb1 q1; have q2 := pw_cell_below hb1 q2; obtain ⟨f, hf1, g, cb, rfl, eg, hf2⟩ := mk.e.find_some HT.out; have hlk := run_find (Tryz.underlying107) (Tryz.underlying9) mk.m a0 .nilFunc (Tryz.zeroValue105 _); rw [hf1] at hlk; clear mk hf1 hf2; simp only at hlk; have m0_ := m0; have m1_ := m1; have m0 := pw_cell_below hb1 m0_; have m1 := pw_cell_below hb1 m1_; have z0 := fz_below hb1 m0_ z0; have z1 := fz_below hb1 m1_ z1; clear m0_ m1_; have HB := Sd.mk (HB.out.trans (hb1.mono HB.out.size)); clear hb1)
   | (go_at_call 39; refine (null_calls _).mono ?_; rintro e w1 ⟨rfl, hb1⟩; have m0_ := m0; have m1_ := m1; have m0 := pw_cell_below hb1 m0_; have m1 := pw_cell_below hb1 m1_; have z0 := fz_below hb1 m0_ z0; have z1 := fz_below hb1 m1_ z1; clear m0_ m1_; have HB := Sd.mk (HB.out.trans (hb1.mono HB.out.size)); clear hb1))
  exact bodyPost_ret (v := .tuple #[vv (2, 0), .int .i64 0]) (by simp [results, Tryz.results45, go_sem, m0, m1]) rfl ⟨rfl, (HB.out.setCell (by simp) _).setCell (by simp) _⟩
 ·go_enter Tryz.func45, Tryz.ntmps45
  go_wp2_with fail
  generalize w.alloc (.cells #[.int .i64 0, .int .i64 0] 25) = W1 at HB HC p0 p1 q0 q1 q2 m0 m1 z0 z1 ⊢
  clear hb0 r0
  go_wp2_with (first
   | (go_at_call 33; refine HC.out.mono ?_; rintro e w1 ⟨rfl, hb1⟩; have p0 := pw_cell_below hb1 p0; have p1 := pw_cell_below hb1 p1; have q0 := pw_cell_below hb1 q0; have q1 := pw_cell_below hb1 q1; have q2 := pw_cell_below hb1 q2; have m0_ := m0; have m1_ := m1; have m0 := pw_cell_below hb1 m0_; have m1 := pw_cell_below hb1 m1_; have z0 := fz_below hb1 m0_ z0; have z1 := fz_below hb1 m1_ z1; clear m0_ m1_; have HB := Sd.mk (HB.out.trans (hb1.mono HB.out.size)); clear hb1)
   | (go_at_call 83; refine (twos_calls _).mono ?_; rintro e w1 ⟨r, l, rfl, mk⟩; have hb1 := mk.b; have p0 := pw_cell_below hb1 p0; have p1 := pw_cell_below hb1 p1; have q0 := pw_cell_below hb1 q0; have q1 := pw_cell_below hb1 q1; have q2 := pw_cell_below hb1 q2; obtain ⟨f, hf1, g, cb, rfl, eg, hf2⟩ := mk.e.find_some HT.out; have hlk := run_find (Tryz.underlying107) (Tryz.underlying9) mk.m a0 .nilFunc (Tryz.zeroValue105 _); rw [hf1] at hlk; clear mk hf1 hf2; simp only at hlk; have m0_ := m0; have m1_ := m1; have m0 := pw_cell_below hb1 m0_; have m1 := pw_cell_below hb1 m1_; have z0 := fz_below hb1 m0_ z0; have z1 := fz_below hb1 m1_ z1; clear m0_ m1_; have HB := Sd.mk (HB.out.trans (hb1.mono HB.out.size)); clear hb1)
   | (go_at_call 39; refine (null_calls _).mono ?_; rintro e w1 ⟨rfl, hb1⟩; have m0_ := m0; have m1_ := m1; have m0 := pw_cell_below hb1 m0_; have m1 := pw_cell_below hb1 m1_; have z0 := fz_below hb1 m0_ z0; have z1 := fz_below hb1 m1_ z1; clear m0_ m1_; have HB := Sd.mk (HB.out.trans (hb1.mono HB.out.size)); clear hb1))
  exact bodyPost_ret (v := .tuple #[vv (2, 0), .int .i64 0]) (by simp [results, Tryz.results45, go_sem, m0, m1]) rfl ⟨rfl, (HB.out.setCell (by simp) _).setCell (by simp) _⟩
theorem do_two (A : Addr) (x0 x1 y0 y1 : Int) (F : V → V → V) (ht : tab2.lookup a0 = some F) (r1 r2 : Int) (hn : ¬ (x0 = 2 ∨ y0 = 2)) (hF : F (x0, x1) (y0, y1) = (r1, r2)) (hv : isV (x0, x1)) (hu : isV (y0, y1)) (hp0 : w.cell? A = some (.int .i64 x0)) (hp1 : w.cell? ⟨A.block, A.off + 1, none⟩ = some (.int .i64 x1)) (hq0 : w.cell? ⟨A.block, A.off + 2, none⟩ = some (.int .i64 y0)) (hq1 : w.cell? ⟨A.block, A.off + 2 + 1, none⟩ = some (.int .i64 y1)) (hC : ∀ w1, Below w.heap.size w w1 → Calls Tryz.prog 33 #[.slice (some A) 2 c1] w1 fun e w' => e = .returned (.int .i64 0) ∧ Below w1.heap.size w1 w') :
  Calls Tryz.prog 45 #[.string a0, .slice (some A) 2 c1] w fun e w' => e = .returned (.tuple #[vv (r1, r2), .int .i64 0]) ∧ Below w.heap.size w w' := by
 have HT := Sd.mk ht
 clear ht
 have HF := Sd.mk hF
 have HV := Sd.mk hv
 have HU := Sd.mk hu
 have c1 : (x0 == 2) = false := beq_eq_false_iff_ne.2 fun h => hn (Or.inl h)
 have c2 : (y0 == 2) = false := beq_eq_false_iff_ne.2 fun h => hn (Or.inr h)
 clear hF hv hu hn
 have hb0 : Below w.heap.size w (w.alloc (.cells #[.int .i64 0, .int .i64 0] 25)) := below_one w _
 have r0 : (w.alloc (.cells #[.int .i64 0, .int .i64 0] 25)).heap[w.heap.size]? = some (.cells #[.int .i64 0, .int .i64 0] 25 (0, 0)) := blk_new w _
 have m0 := cell_of_row _ _ 0 _ _ _ r0
 have m1 := cell_of_row _ _ 1 _ _ _ r0
 have z0 := blk_frozen r0 0
 have z1 := blk_frozen r0 1
 simp only [List.getElem?_toArray, List.getElem?_cons_zero, List.getElem?_cons_succ] at m0 m1
 have HB := Sd.mk hb0
 have p0 := pw_cell_below hb0 hp0
 have p1 := pw_cell_below hb0 hp1
 have q0 := pw_cell_below hb0 hq0
 have q1 := pw_cell_below hb0 hq1
 have q2 : (w.alloc (.cells #[.int .i64 0, .int .i64 0] 25)).cell? ⟨A.block, A.off + 3, none⟩ = some (.int .i64 y1) := q1
 have HC := Sd.mk (hC _ hb0)
 clear hC hp0 hp1 hq0 hq1
 go_enter Tryz.func45, Tryz.ntmps45
 go_wp2_with fail
 generalize w.alloc (.cells #[.int .i64 0, .int .i64 0] 25) = W1 at HB HC p0 p1 q0 q1 q2 m0 m1 z0 z1 ⊢
 clear hb0 r0
 go_wp2_with (first
  | (go_at_call 33; refine HC.out.mono ?_; rintro e w1 ⟨rfl, hb1⟩; have p0 := pw_cell_below hb1 p0; have p1 := pw_cell_below hb1 p1; have q0 := pw_cell_below hb1 q0; have q1 := pw_cell_below hb1 q1; have q2 := pw_cell_below hb1 q2; have m0_ := m0; have m1_ := m1; have m0 := pw_cell_below hb1 m0_; have m1 := pw_cell_below hb1 m1_; have z0 := fz_below hb1 m0_ z0; have z1 := fz_below hb1 m1_ z1; clear m0_ m1_; have HB := Sd.mk (HB.out.trans (hb1.mono HB.out.size)); clear hb1)
  | (go_at_call 83; refine (twos_calls _).mono ?_; rintro e w1 ⟨r, l, rfl, mk⟩; have hb1 := mk.b; have p0 := pw_cell_below hb1 p0; have p1 := pw_cell_below hb1 p1; have q0 := pw_cell_below hb1 q0; have q1 := pw_cell_below hb1 q1; have q2 := pw_cell_below hb1 q2; obtain ⟨f, hf1, g, cb, rfl, eg, hf2⟩ := mk.e.find_some HT.out; have hlk := run_find (Tryz.underlying107) (Tryz.underlying9) mk.m a0 .nilFunc (Tryz.zeroValue105 _); rw [hf1] at hlk; have HG := Sd.mk (fun w2 (h2 : Keeps r w1 w2) => hf2 w2 h2 (x0, x1) (y0, y1) HV.out HU.out); clear mk hf1 hf2; simp only at hlk; have m0_ := m0; have m1_ := m1; have m0 := pw_cell_below hb1 m0_; have m1 := pw_cell_below hb1 m1_; have z0 := fz_below hb1 m0_ z0; have z1 := fz_below hb1 m1_ z1; clear m0_ m1_; have HB := Sd.mk (HB.out.trans (hb1.mono HB.out.size)); clear hb1; rw [HF.out] at HG))
 go_region_with (go_at_fn g; refine (HG.out _ (Keeps.of_below (Below.refl _ _).drew)).mono ?_; rintro e w1 ⟨rfl, hb1⟩; have m0_ := m0; have m1_ := m1; have m0 := pw_cell_below hb1 m0_; have m1 := pw_cell_below hb1 m1_; have z0 := fz_below hb1 m0_ z0; have z1 := fz_below hb1 m1_ z1; clear m0_ m1_; have HB := Sd.mk (HB.out.trans (((Below.refl _ _).drew.trans hb1).mono HB.out.size)); clear hb1)
 all_goals
  go_wp2_with fail
  exact bodyPost_ret (v := .tuple #[vv (r1, r2), .int .i64 0]) (by simp [results, Tryz.results45, go_sem, m0, m1]) rfl ⟨rfl, (HB.out.setCell (by simp) _).setCell (by simp) _⟩
end
def v_Do.f (a0 : ByteArray) (l1 : List S25) : Option (Int × Int × Int) := some ((vDo a0 (l1.map sv)).1.1, (vDo a0 (l1.map sv)).1.2, (vDo a0 (l1.map sv)).2)
theorem cellz {w : World} {A : Option Addr} {n : Nat} {xs : List S25} (h : Kd.C k25 w A n xs) (i : Nat) (h1 : i < n) : ∃ ad, A = some ad ∧ w.cell? (ad.add (i * 2)) = some (.int .i64 (rd_T25 xs i).f0) ∧ w.cell? ⟨(ad.add (i * 2)).block, (ad.add (i * 2)).off + 1, none⟩ = some (.int .i64 (rd_T25 xs i).f1) := by
 obtain ⟨ad, e, p0, p1⟩ := at_T25 h (i : Int) (by omega) (by omega)
 rw [Int.toNat_natCast] at p0 p1
 exact ⟨ad, e, p0, p1⟩
theorem v_Do.calls (a0 : ByteArray) (A1 : Option Addr) (c1 : Nat) (l1 : List S25) (r1 r2 r3 : Int) (w : World) (hr1 : Kd.C k25 w A1 l1.length l1) (hc1 : l1.length ≤ c1) (h : v_Do.f a0 l1 = some (r1, r2, r3)) :
  Calls Tryz.prog 45 #[.string a0, .slice A1 l1.length c1] w fun e w' => e = .returned (.tuple #[.agg #[.int .i64 r1, .int .i64 r2], .int .i64 r3]) ∧ Below w.heap.size w w' := by
 have hcall : Calls Tryz.prog 45 #[.string a0, .slice A1 l1.length c1] w fun e w' => e = .returned (.tuple #[vv (vDo a0 (l1.map sv)).1, .int .i64 (vDo a0 (l1.map sv)).2]) ∧ Below w.heap.size w w' := by
  clear h
  have hC : ∀ w1, Below w.heap.size w w1 → Calls Tryz.prog 33 #[.slice A1 l1.length c1] w1 fun e w' => e = .returned (.int .i64 (if l1.any badV then 80 else 0)) ∧ Below w1.heap.size w1 w' := fun w1 h1 => v_Check.calls A1 c1 l1 _ w1 (Kd.C_below hr1 h1) hc1 rfl
  by_cases hb : l1.any badV = true
  ·rw [if_pos hb] at hC
   have e : vDo a0 (l1.map sv) = ((0, 0), 80) := by unfold vDo; rw [any_sv, if_pos hb]
   rw [e]
   exact do_bad a0 c1 w A1 l1.length hC
  ·rw [if_neg hb] at hC
   match l1, hr1, hb, hC with
   | [], hr1, hb, hC =>
    have e : vDo a0 (([] : List S25).map sv) = ((0, 0), 2) := rfl
    rw [e]
    exact do_len a0 c1 w A1 0 (by decide) (by decide) hC
   | [x], hr1, hb, hC =>
    obtain ⟨ad, rfl, p0, p1⟩ := cellz hr1 0 (by simp)
    have hv : isV (x.f0, x.f1) := by simpa [badV, sv] using hb
    cases ht : tab1.lookup a0 with
    | none =>
     have e : vDo a0 ([x].map sv) = ((0, 0), 2) := by unfold vDo; rw [any_sv, if_neg hb]; simp [ht]
     rw [e]
     exact do_one_none a0 c1 w ad x.f0 x.f1 ht p0 p1 hC
    | some F =>
     have e : vDo a0 ([x].map sv) = (F (x.f0, x.f1), 0) := by unfold vDo; rw [any_sv, if_neg hb]; simp [ht]
     rw [e]
     exact do_one a0 c1 w ad x.f0 x.f1 F ht _ _ rfl hv p0 p1 hC
   | [x, y], hr1, hb, hC =>
    obtain ⟨ad, rfl, p0, p1⟩ := cellz hr1 0 (by simp)
    obtain ⟨ad', e', q0, q1⟩ := cellz hr1 1 (by simp)
    injection e' with e'
    subst e'
    have hv : isV (x.f0, x.f1) ∧ isV (y.f0, y.f1) := by simpa [badV, sv] using hb
    cases ht : tab2.lookup a0 with
    | none =>
     have e : vDo a0 ([x, y].map sv) = ((0, 0), 2) := by unfold vDo; rw [any_sv, if_neg hb]; simp [ht]
     rw [e]
     exact do_two_none a0 c1 w ad x.f0 x.f1 y.f0 y.f1 ht p0 p1 q0 q1 hC
    | some F =>
     by_cases hn : x.f0 = 2 ∨ y.f0 = 2
     ·have e : vDo a0 ([x, y].map sv) = ((2, 0), 0) := by unfold vDo; rw [any_sv, if_neg hb]; simp [ht, hn]
      rw [e]
      exact do_two_null a0 c1 w ad x.f0 x.f1 y.f0 y.f1 F ht hn p0 p1 q0 q1 hC
     ·have e : vDo a0 ([x, y].map sv) = (F (x.f0, x.f1) (y.f0, y.f1), 0) := by unfold vDo; rw [any_sv, if_neg hb]; simp [ht, hn]
      rw [e]
      exact do_two a0 c1 w ad x.f0 x.f1 y.f0 y.f1 F ht _ _ hn rfl hv.1 hv.2 p0 p1 q0 q1 hC
   | x :: y :: z :: l, hr1, hb, hC =>
    have e : vDo a0 ((x :: y :: z :: l).map sv) = ((0, 0), 2) := by unfold vDo; rw [any_sv, if_neg hb]; rfl
    rw [e]
    exact do_len a0 c1 w A1 _ (by simp) (by simp) hC
 injection h with h
 injection h with h1 h
 injection h with h2 h3
 subst h1 h2 h3
 exact hcall
theorem below1 (w : World) (o : Obj) : Below w.heap.size w (w.alloc o) := (Below.refl _ _).alloc (Nat.le_refl _) _
theorem fresh_C1 (w : World) (a1 a2 : Int) : Kd.C k25 (w.alloc (.cells #[.int .i64 a1, .int .i64 a2] 25)) (some ⟨w.heap.size, 0, none⟩) 1 [⟨a1, a2⟩] := by
 have r := blk_new w (.cells #[.int .i64 a1, .int .i64 a2] 25)
 refine ⟨rfl, by have : maxLen = 9223372036854775807 := rfl; simp, fun _ => ⟨_, rfl, fun j p hp => ?_⟩⟩
 match j, hp with
 | 0, hp =>
  injection hp with hp
  subst hp
  exact ⟨[.int .i64 a1, .int .i64 a2], rfl, k25_mk _ _, fun i u hu => by
   match i, hu with
   | 0, hu => exact (blk_cell r 0).trans hu
   | 1, hu => exact (blk_cell r 1).trans hu
   | i + 2, hu => simp at hu⟩
 | j + 1, hp => simp at hp
theorem fresh_C2 (w : World) (a1 a2 b1 b2 : Int) : Kd.C k25 (w.alloc (.cells #[.int .i64 a1, .int .i64 a2, .int .i64 b1, .int .i64 b2] 25)) (some ⟨w.heap.size, 0, none⟩) 2 [⟨a1, a2⟩, ⟨b1, b2⟩] := by
 have r := blk_new w (.cells #[.int .i64 a1, .int .i64 a2, .int .i64 b1, .int .i64 b2] 25)
 refine ⟨rfl, by have : maxLen = 9223372036854775807 := rfl; simp, fun _ => ⟨_, rfl, fun j p hp => ?_⟩⟩
 match j, hp with
 | 0, hp =>
  injection hp with hp
  subst hp
  exact ⟨[.int .i64 a1, .int .i64 a2], rfl, k25_mk _ _, fun i u hu => by
   match i, hu with
   | 0, hu => exact (blk_cell r 0).trans hu
   | 1, hu => exact (blk_cell r 1).trans hu
   | i + 2, hu => simp at hu⟩
 | 1, hp =>
  injection hp with hp
  subst hp
  exact ⟨[.int .i64 b1, .int .i64 b2], rfl, k25_mk _ _, fun i u hu => by
   match i, hu with
   | 0, hu => exact (blk_cell r 2).trans hu
   | 1, hu => exact (blk_cell r 3).trans hu
   | i + 2, hu => simp at hu⟩
 | j + 2, hp => simp at hp
theorem check1_fresh (a1 a2 : Int) (w : World) : Calls Tryz.prog 33 #[.slice (some ⟨w.heap.size, 0, none⟩) 1 1] (w.alloc (.cells #[.int .i64 a1, .int .i64 a2] 25)) fun e w' => e = .returned (.int .i64 (if isV (a1, a2) then 0 else 80)) ∧ Below w.heap.size w w' := by
 refine (v_Check.calls _ 1 [⟨a1, a2⟩] _ _ (fresh_C1 w a1 a2) (Nat.le_refl _) rfl).mono fun e w' ⟨he, hb⟩ => ⟨?_, (below1 w _).trans (hb.mono (below1 w _).size)⟩
 rw [he]
 congr 2
 by_cases h : isV (a1, a2)
 ·simp [badV, sv, h]
 ·simp [badV, sv, h]
theorem do1_any (op : ByteArray) (a1 a2 : Int) (w : World) {x y z : Int} (h : vDo op [(a1, a2)] = ((x, y), z)) :
  Calls Tryz.prog 45 #[.string op, .slice (some ⟨w.heap.size, 0, none⟩) 1 1] (w.alloc (.cells #[.int .i64 a1, .int .i64 a2] 25)) fun e w' => e = .returned (.tuple #[.agg #[.int .i64 x, .int .i64 y], .int .i64 z]) ∧ Below w.heap.size w w' :=
 (v_Do.calls op _ 1 [⟨a1, a2⟩] _ _ _ _ (fresh_C1 w a1 a2) (Nat.le_refl _) (by show some ((vDo op [(a1, a2)]).1.1, (vDo op [(a1, a2)]).1.2, (vDo op [(a1, a2)]).2) = _; rw [h])).mono fun e w' ⟨he, hb⟩ => ⟨he, (below1 w _).trans (hb.mono (below1 w _).size)⟩
theorem do2_any (op : ByteArray) (a1 a2 b1 b2 : Int) (w : World) {x y z : Int} (h : vDo op [(a1, a2), (b1, b2)] = ((x, y), z)) :
  Calls Tryz.prog 45 #[.string op, .slice (some ⟨w.heap.size, 0, none⟩) 2 2] (w.alloc (.cells #[.int .i64 a1, .int .i64 a2, .int .i64 b1, .int .i64 b2] 25)) fun e w' => e = .returned (.tuple #[.agg #[.int .i64 x, .int .i64 y], .int .i64 z]) ∧ Below w.heap.size w w' :=
 (v_Do.calls op _ 2 [⟨a1, a2⟩, ⟨b1, b2⟩] _ _ _ _ (fresh_C2 w a1 a2 b1 b2) (Nat.le_refl _) (by show some ((vDo op [(a1, a2), (b1, b2)]).1.1, (vDo op [(a1, a2), (b1, b2)]).1.2, (vDo op [(a1, a2), (b1, b2)]).2) = _; rw [h])).mono fun e w' ⟨he, hb⟩ => ⟨he, (below1 w _).trans (hb.mono (below1 w _).size)⟩
open Go.Proofs.YtcmiehddjgfjaaaGreat.St Go.Proofs.YtcmiehddjgfjaaaGreat.Stable
def badVal (x : Ser) : Bool := !decide (isV (x.f1.f0, x.f1.f1))
/-- The frame of series. -/
def vSort (l : List Ser) : List Ser × Int := if l.any (fun x => !isSet x.f0) = true then ([], 90) else if l.any badVal = true then ([], 80) else if adjEq cmpSer (isort (ltOf cmpSer) l) = true then ([], 8) else if 200 < (isort (ltOf cmpSer) l).length then ([], 6) else (isort (ltOf cmpSer) l, 0)
def SerOk (x : Ser) : Prop := x.f0.length < 4398046511104 ∧ LabsOk x.f0
theorem sort1_calls (x : Ser) (cs : List Value) (hx : SerOk x) (W : World) (hK : k37.K W x cs) : Calls Tryz.prog 51 #[.agg cs.toArray] W fun e w' => e = .returned (.bool (!isSet x.f0)) ∧ Below W.heap.size W w' := by
 obtain ⟨A0, c0, rfl, _, hA⟩ := k37_open hK
 have hb := below1 W (.cells #[.slice A0 x.f0.length c0, .int .i64 x.f1.f0, .int .i64 x.f1.f1] 37)
 have HC := Sd.mk (isSet_calls A0 c0 x.f0 hx.2 (by have := hx.1; omega) _ (Kd.C_below hA hb))
 have HB := Sd.mk hb
 generalize isSet x.f0 = r at HC ⊢
 clear hx hK hA hb
 go_enter Tryz.func51, Tryz.ntmps51
 go_wp2_with (go_at_call 52; refine HC.out.mono ?_; rintro e w1 ⟨rfl, hb1⟩; have HE := Sd.mk (HB.out.trans (hb1.mono HB.out.size)); clear hb1)
 go_ret
 exact ⟨by first | rfl | simp, HE.out⟩
theorem sort2_calls (x : Ser) (cs : List Value) (W : World) (hK : k37.K W x cs) : Calls Tryz.prog 53 #[.agg cs.toArray] W fun e w' => e = .returned (.bool (badVal x)) ∧ Below W.heap.size W w' := by
 obtain ⟨A0, c0, rfl, _, hA⟩ := k37_open hK
 have hb := below1 W (.cells #[.slice A0 x.f0.length c0, .int .i64 x.f1.f0, .int .i64 x.f1.f1] 37)
 have HC := Sd.mk (check1_fresh x.f1.f0 x.f1.f1 (W.alloc (.cells #[.slice A0 x.f0.length c0, .int .i64 x.f1.f0, .int .i64 x.f1.f1] 37)))
 have HB := Sd.mk hb
 simp only [World.size_alloc] at HC
 unfold badVal
 clear hK hA hb
 by_cases h : isV (x.f1.f0, x.f1.f1)
 ·rw [if_pos h] at HC
  rw [decide_eq_true h]
  clear h
  go_enter Tryz.func53, Tryz.ntmps53
  go_wp2_with (go_at_call 33; refine HC.out.mono ?_; rintro e w1 ⟨rfl, hb1⟩; have HE := Sd.mk (HB.out.trans (hb1.mono (by omega))); clear hb1)
  go_ret
  exact ⟨rfl, HE.out⟩
 ·rw [if_neg h] at HC
  rw [decide_eq_false h]
  clear h
  go_enter Tryz.func53, Tryz.ntmps53
  go_wp2_with (go_at_call 33; refine HC.out.mono ?_; rintro e w1 ⟨rfl, hb1⟩; have HE := Sd.mk (HB.out.trans (hb1.mono (by omega))); clear hb1)
  go_ret
  exact ⟨rfl, HE.out⟩
theorem adjS_step (s : List Ser) (i : Nat) (h1 : 1 ≤ i) (hi : i < s.length) : adjEq cmpSer (s.drop (i - 1)) = (decide (cmpL (s[i - 1]'(by omega)).f0 s[i].f0 = 0) || adjEq cmpSer (s.drop i)) := by
 obtain ⟨j, rfl⟩ : ∃ j, i = j + 1 := ⟨i - 1, by omega⟩
 simp only [Nat.add_sub_cancel]
 rw [List.drop_eq_getElem_cons (show j < s.length by omega), List.drop_eq_getElem_cons hi, adjEq]
 rfl
theorem adjS_short : ∀ {s : List Ser}, s.length ≤ 1 → adjEq cmpSer s = false
 | [], _ => rfl
 | [x], _ => rfl
 | x :: y :: s, h => by simp at h
theorem ssort_calls (A : Option Addr) (c : Nat) (l : List Ser) (hl : SersOk l) (w : World) (hr : Kd.C k37 w A l.length l) :
  Calls Tryz.prog 14 #[.slice A l.length c] w fun e w' => ∃ v : Value, e = .returned (.tuple #[v, .int .i64 (vSort l).2]) ∧ Kd.N k37 37 w' w.heap.size (fun _ => True) v (vSort l).1 ∧ Below w.heap.size w w' := by
 have eg1 : ∀ args w, (callFunc 51 args).run Tryz.prog w = .ok (.enter 51 args) w := enters_of Tryz.func51 (by kernel_rfl) rfl
 have eg2 : ∀ args w, (callFunc 53 args).run Tryz.prog w = .ok (.enter 53 args) w := enters_of Tryz.func53 (by kernel_rfl) rfl
 have eg3 : ∀ args w, (callFunc 56 args).run Tryz.prog w = .ok (.enter 56 args) w := enters_of Tryz.func56 (by kernel_rfl) rfl
 have hc1 := containsSeries (fun x => !isSet x.f0) 51 #[] eg1 A c l w hr (fun x hx w1 cs _ hK => sort1_calls x cs (hl.2 x hx) w1 hK)
 have hc2 : ∀ w1, Below w.heap.size w w1 → _ := fun w1 hb => containsSeries badVal 53 #[] eg2 A c l w1 (Kd.C_below hr hb) (fun x hx w1 cs _ hK => sort2_calls x cs w1 hK)
 unfold vSort
 generalize l.any (fun x => !isSet x.f0) = bad1 at hc1 ⊢
 generalize l.any badVal = bad2 at hc2 ⊢
 generalize hs : isort (ltOf cmpSer) l = s
 generalize hrr : (if bad1 = true then (([] : List Ser), (90 : Int)) else if bad2 = true then ([], 80) else if adjEq cmpSer s = true then ([], 8) else if 200 < s.length then ([], 6) else (s, 0)) = r
 have HRR := Sd.mk hrr
 have HN := Sd.mk (show s.length = l.length by rw [← hs]; exact isort_length l)
 have HS := Sd.mk hs
 clear hrr hs
 have HC1 := Sd.mk hc1
 have HC2 := Sd.mk hc2
 have HR := Sd.mk hr
 have HL := Sd.mk hl
 have HE3 := Sd.mk eg3
 clear hc1 hc2 hr hl eg1 eg2 eg3
 have mixed : Tryz.prog.follows .mixedOrders = true := by kernel_rfl
 cases bad1 with
 | true =>
  go_enter Tryz.func14, Tryz.ntmps14
  go_wp2_with (go_at_call 50; refine HC1.out.mono ?_; rintro e w1 ⟨rfl, hb1⟩)
  go_ret2
  have er : r = ([], 90) := by rw [← HRR.out]; simp
  exact ⟨.slice none 0 0, by rw [er]; rfl, by rw [er]; exact Kd.N_nil _ _ _ _ _, hb1⟩
 | false =>
 cases bad2 with
 | true =>
  go_enter Tryz.func14, Tryz.ntmps14
  go_wp2_with fail
  refine HC1.out.mono ?_
  rintro e w1 ⟨rfl, hb1⟩
  have HB := Sd.mk hb1
  have HC := Sd.mk (HC2.out w1 hb1)
  clear hb1
  go_wp2_with (go_at_call 50; refine HC.out.mono ?_; rintro e w2 ⟨rfl, hb2⟩)
  go_ret2
  have er : r = ([], 80) := by rw [← HRR.out]; simp
  exact ⟨.slice none 0 0, by rw [er]; rfl, by rw [er]; exact Kd.N_nil _ _ _ _ _, HB.out.trans (hb2.mono HB.out.size)⟩
 | false =>
  go_enter Tryz.func14, Tryz.ntmps14
  go_wp2_with fail
  refine HC1.out.mono ?_
  rintro e w1 ⟨rfl, hb1⟩
  have HB := Sd.mk hb1
  have HC := Sd.mk (HC2.out w1 hb1)
  clear hb1
  go_wp2_with fail
  refine HC.out.mono ?_
  rintro e w2 ⟨rfl, hb2⟩
  have HB2 := Sd.mk (HB.out.trans (hb2.mono HB.out.size))
  clear hb2 HC HB
  go_wp2_with fail
  refine (values_calls _ _ _ _).mono ?_
  rintro e w3 ⟨rfl, rfl⟩
  have HB3 := Sd.mk (HB2.out.trans ((below1 w2 (.cells #[.slice A l.length c] 33)).mono HB2.out.size))
  have HSo := Sd.mk (sortedN_calls 56 HE3.out cmpSer cmpSer3 w2.heap.size A c l (by have := HL.out.1; omega) _ (sort3_calls _) (by simp) ((blk_cell (blk_new w2 (.cells #[.slice A l.length c] 33)) 0).trans rfl) (Kd.C_below HR.out HB3.out))
  rw [HS.out] at HSo
  go_wp2_with fail
  refine HSo.out.mono ?_
  rintro e w4 ⟨v, rfl, hv, hb4⟩
  have HV := Sd.mk (Kd.N_lower hv HB3.out.size)
  have HB4 := Sd.mk (HB3.out.trans (hb4.mono HB3.out.size))
  clear hv hb4 HB3 HSo HB2
  go_wp2
  obtain ⟨A3, c3, rfl, hc3, hC3⟩ := Kd.N_reads HV.out
  clear hC3
  have hn2 : s.length < 4611686018427387904 := by have := HN.out; have := HL.out.1; omega
  go_loopw [4] (fun v4 wr => ∃ i : Nat, 1 ≤ i ∧ (i ≤ s.length ∨ i = 1) ∧ v4 = .int .i64 i ∧ Sd (adjEq cmpSer s = adjEq cmpSer (s.drop (i - 1))) ∧ Sd (Kd.N k37 37 wr w.heap.size (fun _ => True) (.slice A3 s.length c3) s) ∧ Sd (Below w.heap.size w wr)) (fun v4 _ => s.length + 1 - (intOf v4).toNat)
  case atStart => exact ⟨1, Nat.le_refl _, .inr rfl, rfl, ⟨rfl⟩, HV, HB4⟩
  case round =>
   clear HV HB4
   obtain ⟨i, h1, hi, rfl, HT, HO, HW⟩ := hrel
   by_cases hlt : i < s.length
   ·have hlt' : (i : Int) < (s.length : Int) := by omega
    obtain ⟨j, hj⟩ : ∃ j, i - 1 = j := ⟨_, rfl⟩
    have hjl : j < s.length := by omega
    have bj : (j : Int) < (s.length : Int) := by omega
    have hwp : IntKind.i64.wrap ((i : Int) - 1) = (j : Int) := by rw [IntKind.wrap_i64]; omega
    have hC := (Kd.N_reads' HO.out).2.2
    obtain ⟨ad, Ai, ci, rfl, p0, _, _, _, hCi⟩ := at_T37 hC (i : Int) (by omega) (by omega)
    obtain ⟨ad2, Aj, cj, e2, r0, _, _, _, hCj⟩ := at_T37 hC (j : Int) (by omega) (by omega)
    injection e2 with e2
    subst e2
    rw [rdS_at hlt] at p0 hCi
    rw [rdS_at hjl] at r0 hCj
    rw [Int.toNat_natCast] at p0 r0
    have hst := adjS_step s i h1 hlt
    simp only [hj] at hst
    have HX := Sd.mk (show adjEq cmpSer s = (decide (cmpL s[j].f0 s[i].f0 = 0) || adjEq cmpSer (s.drop i)) by rw [HT.out, hj, hst])
    clear hst hC HT
    have HJ := Sd.mk hj
    clear hj
    generalize s[i].f0 = x at p0 HX hCi
    generalize s[j].f0 = y at r0 HX hCj
    have q0 := fun p : Bw wr => p.cell p0
    have t0 := fun p : Bw wr => p.cell r0
    have hcmp := fun p : Bw wr => p.at (lcompare_calls Aj Ai cj ci y x p.w (Kd.C_below hCj p.h) (Kd.C_below hCi p.h))
    clear p0 r0 hCi hCj
    generalize hcr : cmpL y x = cr at HX hcmp
    clear hcr
    by_cases he : cr = 0
    ·subst he
     have HZ := Sd.mk (show adjEq cmpSer s = true by rw [HX.out, decide_eq_true rfl, Bool.true_or])
     go_wp2_with fail
     refine wp_region_Bw (by assumption) (by kernel_rfl) ?_
     repeat (quiet_step ((go_at_call 57; exact hcmp _)))
     refine wpQuiet_nil ?_
     intro _ hw'
     obtain ⟨p, rfl⟩ := hw'
     have HB2 := Sd.mk (HW.out.trans (p.h.mono HW.out.size))
     go_wp2
     go_ret2
     have er : r = ([], 8) := by rw [← HRR.out]; simp [HZ.out]
     exact ⟨.slice none 0 0, by rw [er]; rfl, by rw [er]; exact Kd.N_nil _ _ _ _ _, HB2.out⟩
    ·have HZ := Sd.mk (show adjEq cmpSer s = adjEq cmpSer (s.drop (i + 1 - 1)) by rw [HX.out, decide_eq_false he, Bool.false_or, Nat.add_sub_cancel])
     have n0 : (cr == 0) = false := by simpa using he
     clear he HX
     go_wp2_with fail
     refine wp_region_Bw (by assumption) (by kernel_rfl) ?_
     repeat (quiet_step ((go_at_call 57; exact hcmp _)))
     refine wpQuiet_nil ?_
     intro _ hw'
     obtain ⟨p, rfl⟩ := hw'
     have HB2 := Sd.mk (HW.out.trans (p.h.mono HW.out.size))
     have HO2 := Sd.mk (Kd.N_below HO.out p.h)
     go_wp2
     go_roundw
     case rel => exact ⟨i + 1, by omega, .inl (by omega), by go_num, HZ, HO2, HB2⟩
     case measure => simp [intOf]; omega
   ·have n1 : decide ((i : Int) < (s.length : Int)) = false := decide_eq_false (by omega)
    have n2 : decide (i < s.length) = false := decide_eq_false hlt
    have HZ := Sd.mk (HT.out.trans (adjS_short (by rw [List.length_drop]; omega)))
    clear hi hlt h1
    by_cases h200 : 200 < s.length
    ·have er0 : r = ([], 6) := by rw [← HRR.out]; simp [HZ.out, h200]
     have ER := Sd.mk er0
     clear er0
     have b1 : decide ((s.length : Int) > 200) = true := decide_eq_true (by omega)
     have b2 : decide (200 < s.length) = true := decide_eq_true h200
     clear h200
     go_wp2
     go_ret2
     have er := ER.out
     exact ⟨.slice none 0 0, by rw [er]; rfl, by rw [er]; exact Kd.N_nil _ _ _ _ _, HW.out⟩
    ·have er0 : r = (s, 0) := by rw [← HRR.out]; simp [HZ.out, h200]
     have ER := Sd.mk er0
     clear er0
     have b1 : decide ((s.length : Int) > 200) = false := decide_eq_false (by omega)
     have b2 : decide (200 < s.length) = false := decide_eq_false h200
     clear h200
     go_wp2
     go_ret2
     have er := ER.out
     exact ⟨.slice A3 s.length c3, by rw [er]; rfl, by rw [er]; exact HO.out, HW.out⟩
theorem get1_calls (x : Lab) (n : ByteArray) (ad : Addr) (w : World) (hc : w.cell? ad = some (.string n)) : Calls Tryz.prog 153 #[.agg #[.string x.f0, .string x.f1], .pointer (some ad)] w fun e w' => e = .returned (.bool (decide (x.f0.toList = n.toList))) ∧ Below w.heap.size w w' := by
 obtain ⟨s, t⟩ := x
 simp only
 have c0 := pw_cell_below (bal (Below.refl w.heap.size w) (.cells #[.string s, .string t] 62)) hc
 clear hc
 by_cases h : s.toList = n.toList
 ·have e1 : (s.toList == n.toList) = true := by simp [h]
  rw [decide_eq_true h]
  have H := Sd.mk h
  clear h
  go_enter Tryz.func153, Tryz.ntmps153
  go_wp2
  go_ret
  exact ⟨by first | rfl | (simp [H.out]; done), by repeat (first | exact Below.refl _ _ | apply bal | apply pbd | apply bd1)⟩
 ·have e1 : (s.toList == n.toList) = false := by simp [h]
  rw [decide_eq_false h]
  have H := Sd.mk h
  clear h
  go_enter Tryz.func153, Tryz.ntmps153
  go_wp2
  go_ret
  exact ⟨by first | rfl | (simp [H.out]; done), by repeat (first | exact Below.refl _ _ | apply bal | apply pbd | apply bd1)⟩
theorem idx_get (n : ByteArray) : ∀ (l : List Lab) (i : Nat), (Go.Proofs.YtcmiehddjgfjaaaGreat.I.idxP (fun x : Lab => decide (x.f0.toList = n.toList)) l i = -1 ∧ getL l n = ⟨#[]⟩) ∨ ∃ (k : Nat) (h : k < l.length), Go.Proofs.YtcmiehddjgfjaaaGreat.I.idxP (fun x : Lab => decide (x.f0.toList = n.toList)) l i = ((i + k : Nat) : Int) ∧ getL l n = l[k].f1
 | [], i => .inl ⟨rfl, rfl⟩
 | x :: l, i => by
  rw [Go.Proofs.YtcmiehddjgfjaaaGreat.I.idxP, getL]
  by_cases h : x.f0.toList = n.toList
  ·rw [if_pos (decide_eq_true h), if_pos h]
   exact .inr ⟨0, by simp, rfl, rfl⟩
  ·rw [if_neg (by simpa using h), if_neg h]
   rcases idx_get n l (i + 1) with ⟨a, b⟩ | ⟨k, hk, a, b⟩
   ·exact .inl ⟨a, b⟩
   ·exact .inr ⟨k + 1, by simp; omega, by rw [a]; congr 1; omega, b⟩
theorem get_calls (A : Option Addr) (c : Nat) (l : List Lab) (n : ByteArray) (w : World) (hr : Kd.C k62 w A l.length l) :
  Calls Tryz.prog 106 #[.slice A l.length c, .string n] w fun e w' => e = .returned (.string (getL l n)) ∧ Below w.heap.size w w' := by
 have hm : l.length ≤ 9223372036854775807 := Kd.C_max hr
 have eg : ∀ args w, (callFunc 153 args).run Tryz.prog w = .ok (.enter 153 args) w := enters_of Tryz.func153 (by kernel_rfl) rfl
 have hb0 : Below w.heap.size w (w.alloc (.cells #[.string n] 9)) := bal (Below.refl _ _) _
 have hcell : (w.alloc (.cells #[.string n] 9)).cell? ⟨w.heap.size, 0, none⟩ = some (.string n) := (blk_cell (blk_new w _) 0).trans rfl
 have hi := indexLabel (fun x => decide (x.f0.toList = n.toList)) 153 #[.pointer (some ⟨w.heap.size, 0, none⟩)] eg A c l _ (Kd.C_below hr hb0) (fun x hx w1 cs hw hK => by
  obtain rfl := k62_open hK
  exact get1_calls x n _ w1 (pw_cell_below hw hcell))
 have HI := Sd.mk hi
 have HB0 := Sd.mk hb0
 have HR := Sd.mk hr
 clear hi hb0 hr hcell eg
 rcases idx_get n l 0 with ⟨h1, h2⟩ | ⟨k, hk, h1, h2⟩
 ·rw [h1] at HI
  have HZ := Sd.mk h2
  clear h1 h2
  go_enter Tryz.func106, Tryz.ntmps106
  go_wp2_with (go_at_call 151; refine HI.out.mono ?_; rintro e w1 ⟨rfl, hb1⟩; have HB := Sd.mk (HB0.out.trans (hb1.mono HB0.out.size)); clear hb1)
  go_ret
  exact ⟨by rw [HZ.out]; rfl, HB.out⟩
 ·rw [h1, Nat.zero_add] at HI
  have HZ := Sd.mk h2
  clear h1 h2
  have n0 : decide ((k : Int) < 0) = false := decide_eq_false (by omega)
  have bk : (k : Int) < (l.length : Int) := by omega
  go_enter Tryz.func106, Tryz.ntmps106
  go_wp2_with fail
  refine HI.out.mono ?_
  rintro e w1 ⟨rfl, hb1⟩
  have HB := Sd.mk (HB0.out.trans (hb1.mono HB0.out.size))
  obtain ⟨ad, rfl, p0, p1⟩ := at_T62 (Kd.C_below HR.out HB.out) (k : Int) (by omega) (by omega)
  rw [Int.toNat_natCast, rdL_at hk] at p0 p1
  clear hb1 p0
  generalize l[k].f1 = r at p1 HZ
  go_wp2
  go_ret
  exact ⟨by rw [HZ.out]; rfl, HB.out⟩
attribute [local go_sem high] eqA62
def idxL (x : Lab) : List Lab → Nat → Int
 | [], _ => -1
 | y :: l, i => if cmpLab x y = 0 then (i : Int) else idxL x l (i + 1)
def hasL (l : List Lab) (x : Lab) : Bool := l.any fun y => decide (cmpLab x y = 0)
theorem hasL_iff (l : List Lab) (x : Lab) : hasL l x = true ↔ x ∈ l := by
 unfold hasL
 rw [List.any_eq_true]
 constructor
 ·rintro ⟨y, hy, h⟩
  rw [cmpLab_eq.1 (of_decide_eq_true h)]; exact hy
 ·intro h; exact ⟨x, h, decide_eq_true (cmpLab_eq.2 rfl)⟩
theorem idxL_ge (x : Lab) : ∀ (l : List Lab) (i : Nat), decide (0 ≤ idxL x l i) = hasL l x
 | [], i => by simp [idxL, hasL]
 | y :: l, i => by
  have ih := idxL_ge x l (i + 1)
  unfold hasL at ih ⊢
  rw [idxL, List.any_cons]
  by_cases h : cmpLab x y = 0
  ·rw [if_pos h, decide_eq_true h, Bool.true_or]
   exact decide_eq_true (by omega)
  ·rw [if_neg h, decide_eq_false h, Bool.false_or, ih]
theorem idxL_calls (A : Option Addr) (c : Nat) (l : List Lab) (x : Lab) (w : World) (hr : Kd.C k62 w A l.length l) :
  Calls Tryz.prog 152 #[.slice A l.length c, .agg #[.string x.f0, .string x.f1]] w fun e w' => e = .returned (.int .i64 (idxL x l 0)) ∧ Below w.heap.size w w' := by
 have hm : l.length ≤ 9223372036854775807 := Kd.C_max hr
 have HR := Sd.mk hr
 have mixed : Tryz.prog.follows .mixedOrders = true := by kernel_rfl
 have HB0 := Sd.mk (bal (Below.refl w.heap.size w) (.cells #[.string x.f0, .string x.f1] 62))
 have X0 := Sd.mk (blk_new w (.cells #[.string x.f0, .string x.f1] 62))
 clear hr
 go_enter Tryz.func152, Tryz.ntmps152
 go_wp2
 go_loopw [4, 5, 8] (fun v4 _ v8 wr => ∃ i : Nat, i ≤ l.length ∧ v4 = .int .i64 0 ∧ v8 = .int .i64 i ∧ Sd (idxL x l 0 = idxL x (l.drop i) i) ∧ Sd (Below (w.alloc (.cells #[.string x.f0, .string x.f1] 62)).heap.size (w.alloc (.cells #[.string x.f0, .string x.f1] 62)) wr)) (fun _ _ v8 _ => l.length - (intOf v8).toNat)
 case atStart => exact ⟨0, Nat.zero_le _, rfl, rfl, ⟨rfl⟩, ⟨Below.refl _ _⟩⟩
 case round =>
  obtain ⟨i, hi, rfl, rfl, HT, HW⟩ := hrel
  have HG := Sd.mk (HB0.out.trans (HW.out.mono HB0.out.size))
  by_cases hlt : i < l.length
  ·have b1 : (i : Int) < (l.length : Int) := by omega
   obtain ⟨ad, rfl, p0, p1⟩ := at_T62 (Kd.C_below HR.out HG.out) (i : Int) (by omega) (by omega)
   rw [Int.toNat_natCast, rdL_at hlt] at p0 p1
   have hst : idxL x (l.drop i) i = if cmpLab x l[i] = 0 then (i : Int) else idxL x (l.drop (i + 1)) (i + 1) := by rw [List.drop_eq_getElem_cons hlt, idxL]
   have HX := Sd.mk (HT.out.trans hst)
   clear hst HT
   generalize l[i] = y at p0 p1 HX
   have q0 := fun p : Bw wr => p.cell p0
   have q1 := fun p : Bw wr => p.cell p1
   have s0 := fun p : Bw wr => p.cell ((blk_cell (blk_below X0.out HW.out) 0).trans rfl)
   have s1 := fun p : Bw wr => p.cell ((blk_cell (blk_below X0.out HW.out) 1).trans rfl)
   clear p0 p1
   by_cases he : cmpLab x y = 0
   ·have HZ := Sd.mk (HX.out.trans (if_pos he))
    obtain rfl := cmpLab_eq.1 he
    clear he HX
    go_wp2_with fail
    refine wp_region_Bw (by assumption) (by kernel_rfl) ?_
    repeat ((with_reducible refine wpQuiet_step (fun K hK => ?_)); go_simp; first | ((with_reducible refine hK _ ?_); clear hK K) | (rw [if_neg (by decide)]; (with_reducible refine hK _ ?_); clear hK K))
    refine wpQuiet_nil ?_
    intro _ hw'
    obtain ⟨p, rfl⟩ := hw'
    have HB2 := Sd.mk (HG.out.trans (p.h.mono HG.out.size))
    go_wp2
    go_ret
    exact ⟨by rw [HZ.out]; rfl, HB2.out⟩
   ·have HZ := Sd.mk (HX.out.trans (if_neg he))
    have ne := lab_ne he
    clear he HX
    go_wp2_with fail
    refine wp_region_Bw (by assumption) (by kernel_rfl) ?_
    repeat ((with_reducible refine wpQuiet_step (fun K hK => ?_)); go_simp; first | ((with_reducible refine hK _ ?_); clear hK K) | (rw [if_neg (by decide)]; (with_reducible refine hK _ ?_); clear hK K))
    refine wpQuiet_nil ?_
    intro _ hw'
    obtain ⟨p, rfl⟩ := hw'
    have HB2 := Sd.mk (HW.out.trans (p.h.mono HW.out.size))
    go_wp2
    go_roundw
    case rel => exact ⟨i + 1, by omega, rfl, by go_num, HZ, HB2⟩
    case measure => simp [intOf]; omega
  ·have m1 : decide ((i : Int) < (l.length : Int)) = false := decide_eq_false (by omega)
   have m2 : decide (i < l.length) = false := decide_eq_false hlt
   have HZ := Sd.mk (show idxL x l 0 = -1 by rw [HT.out, List.drop_of_length_le (by omega)]; rfl)
   go_wp2
   go_ret
   exact ⟨by rw [HZ.out]; rfl, HG.out⟩
theorem hasL_calls (A : Option Addr) (c : Nat) (l : List Lab) (x : Lab) (w : World) (hr : Kd.C k62 w A l.length l) :
  Calls Tryz.prog 104 #[.slice A l.length c, .agg #[.string x.f0, .string x.f1]] w fun e w' => e = .returned (.bool (hasL l x)) ∧ Below w.heap.size w w' := by
 have hb := bal (Below.refl w.heap.size w) (.cells #[.string x.f0, .string x.f1] 62)
 have HI := Sd.mk (idxL_calls A c l x _ (Kd.C_below hr hb))
 have HB := Sd.mk hb
 rw [← idxL_ge x l 0]
 generalize idxL x l 0 = r at HI ⊢
 obtain ⟨s, t⟩ := x
 simp only at HI HB
 clear hr hb
 go_enter Tryz.func104, Tryz.ntmps104
 go_wp2_with (go_at_call 152; refine HI.out.mono ?_; rintro e w1 ⟨rfl, hb1⟩; have HE := Sd.mk (HB.out.trans (hb1.mono HB.out.size)); clear hb1)
 go_ret
 exact ⟨by first | rfl | simp, HE.out⟩
theorem within1_calls (B : Option Addr) (c : Nat) (b : List Lab) (x : Lab) (ad : Addr) (w : World) (hr : Kd.C k62 w B b.length b) (hc : w.cell? ad = some (.slice B b.length c)) :
  Calls Tryz.prog 103 #[.agg #[.string x.f0, .string x.f1], .pointer (some ad)] w fun e w' => e = .returned (.bool (!hasL b x)) ∧ Below w.heap.size w w' := by
 have hb := bal (Below.refl w.heap.size w) (.cells #[.string x.f0, .string x.f1] 62)
 have c0 := pw_cell_below hb hc
 have HI := Sd.mk (hasL_calls B c b x _ (Kd.C_below hr hb))
 have HB := Sd.mk hb
 generalize hasL b x = r at HI ⊢
 obtain ⟨s, t⟩ := x
 simp only at HI HB c0 ⊢
 clear hr hb hc
 go_enter Tryz.func103, Tryz.ntmps103
 go_wp2_with (go_at_call 104; refine HI.out.mono ?_; rintro e w1 ⟨rfl, hb1⟩; have HE := Sd.mk (HB.out.trans (hb1.mono HB.out.size)); clear hb1)
 go_ret
 exact ⟨by first | rfl | simp, HE.out⟩
/-- The code's 'within'. -/
def inC (a b : List Lab) : Bool := !a.any fun x => !hasL b x
theorem inC_iff (a b : List Lab) : inC a b = true ↔ Within a b := by
 unfold inC Within
 rw [Bool.not_eq_true', List.any_eq_false]
 constructor
 ·intro h x hx
  have := h x hx
  rw [Bool.not_eq_true', Bool.not_eq_false] at this
  exact (hasL_iff b x).1 this
 ·intro h x hx
  rw [(hasL_iff b x).2 (h x hx)]; simp
theorem within_calls (A B : Option Addr) (c d : Nat) (a b : List Lab) (w : World) (ha : Kd.C k62 w A a.length a) (hb : Kd.C k62 w B b.length b) :
  Calls Tryz.prog 63 #[.slice A a.length c, .slice B b.length d] w fun e w' => e = .returned (.bool (inC a b)) ∧ Below w.heap.size w w' := by
 have eg : ∀ args w, (callFunc 103 args).run Tryz.prog w = .ok (.enter 103 args) w := enters_of Tryz.func103 (by kernel_rfl) rfl
 have hb0 : Below w.heap.size w (w.alloc (.cells #[.slice B b.length d] 35)) := bal (Below.refl _ _) _
 have hcell : (w.alloc (.cells #[.slice B b.length d] 35)).cell? ⟨w.heap.size, 0, none⟩ = some (.slice B b.length d) := (blk_cell (blk_new w _) 0).trans rfl
 have hi := containsLabel (fun x => !hasL b x) 103 #[.pointer (some ⟨w.heap.size, 0, none⟩)] eg A c a _ (Kd.C_below ha hb0) (fun x hx w1 cs hw hK => by
  obtain rfl := k62_open hK
  exact within1_calls B d b x _ w1 (Kd.C_below (Kd.C_below hb hb0) hw) (pw_cell_below hw hcell))
 unfold inC
 generalize (a.any fun x => !hasL b x) = r at hi ⊢
 have HI := Sd.mk hi
 have HB := Sd.mk hb0
 clear hi hb0 hcell eg ha hb
 go_enter Tryz.func63, Tryz.ntmps63
 go_wp2_with (go_at_call 102; refine HI.out.mono ?_; rintro e w1 ⟨rfl, hb1⟩; have HE := Sd.mk (HB.out.trans (hb1.mono HB.out.size)); clear hb1)
 go_ret
 exact ⟨by first | rfl | simp, HE.out⟩
def fits (x y : Ser) : Bool := inC x.f0 y.f0 || inC y.f0 x.f0
def joinS (op : ByteArray) (x y : Ser) : Ser := ⟨(vJoinL x.f0 y.f0).1, ⟨(vDo op [(x.f1.f0, x.f1.f1), (y.f1.f0, y.f1.f1)]).1.1, (vDo op [(x.f1.f0, x.f1.f1), (y.f1.f0, y.f1.f1)]).1.2⟩⟩
def rowJ (op : ByteArray) (x : Ser) (q : List Ser) : List Ser := (q.filter (fits x)).map (joinS op x)
def pairsJ (op : ByteArray) (p q : List Ser) : List Ser := p.flatMap fun x => rowJ op x q
def vJoin (op : ByteArray) (a b : List Ser) : List Ser × Int := if (vSort a).2 = 0 then (if (vSort b).2 = 0 then (if (vDo op [(1, 0), (1, 0)]).2 = 0 then vSort (pairsJ op (vSort a).1 (vSort b).1) else ([], 2)) else ([], (vSort b).2)) else ([], (vSort a).2)
theorem rowJ_step (op : ByteArray) (x : Ser) (q : List Ser) (j : Nat) (hj : j < q.length) : rowJ op x (q.take (j + 1)) = rowJ op x (q.take j) ++ (if fits x q[j] = true then [joinS op x q[j]] else []) := by
 unfold rowJ
 rw [List.take_add_one, List.getElem?_eq_getElem hj, List.filter_append, List.map_append]
 congr 1
 by_cases h : fits x q[j] = true
 ·rw [if_pos h]; simp [h]
 ·rw [if_neg h]; simp [h]
theorem pairsJ_step (op : ByteArray) (p q : List Ser) (i : Nat) (hi : i < p.length) : pairsJ op (p.take (i + 1)) q = pairsJ op (p.take i) q ++ rowJ op p[i] q := by
 unfold pairsJ
 rw [List.take_add_one, List.getElem?_eq_getElem hi, List.flatMap_append]
 simp
theorem rowJ_len (op : ByteArray) (x : Ser) (q : List Ser) : (rowJ op x q).length ≤ q.length := by
 unfold rowJ
 rw [List.length_map]
 exact List.length_filter_le _ _
theorem pairsJ_len (op : ByteArray) (q : List Ser) : ∀ p : List Ser, (pairsJ op p q).length ≤ p.length * q.length
 | [] => by simp [pairsJ]
 | x :: p => by
  have h1 := rowJ_len op x q
  have h2 := pairsJ_len op q p
  have e : pairsJ op (x :: p) q = rowJ op x q ++ pairsJ op p q := by unfold pairsJ; rw [List.flatMap_cons]
  rw [e, List.length_append, List.length_cons, Nat.add_mul, Nat.one_mul]
  omega
theorem set_ok {l : List Lab} (h : isSet l = true) : LabsOk l ∧ l.length ≤ 16 := by
 obtain ⟨h1, _, h3⟩ := (isSet_iff l).1 h
 refine ⟨⟨by omega, fun x hx => ?_⟩, h3⟩
 have := h1 x hx
 unfold isLab isName at this
 simp only [Bool.and_eq_true, decide_eq_true_eq] at this
 unfold LabOk
 omega
theorem vSort_ok {l : List Ser} (h : (vSort l).2 = 0) : (∀ x ∈ l, isSet x.f0 = true) ∧ (∀ x ∈ l, isV (x.f1.f0, x.f1.f1)) ∧ adjEq cmpSer (isort (ltOf cmpSer) l) = false ∧ l.length ≤ 200 ∧ (vSort l).1 = isort (ltOf cmpSer) l := by
 unfold vSort at h ⊢
 split at h
 ·cases h
 ·rename_i h1
  split at h
  ·cases h
  ·rename_i h2
   split at h
   ·cases h
   ·rename_i h3
    split at h
    ·cases h
    ·rename_i h4
     rw [isort_length] at h4
     refine ⟨fun x hx => ?_, fun x hx => ?_, by simpa using h3, by omega, by rw [if_neg h1, if_neg h2, if_neg h3, if_neg (by rw [isort_length]; exact h4)]⟩
     ·cases hb : isSet x.f0 with
      | true => rfl
      | false => exact absurd (List.any_eq_true.2 ⟨x, hx, by rw [hb]; rfl⟩) h1
     ·by_cases hb : isV (x.f1.f0, x.f1.f1)
      ·exact hb
      ·exact absurd (List.any_eq_true.2 ⟨x, hx, by unfold badVal; rw [decide_eq_false hb]; rfl⟩) h2
theorem vSort_mem {l : List Ser} (h : (vSort l).2 = 0) {x : Ser} : x ∈ (vSort l).1 ↔ x ∈ l := by
 rw [(vSort_ok h).2.2.2.2]
 exact (isort_perm _ l).mem_iff
theorem vSort_len {l : List Ser} (h : (vSort l).2 = 0) : (vSort l).1.length ≤ 200 := by
 rw [(vSort_ok h).2.2.2.2, isort_length]
 exact (vSort_ok h).2.2.2.1
/-- The labels of two that fit: the longer ones. -/
theorem joinS_labels {op : ByteArray} {x y : Ser} (hx : isSet x.f0 = true) (hy : isSet y.f0 = true) (hf : fits x y = true) : (joinS op x y).f0 = (if x.f0.length < y.f0.length then y.f0 else x.f0) := by
 unfold fits at hf
 rw [Bool.or_eq_true, inC_iff, inC_iff] at hf
 unfold joinS
 rw [join_longer hx hy hf]
theorem pairsJ_sets {op : ByteArray} {p q : List Ser} (hp : ∀ x ∈ p, isSet x.f0 = true) (hq : ∀ x ∈ q, isSet x.f0 = true) : ∀ z ∈ pairsJ op p q, isSet z.f0 = true := by
 intro z hz
 unfold pairsJ rowJ at hz
 obtain ⟨x, hx, hz⟩ := List.mem_flatMap.1 hz
 obtain ⟨y, hy, rfl⟩ := List.mem_map.1 hz
 obtain ⟨hy, hf⟩ := List.mem_filter.1 hy
 rw [joinS_labels (hp x hx) (hq y hy) hf]
 split
 ·exact hq y hy
 ·exact hp x hx
theorem pairsJ_ok {op : ByteArray} {p q : List Ser} (hp : ∀ x ∈ p, isSet x.f0 = true) (hq : ∀ x ∈ q, isSet x.f0 = true) (lp : p.length ≤ 200) (lq : q.length ≤ 200) : SersOk (pairsJ op p q) := by
 have h1 := pairsJ_len op q p
 have h2 : p.length * q.length ≤ 200 * 200 := Nat.mul_le_mul lp lq
 refine ⟨by omega, fun z hz => ?_⟩
 have h := set_ok (pairsJ_sets hp hq z hz)
 exact ⟨by omega, h.1⟩
end Go.Proofs.YtcmiehddjgfjaaaGreat.A
