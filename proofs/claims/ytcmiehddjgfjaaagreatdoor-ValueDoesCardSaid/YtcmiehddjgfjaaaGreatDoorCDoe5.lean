/- A part of the proof of LawValueDoes: contracts and plain laws, put together by a program of this session. -/
import Derived.Test.YtcmiehddjgfjaaaGreatDoorCDoe4
namespace Go.Proofs.YtcmiehddjgfjaaaGreatDoor.A
open Go.RowKit Go.Proofs.YtcmiehddjgfjaaaGreatDoorW.PrintWords Go.Proofs.YtcmiehddjgfjaaaGreatDoorW.PrintLast Go.Proofs.YtcmiehddjgfjaaaGreatDoorW.PrintMore
attribute [local go_sem] max2_int min2_int max_two min_two max_three min_three max_four min_four   -- for this text's walks alone
set_option linter.unusedVariables false
set_option linter.unusedSimpArgs false
def r8_Do.j0 : Nat → ByteArray → List (S25) → Bool → Int → Int → Option (Int × Int × Int)
 | 0, _, _, _, _, _ => none
 | k + 1, x0, x1, x7, x390000, x390001 => if (x1.length : Int) = 2 then (if 0 < (x1.length : Int) then (if 1 < (x1.length : Int) then ((r8_two.f k x0 ((rd_T25 x1 0).f0) ((rd_T25 x1 0).f1) ((rd_T25 x1 1).f0) ((rd_T25 x1 1).f1)).bind fun bt396 => (if bt396.2.2 = true then (some (bt396.1, bt396.2.1, 0)) else (some (0, 0, 2)))) else (none)) else (none)) else (if x7 = true then (some (x390000, x390001, 0)) else (some (0, 0, 2)))
def r8_Do.f (k : Nat) (a0 : ByteArray) (l1 : List (S25)) : Option (Int × Int × Int) := (r8_Check.f k l1).bind fun t388 => (if t388 = 0 then (if (l1.length : Int) = 1 then (if 0 < (l1.length : Int) then ((r8_one.f k a0 ((rd_T25 l1 0).f0) ((rd_T25 l1 0).f1)).bind fun bt391 => (r8_Do.j0 k a0 l1 bt391.2.2 bt391.1 bt391.2.1)) else (none)) else (r8_Do.j0 k a0 l1 false 0 0)) else (some (0, 0, 80)))
theorem r8_Do.mono_l : ∀ k, (∀ y0 y1 y2 y3 y4, LeO (r8_Do.j0 k y0 y1 y2 y3 y4) (r8_Do.j0 (k + 1) y0 y1 y2 y3 y4))
 | 0 => fun _ _ _ _ _ r h => by simp [r8_Do.j0] at h
 | k + 1 => by
  have ih0 := r8_Do.mono_l k
  ·intro y0 y1 y2 y3 y4
   unfold r8_Do.j0
   repeat' first
   | (with_reducible exact ih0 _ _ _ _ _)
   | (with_reducible exact r8_Check.mono _ _)
   | (with_reducible exact r8_one.mono _ _ _ _)
   | (with_reducible exact r8_two.mono _ _ _ _ _ _)
   | (with_reducible exact LeO.refl _)
   | (with_reducible exact LeO.none _)
   | (with_reducible refine LeO.ite ?_ ?_)
   | (with_reducible refine LeO.bind ?_ (fun _ => ?_))
   | exact ih0 _ _ _ _ _
   | exact r8_Check.mono _ _
   | exact r8_one.mono _ _ _ _
   | exact r8_two.mono _ _ _ _ _ _
   | exact LeO.none _
   | refine LeO.ite ?_ ?_
   | refine LeO.bind ?_ (fun _ => ?_)
theorem r8_Do.mono : ∀ a0 a1 k, LeO (r8_Do.f k a0 a1) (r8_Do.f (k + 1) a0 a1) := by
 intro a0 a1 k
 have ih0 := r8_Do.mono_l k
 unfold r8_Do.f
 repeat' first
   | (with_reducible exact ih0 _ _ _ _ _)
   | (with_reducible exact r8_Check.mono _ _)
   | (with_reducible exact r8_one.mono _ _ _ _)
   | (with_reducible exact r8_two.mono _ _ _ _ _ _)
   | (with_reducible exact LeO.refl _)
   | (with_reducible exact LeO.none _)
   | (with_reducible refine LeO.ite ?_ ?_)
   | (with_reducible refine LeO.bind ?_ (fun _ => ?_))
   | exact ih0 _ _ _ _ _
   | exact r8_Check.mono _ _
   | exact r8_one.mono _ _ _ _
   | exact r8_two.mono _ _ _ _ _ _
   | exact LeO.none _
   | refine LeO.ite ?_ ?_
   | refine LeO.bind ?_ (fun _ => ?_)
def r8_Do.T7 : Bool × List (List Nat × List Nat) := (true, [([], []), ([], []), ([1], [1]), ([2], [2]), ([], []), ([4], [4]), ([5], [5]), ([0, 3, 6], [0, 3, 6]), ([7], [7]), ([8], [8]), ([8], [8]), ([9, 7, 0, 1, 2, 3, 4, 5, 6, 7, 8, 9], [9]), ([10, 11, 0, 1, 2, 3, 4, 5, 6, 7, 8, 9, 10, 11], [10])])
def r8_Do.B7 : List Nat := [0, 0, 2, 6, 0, 16, 48, 127, 255, 511, 511, 1023, 4095]
theorem r8_Do.tab7 : rtab .any (opsOf Tryz.f12 7) = r8_Do.T7 := by kernel_rfl
theorem r8_Do.bits7 : waitsOk r8_Do.T7.2 r8_Do.B7 = true := by kernel_rfl
set_option maxHeartbeats 8000000 in
set_option maxRecDepth 100000 in
theorem r8_Do.calls (k : Nat) (a0 : ByteArray) (A1 : Option Addr) (c1 : Nat) (l1 : List (S25)) (r1 : Int) (r2 : Int) (r3 : Int) (w : World) (hr1 : Kd.C k25 w A1 l1.length l1) (hc1 : l1.length ≤ c1) (h : r8_Do.f k a0 l1 = some (r1, r2, r3)) :
  Calls Tryz.prog 12 #[.string a0, .slice A1 l1.length c1] w fun e w' => e = .returned (.tuple #[.agg #[.int .i64 r1, .int .i64 r2], .int .i64 r3]) ∧ Below w.heap.size w w' := by
 have hu25 := Tryz.underlying25
 have HR1 := Sd.mk hr1
 have HC1 := Sd.mk hc1
 clear hr1 hc1
 have HB := Sd.mk (Below.refl w.heap.size w)
 have H : ((r8_Check.f k l1).bind fun t388 => (if t388 = 0 then (if (l1.length : Int) = 1 then (if 0 < (l1.length : Int) then ((r8_one.f k a0 ((rd_T25 l1 0).f0) ((rd_T25 l1 0).f1)).bind fun bt391 => (r8_Do.j0 k a0 l1 bt391.2.2 bt391.1 bt391.2.1)) else (none)) else (r8_Do.j0 k a0 l1 false 0 0)) else (some (0, 0, 80)))) = some (r1, r2, r3) := h
 clear h
 replace H := Option.bind_eq_some_iff.mp H
 obtain ⟨t388, A30, H⟩ := H
 replace H : (if t388 = 0 then (if (l1.length : Int) = 1 then (if 0 < (l1.length : Int) then ((r8_one.f k a0 ((rd_T25 l1 0).f0) ((rd_T25 l1 0).f1)).bind fun bt391 => (r8_Do.j0 k a0 l1 bt391.2.2 bt391.1 bt391.2.1)) else (none)) else (r8_Do.j0 k a0 l1 false 0 0)) else (some (0, 0, 80))) = some (r1, r2, r3) := H
 have A3 := Sd.mk A30
 clear A30
 by_cases c4 : t388 = 0
 ·rw [if_pos c4] at H
  have c4b0 : (t388 == 0) = true := beq_iff_eq.mpr c4
  have c4b1 : (t388 != 0) = false := bne_eq_false_iff_eq.mpr c4
  clear c4
  have HC5 := Sd.mk H
  clear H
  go_enter Tryz.func12, Tryz.ntmps12
  go_upto_if 15 with (first | ((with_reducible refine gate_dst (N := 4) rfl ?_); refine box_event ?hg (N := 4) ?hd (cs := #[.int .i64 0, .int .i64 0]) (t := 25) ?hr ?_; (case hd => rfl); (case hg => rfl); (case hr => first | (go_simp; done) | (go_simp; rfl)); intro gb387 hg w6 hbox hb; have n0_ := Sd.mk (below_step (by exact blwF HB.out) hb); have n1_ := Sd.mk (hbox); have n2_ := Sd.mk ((by rw [hg]; exact (below_size (by exact blwF HB.out)) : w.heap.size ≤ gb387)); have n3_ := Sd.mk ((by rw [hg]; exact (below_size (by exact blwF HB.out)) : w.heap.size ≤ gb387)); clear HB; have HB := n0_; have BK387 := n1_; have GW387 := n2_; have GE387 := n3_; clear n0_ n1_ n2_ n3_; clear hb hbox hg) | ((with_reducible refine gate_callee (f := 18) rfl ?_); refine goesL_ (some 9) rfl rfl Tryz.func18 (by kernel_rfl) rfl #[.slice A1 l1.length c1] rfl (by (try simp only [List.map_toArray, List.map_cons, List.map_nil]); first | done | rfl | (simp only [List.length_drop, List.length_take]; rfl)) ?_; (with_reducible refine (r8_Check.calls k _ _ l1 t388 _ ?side1 ?side2 A3.out).mono ?_); (case side1 => repeat (first | exact (Kd.C_below HR1.out HB.out) | (with_reducible refine Kd.C_alloc ?_ _) | (with_reducible refine Kd.C_drewN ?_ _) | (with_reducible refine Kd.C_drew ?_))); (case side2 => exact HC1.out); rintro e w7 ⟨rfl, hb⟩; refine ⟨_, rfl, ?_⟩; have n0_ := Sd.mk (blk_below (g := gb387) (o := .cells #[.int .i64 0, .int .i64 0] 25 (0, 0)) (by exact blkF BK387.out) hb); have n1_ := Sd.mk (below_step (by repeat (first | (with_reducible first | exact HB.out | apply bal | apply pbd | apply bd1 | refine bst ?_ GE387.out) | exact HB.out)) hb); clear BK387; clear HB; have BK387 := n0_; have HB := n1_; clear n0_ n1_; (try clear hb); (try clear hb2); (try clear hk); (try clear hi)) | ((with_reducible refine gate_dst (N := 6) rfl ?_); refine box_event ?hg (N := 6) ?hd (cs := #[.int .i64 0, .int .i64 0]) (t := 25) ?hr ?_; (case hd => rfl); (case hg => rfl); (case hr => first | (go_simp; done) | (go_simp; rfl)); intro gb389 hg w8 hbox hb; have n0_ := Sd.mk (blk_below (g := gb387) (o := .cells #[.int .i64 0, .int .i64 0] 25 (0, 0)) (by exact blkF BK387.out) hb); have n1_ := Sd.mk (below_step (by repeat (first | (with_reducible first | exact HB.out | apply bal | apply pbd | apply bd1 | refine bst ?_ GE387.out) | exact HB.out)) hb); have n2_ := Sd.mk (hbox); have n3_ := Sd.mk ((by rw [hg]; exact (below_size (by repeat (first | (with_reducible first | exact HB.out | apply bal | apply pbd | apply bd1 | refine bst ?_ GE387.out) | exact HB.out))) : w.heap.size ≤ gb389)); have n4_ := Sd.mk ((by rw [hg]; exact (below_size (by repeat (first | (with_reducible first | exact HB.out | apply bal | apply pbd | apply bd1 | refine bst ?_ GE387.out) | exact HB.out))) : w.heap.size ≤ gb389)); have n5_ := Sd.mk ((by rw [hg]; exact Nat.ne_of_lt (blk_lt (g := gb387) (o := .cells #[.int .i64 0, .int .i64 0] 25 (0, 0)) (by exact blkF BK387.out)) : gb387 ≠ gb389)); have n6_ := Sd.mk ((by rw [hg]; exact Nat.ne_of_gt (blk_lt (g := gb387) (o := .cells #[.int .i64 0, .int .i64 0] 25 (0, 0)) (by exact blkF BK387.out)) : gb389 ≠ gb387)); clear BK387; clear HB; have BK387 := n0_; have HB := n1_; have BK389 := n2_; have GW389 := n3_; have GE389 := n4_; have NB387_389 := n5_; have NB389_387 := n6_; clear n0_ n1_ n2_ n3_ n4_ n5_ n6_; clear hb hbox hg; have hnb9 := NB389_387.out; have hnc9 := NB387_389.out; have hcz10_0 : w8.cell? ⟨gb389, 0, none⟩ = some (.int .i64 0) := (blk_cell BK389.out 0).trans rfl; have hcz10_1 : w8.cell? ⟨gb389, 1, none⟩ = some (.int .i64 0) := (blk_cell BK389.out 1).trans rfl; have hfz10_0 := blk_frozen BK389.out 0; have hfz10_1 := blk_frozen BK389.out 1))
  (try simp only [Act.put, List.setIfInBounds_toArray, List.set_cons_zero, List.set_cons_succ])
  go_cut [7] (fun v7 wc => ∃ (kq : Nat) (x7_4 : Bool) (x390000_4 : Int) (x390001_4 : Int), v7 = .bool x7_4 ∧ Sd (r8_Do.j0 kq a0 l1 x7_4 x390000_4 x390001_4 = some (r1, r2, r3)) ∧ Sd (kq ≤ k) ∧ Sd (wc.heap[gb387]? = some (.cells #[.int .i64 0, .int .i64 0] 25 (0, 0))) ∧ Sd (wc.heap[gb389]? = some (.cells #[.int .i64 x390000_4, .int .i64 x390001_4] 25 (0, 0))) ∧ Sd (Below w.heap.size w wc))
  case first =>
   have H := HC5.out
   clear HC5
   by_cases c11 : (l1.length : Int) = 1
   ·rw [if_pos c11] at H
    have c11b0 : ((l1.length : Int) == 1) = true := beq_iff_eq.mpr c11
    have c11b1 : ((l1.length : Int) != 1) = false := bne_eq_false_iff_eq.mpr c11
    clear c11
    (first | rw [c11b0] | (simp only [i64_w, i32_w]; rw [c11b0]) | skip)
    by_cases c12 : 0 < (l1.length : Int)
    ·rw [if_pos c12] at H
     have c12b0 : decide (0 < (l1.length : Int)) = true := decide_eq_true c12
     have c12b1 : decide (0 < l1.length) = true := decide_eq_true (by omega)
     clear c12
     replace H := Option.bind_eq_some_iff.mp H
     obtain ⟨⟨t391, t392, t393⟩, A130, H⟩ := H
     replace H : (r8_Do.j0 k a0 l1 t393 t391 t392) = some (r1, r2, r3) := H
     have A13 := Sd.mk A130
     clear A130
     have H' := Sd.mk H
     clear H
     have p390 : 0 ≤ (0 : Int) := (by omega)
     have q390 : 0 < (l1.length : Int) := of_decide_eq_true (by first | (with_reducible assumption) | assumption)
     obtain ⟨ad390, e390, hx390_0, hx390_1⟩ := at_T25 HR1.out 0 p390 q390
     cases e390
     have qi390 : (0 < l1.length) = True := eq_true (by omega)
     (try rw [show ((0 : Int)).toNat = 0 from rfl] at hx390_0)
     (try rw [show 0 * 2 = 0 from rfl] at hx390_0)
     (try rw [Addr.add_zero'] at hx390_0)
     (try rw [show ((0 : Int)).toNat = 0 from rfl] at hx390_1)
     (try rw [show 0 * 2 = 0 from rfl] at hx390_1)
     (try rw [Addr.add_zero'] at hx390_1)
     have hn390_0 : ad390.block ≠ gb389 := Nat.ne_of_lt (Nat.lt_of_lt_of_le (by have := World.block_lt_of_cell? _ _ hx390_0; first | rwa [add_block] at this | exact this) GW389.out)
     have hn390_1 : ad390.block ≠ gb389 := Nat.ne_of_lt (Nat.lt_of_lt_of_le (by have := World.block_lt_of_cell? _ _ hx390_0; first | rwa [add_block] at this | exact this) GW389.out)
     replace hx390_0 := (HB.out.cell (World.block_lt_of_cell? w _ hx390_0)).trans hx390_0
     replace hx390_1 := (HB.out.cell (World.block_lt_of_cell? w _ hx390_1)).trans hx390_1
     replace hx390_0 := (cell_far (p := ⟨gb389, 0, none⟩) (by first | (rw [add_block]; exact hn390_0) | (show (Addr.add _ _).block ≠ _; rw [add_block]; exact hn390_0) | exact hn390_0) (.int .i64 0)).trans hx390_0
     replace hx390_1 := (cell_far (p := ⟨gb389, 0, none⟩) (by first | (rw [add_block]; exact hn390_0) | (show (Addr.add _ _).block ≠ _; rw [add_block]; exact hn390_0) | exact hn390_0) (.int .i64 0)).trans hx390_1
     replace hx390_0 := (cell_far (p := ⟨gb389, 1, none⟩) (by first | (rw [add_block]; exact hn390_1) | (show (Addr.add _ _).block ≠ _; rw [add_block]; exact hn390_1) | exact hn390_1) (.int .i64 0)).trans hx390_0
     replace hx390_1 := (cell_far (p := ⟨gb389, 1, none⟩) (by first | (rw [add_block]; exact hn390_1) | (show (Addr.add _ _).block ≠ _; rw [add_block]; exact hn390_1) | exact hn390_1) (.int .i64 0)).trans hx390_1
     clear hn390_0
     clear hn390_1
     replace p390 := eq_true p390
     replace q390 := eq_true q390
     go_wp2_with (first | ((with_reducible refine gate_callee (f := 39) rfl ?_); refine goesL_ (some 21) rfl rfl Tryz.func39 (by kernel_rfl) rfl #[.string a0, .agg #[.int .i64 ((rd_T25 l1 0).f0), .int .i64 ((rd_T25 l1 0).f1)]] rfl (by (try simp only [List.map_toArray, List.map_cons, List.map_nil]); first | done | rfl | (simp only [List.length_drop, List.length_take]; rfl)) ?_; (with_reducible refine (r8_one.calls k a0 ((rd_T25 l1 0).f0) ((rd_T25 l1 0).f1) t391 t392 t393 _ A13.out).mono ?_); rintro e w14 ⟨rfl, hb⟩; refine ⟨_, rfl, ?_⟩; have n0_ := Sd.mk (blk_below (g := gb387) (o := .cells #[.int .i64 0, .int .i64 0] 25 (0, 0)) (by (with_reducible repeat (first | refine blk_drewN ?_ _ | refine blk_drew ?_ | refine blk_alloc ?_ _)); refine blk_far ?_ NB387_389.out _; (with_reducible repeat (first | refine blk_drewN ?_ _ | refine blk_drew ?_ | refine blk_alloc ?_ _)); refine blk_far ?_ NB387_389.out _; (with_reducible repeat (first | refine blk_drewN ?_ _ | refine blk_drew ?_ | refine blk_alloc ?_ _)); exact BK387.out) hb); have n1_ := Sd.mk (blk_below (g := gb389) (o := .cells #[.int .i64 0, .int .i64 0] 25 (0, 0)) (by (with_reducible repeat (first | refine blk_drewN ?_ _ | refine blk_drew ?_ | refine blk_alloc ?_ _)); refine blk_put (cs := #[.int .i64 0, .int .i64 0]) ?_ 1 _ rfl; (with_reducible repeat (first | refine blk_drewN ?_ _ | refine blk_drew ?_ | refine blk_alloc ?_ _)); refine blk_put (cs := #[.int .i64 0, .int .i64 0]) ?_ 0 _ rfl; (with_reducible repeat (first | refine blk_drewN ?_ _ | refine blk_drew ?_ | refine blk_alloc ?_ _)); exact BK389.out) hb); have n2_ := Sd.mk (below_step (by repeat (first | (with_reducible first | exact HB.out | apply bal | apply pbd | apply bd1 | refine bst ?_ GE387.out | refine bst ?_ GE389.out) | exact HB.out)) hb); clear BK387; clear BK389; clear HB; have BK387 := n0_; have BK389 := n1_; have HB := n2_; clear n0_ n1_ n2_; (try clear hb); (try clear hb2); (try clear hk); (try clear hi); have hnb15 := NB389_387.out; have hnc15 := NB387_389.out; have hcz16_0 : w14.cell? ⟨gb389, 0, none⟩ = some (.int .i64 0) := (blk_cell BK389.out 0).trans rfl; have hcz16_1 : w14.cell? ⟨gb389, 1, none⟩ = some (.int .i64 0) := (blk_cell BK389.out 1).trans rfl; have hfz16_0 := blk_frozen BK389.out 0; have hfz16_1 := blk_frozen BK389.out 1))
     go_meet
     case rel => exact ⟨_, (t393), (t391), (t392), (by first | rfl | (simp; done) | (simp [*]; done)), H', ⟨by first | omega | exact Nat.le_refl _⟩, ⟨by (with_reducible repeat (first | refine blk_drewN ?_ _ | refine blk_drew ?_ | refine blk_alloc ?_ _)); refine blk_far ?_ NB387_389.out _; (with_reducible repeat (first | refine blk_drewN ?_ _ | refine blk_drew ?_ | refine blk_alloc ?_ _)); refine blk_far ?_ NB387_389.out _; (with_reducible repeat (first | refine blk_drewN ?_ _ | refine blk_drew ?_ | refine blk_alloc ?_ _)); exact BK387.out⟩, ⟨by (with_reducible repeat (first | refine blk_drewN ?_ _ | refine blk_drew ?_ | refine blk_alloc ?_ _)); refine blk_put (cs := #[.int .i64 t391, .int .i64 0]) ?_ 1 _ rfl; (with_reducible repeat (first | refine blk_drewN ?_ _ | refine blk_drew ?_ | refine blk_alloc ?_ _)); refine blk_put (cs := #[.int .i64 0, .int .i64 0]) ?_ 0 _ rfl; (with_reducible repeat (first | refine blk_drewN ?_ _ | refine blk_drew ?_ | refine blk_alloc ?_ _)); exact BK389.out⟩, ⟨by repeat (first | (with_reducible first | exact HB.out | apply bal | apply pbd | apply bd1 | refine bst ?_ GE387.out | refine bst ?_ GE389.out) | exact HB.out)⟩⟩
    ·rw [if_neg c12] at H
     exact absurd H (by simp)
   ·rw [if_neg c11] at H
    have c11b0 : ((l1.length : Int) == 1) = false := beq_eq_false_iff_ne.mpr c11
    have c11b1 : ((l1.length : Int) != 1) = true := bne_iff_ne.mpr c11
    (first | rw [c11b0] | (simp only [i64_w, i32_w]; rw [c11b0]) | skip)
    have H' := Sd.mk H
    clear H
    go_wp2
    go_meet
    case rel => exact ⟨_, (false), (0), (0), (by first | rfl | (simp; done) | (simp [*]; done)), H', ⟨by first | omega | exact Nat.le_refl _⟩, ⟨by (with_reducible repeat (first | refine blk_drewN ?_ _ | refine blk_drew ?_ | refine blk_alloc ?_ _)); refine blk_far ?_ NB387_389.out _; (with_reducible repeat (first | refine blk_drewN ?_ _ | refine blk_drew ?_ | refine blk_alloc ?_ _)); refine blk_far ?_ NB387_389.out _; (with_reducible repeat (first | refine blk_drewN ?_ _ | refine blk_drew ?_ | refine blk_alloc ?_ _)); exact BK387.out⟩, ⟨by (with_reducible repeat (first | refine blk_drewN ?_ _ | refine blk_drew ?_ | refine blk_alloc ?_ _)); refine blk_put (cs := #[.int .i64 0, .int .i64 0]) ?_ 1 _ rfl; (with_reducible repeat (first | refine blk_drewN ?_ _ | refine blk_drew ?_ | refine blk_alloc ?_ _)); refine blk_put (cs := #[.int .i64 0, .int .i64 0]) ?_ 0 _ rfl; (with_reducible repeat (first | refine blk_drewN ?_ _ | refine blk_drew ?_ | refine blk_alloc ?_ _)); exact BK389.out⟩, ⟨by repeat (first | (with_reducible first | exact HB.out | apply bal | apply pbd | apply bd1 | refine bst ?_ GE387.out | refine bst ?_ GE389.out) | exact HB.out)⟩⟩
  case rest =>
   clear HC5
   try clear c1
   try clear p2
   try clear c3
   try clear p3
   try clear q3
   try clear hx3
   try clear qi3
   try clear c4
   try clear c4b0
   try clear c4b1
   try clear c9
   try clear c11
   try clear c11b0
   try clear c11b1
   try clear c12
   try clear c12b0
   try clear c12b1
   try clear c15
   try clear hcz10_0
   try clear hcz10_1
   try clear hcz16_0
   try clear hcz16_1
   try clear hfz10_0
   try clear hfz10_1
   try clear hfz16_0
   try clear hfz16_1
   try clear hx390_0
   try clear hx390_1
   try clear p390
   try clear q390
   obtain ⟨kq, x7_4, x390000_4, x390001_4, rfl, HA, HJ4, BK387, BK389, HB⟩ := hcut
   cases kq with
   | zero => exact absurd HA.out (by simp [r8_Do.j0])
   | succ kj4 =>
    have H := HA.out
    clear HA
    simp only [r8_Do.j0] at H
    by_cases c17 : (l1.length : Int) = 2
    ·rw [if_pos c17] at H
     have c17b0 : ((l1.length : Int) == 2) = true := beq_iff_eq.mpr c17
     have c17b1 : ((l1.length : Int) != 2) = false := bne_eq_false_iff_eq.mpr c17
     clear c17
     by_cases c18 : 0 < (l1.length : Int)
     ·rw [if_pos c18] at H
      have c18b0 : decide (0 < (l1.length : Int)) = true := decide_eq_true c18
      have c18b1 : decide (0 < l1.length) = true := decide_eq_true (by omega)
      clear c18
      by_cases c19 : 1 < (l1.length : Int)
      ·rw [if_pos c19] at H
       have c19b0 : decide (1 < (l1.length : Int)) = true := decide_eq_true c19
       have c19b1 : decide (1 < l1.length) = true := decide_eq_true (by omega)
       clear c19
       replace H := Option.bind_eq_some_iff.mp H
       obtain ⟨⟨t396, t397, t398⟩, A200, H⟩ := H
       replace H : (if t398 = true then (some (t396, t397, 0)) else (some (0, 0, 2))) = some (r1, r2, r3) := H
       have A20 := Sd.mk A200
       clear A200
       by_cases c21 : t398 = true
       ·subst c21
        have H1 : (some (t396, t397, 0)) = some (r1, r2, r3) := by rw [if_pos rfl] at H; exact H
        clear H
        have H := H1
        clear H1
        simp only [Option.some.injEq, Prod.mk.injEq] at H
        obtain ⟨rfl, rfl, rfl⟩ := H
        try go_wp2
        have n0_ := Sd.mk (blk_drew BK387.out)
        have n1_ := Sd.mk (blk_drew BK389.out)
        have n2_ := Sd.mk (bd1 HB.out)
        clear BK387
        clear BK389
        clear HB
        have BK387 := n0_
        have BK389 := n1_
        have HB := n2_
        clear n0_ n1_ n2_
        have p394 : 0 ≤ (0 : Int) := (by omega)
        have q394 : 0 < (l1.length : Int) := of_decide_eq_true (by first | (with_reducible assumption) | assumption)
        obtain ⟨ad394, e394, hx394_0, hx394_1⟩ := at_T25 HR1.out 0 p394 q394
        have hw394_1 := hx394_1
        (try rw [show ((0 : Int)).toNat = 0 from rfl] at hw394_1)
        (try rw [show 0 * 2 = 0 from rfl] at hw394_1)
        (try rw [Addr.add_zero'] at hw394_1)
        have hw394_0 := hx394_0
        (try rw [show ((0 : Int)).toNat = 0 from rfl] at hw394_0)
        (try rw [show 0 * 2 = 0 from rfl] at hw394_0)
        (try rw [Addr.add_zero'] at hw394_0)
        cases e394
        have qi394 : (0 < l1.length) = True := eq_true (by omega)
        (try rw [show ((0 : Int)).toNat = 0 from rfl] at hx394_0)
        (try rw [show 0 * 2 = 0 from rfl] at hx394_0)
        (try rw [Addr.add_zero'] at hx394_0)
        (try rw [show ((0 : Int)).toNat = 0 from rfl] at hx394_1)
        (try rw [show 0 * 2 = 0 from rfl] at hx394_1)
        (try rw [Addr.add_zero'] at hx394_1)
        replace hx394_0 := (HB.out.cell (World.block_lt_of_cell? w _ hx394_0)).trans hx394_0
        replace hx394_1 := (HB.out.cell (World.block_lt_of_cell? w _ hx394_1)).trans hx394_1
        replace p394 := eq_true p394
        replace q394 := eq_true q394
        have p395 : 0 ≤ (1 : Int) := (by omega)
        have q395 : 1 < (l1.length : Int) := of_decide_eq_true (by first | (with_reducible assumption) | assumption)
        obtain ⟨ad395, e395, hx395_0, hx395_1⟩ := at_T25 HR1.out 1 p395 q395
        have hw395_1 := hx395_1
        (try rw [show ((1 : Int)).toNat = 1 from rfl] at hw395_1)
        (try rw [show 1 * 2 = 2 from rfl] at hw395_1)
        (try simp only [Nat.reduceMul, Nat.reduceEqDiff, Go.Addr.add, ↓reduceIte] at hw395_1)
        have hw395_0 := hx395_0
        (try rw [show ((1 : Int)).toNat = 1 from rfl] at hw395_0)
        (try rw [show 1 * 2 = 2 from rfl] at hw395_0)
        (try simp only [Nat.reduceMul, Nat.reduceEqDiff, Go.Addr.add, ↓reduceIte] at hw395_0)
        obtain rfl : ad394 = ad395 := (by injection e395)
        (try simp only [show (1 : Int).toNat = 1 from rfl, Nat.reduceMul, Nat.reduceEqDiff, Go.Addr.add, ↓reduceIte] at hx395_0)
        (try simp only [show (1 : Int).toNat = 1 from rfl, Nat.reduceMul, Nat.reduceEqDiff, Go.Addr.add, ↓reduceIte] at hx395_1)
        have qi395 : (1 < l1.length) = True := eq_true (by omega)
        (try rw [show ((1 : Int)).toNat = 1 from rfl] at hx395_0)
        (try rw [show 1 * 2 = 2 from rfl] at hx395_0)
        (try rw [show ((1 : Int)).toNat = 1 from rfl] at hx395_1)
        (try rw [show 1 * 2 = 2 from rfl] at hx395_1)
        replace hx395_0 := (HB.out.cell (World.block_lt_of_cell? w _ hx395_0)).trans hx395_0
        replace hx395_1 := (HB.out.cell (World.block_lt_of_cell? w _ hx395_1)).trans hx395_1
        replace p395 := eq_true p395
        replace q395 := eq_true q395
        refine start_ (n := 13) (S := fun w' => w'.cell? ad394 = some (.int .i64 ((rd_T25 l1 0).f0)) ∧ w'.cell? ⟨ad394.block, ad394.off + 1, none⟩ = some (.int .i64 ((rd_T25 l1 0).f1)) ∧ w'.cell? ⟨ad394.block, ad394.off + 2, none⟩ = some (.int .i64 ((rd_T25 l1 1).f0)) ∧ w'.cell? ⟨ad394.block, ad394.off + 2 + 1, none⟩ = some (.int .i64 ((rd_T25 l1 1).f1))) (ds := []) #[false, false, false, false, false, false, false, false, false, false, false, false, false] (by kernel_rfl) rfl rfl ⟨((HB.out.cell (World.block_lt_of_cell? w _ hw394_0)).trans hw394_0), ((HB.out.cell (World.block_lt_of_cell? w _ hw394_1)).trans hw394_1), ((HB.out.cell (World.block_lt_of_cell? w _ hw395_0)).trans hw395_0), ((HB.out.cell (World.block_lt_of_cell? w _ hw395_1)).trans hw395_1)⟩ (fun hHeld => ?_); refine with_tabW r8_Do.tab7 r8_Do.bits7 (fun HT_ HW_ => ?_)
        generalize wc.drew = w22 at BK387 BK389 HB hx394_0 hx394_1 hx395_0 hx395_1 hHeld ⊢
        refine pure_ (i := 0) (N := some 28) (v := ?_) (a' := ?_) #[true, false, false, false, false, false, false, false, false, false, false, false, false] rfl rfl (any_of HT_.out (by kernel_rfl)) (fun _ _ _ h => h) (Or.inl ⟨by rfl, ?_⟩) ?_ ?_
        rotate_left
        ·intro w'
         go_simp
         with_reducible rfl
        rotate_left
        ·simp only [Act.put, List.setIfInBounds_toArray, List.set_cons_zero, List.set_cons_succ, i64_w, i32_w]
         rfl
        refine pure_ (i := 1) (N := some 29) (v := ?_) (a' := ?_) #[true, true, false, false, false, false, false, false, false, false, false, false, false] rfl rfl (any_of HT_.out (by kernel_rfl)) (fun _ _ _ h => h) (Or.inl ⟨by rfl, ?_⟩) ?_ ?_
        rotate_left
        ·intro w'
         go_simp
         with_reducible rfl
        rotate_left
        ·simp only [Act.put, List.setIfInBounds_toArray, List.set_cons_zero, List.set_cons_succ, i64_w, i32_w]
         rfl
        refine pure_ (i := 2) (N := some 30) (v := ?_) (a' := ?_) #[true, true, true, false, false, false, false, false, false, false, false, false, false] rfl rfl (any_of HT_.out (by kernel_rfl)) (fun _ _ _ h => h) (Or.inl ⟨by rfl, ?_⟩) ?_ ?_
        rotate_left
        ·intro w'
         go_simp
         with_reducible rfl
        rotate_left
        ·simp only [Act.put, List.setIfInBounds_toArray, List.set_cons_zero, List.set_cons_succ, i64_w, i32_w]
         rfl
        refine pure_ (i := 4) (N := some 32) (v := ?_) (a' := ?_) #[true, true, true, false, true, false, false, false, false, false, false, false, false] rfl rfl (any_of HT_.out (by kernel_rfl)) (fun _ _ _ h => h) (Or.inl ⟨by rfl, ?_⟩) ?_ ?_
        rotate_left
        ·intro w'
         go_simp
         with_reducible rfl
        rotate_left
        ·simp only [Act.put, List.setIfInBounds_toArray, List.set_cons_zero, List.set_cons_succ, i64_w, i32_w]
         rfl
        refine pure_ (i := 5) (N := some 33) (v := ?_) (a' := ?_) #[true, true, true, false, true, true, false, false, false, false, false, false, false] rfl rfl (any_of HT_.out (by kernel_rfl)) (fun _ _ _ h => h) (Or.inl ⟨by rfl, ?_⟩) ?_ ?_
        rotate_left
        ·intro w'
         go_simp
         with_reducible rfl
        rotate_left
        ·simp only [Act.put, List.setIfInBounds_toArray, List.set_cons_zero, List.set_cons_succ, i64_w, i32_w]
         rfl
        refine take_ (i := 3) (N := some 31) (v := ?_) (a' := ?_) #[true, true, true, true, true, true, false, false, false, false, false, false, false] rfl rfl (take_ofW HT_.out HW_.out (by kernel_rfl)) (fun _ _ _ h => h) (Or.inl ⟨by rfl, ?_⟩) hHeld ?_ ?_
        rotate_left
        ·rintro w' ⟨s0, s1, s2, s3⟩
         go_simp
         with_reducible rfl
        rotate_left
        ·simp only [Act.put, List.setIfInBounds_toArray, List.set_cons_zero, List.set_cons_succ, i64_w, i32_w]
         rfl
        refine take_ (i := 6) (N := some 34) (v := ?_) (a' := ?_) #[true, true, true, true, true, true, true, false, false, false, false, false, false] rfl rfl (take_ofW HT_.out HW_.out (by kernel_rfl)) (fun _ _ _ h => h) (Or.inl ⟨by rfl, ?_⟩) hHeld ?_ ?_
        rotate_left
        ·rintro w' ⟨s0, s1, s2, s3⟩
         go_simp
         with_reducible rfl
        rotate_left
        ·simp only [Act.put, List.setIfInBounds_toArray, List.set_cons_zero, List.set_cons_succ, i64_w, i32_w]
         rfl
        refine one_ (i := 7) (N := some 35) #[true, true, true, true, true, true, true, true, false, false, false, false, false] rfl rfl (one_of HT_.out (by kernel_rfl)) (by decide) (fun K hK => ?_)
        refine goes_ Tryz.func40 (by kernel_rfl) rfl #[.string a0, .agg #[.int .i64 ((rd_T25 l1 0).f0), .int .i64 ((rd_T25 l1 0).f1)], .agg #[.int .i64 ((rd_T25 l1 1).f0), .int .i64 ((rd_T25 l1 1).f1)]] (by rfl) rfl rfl (by (try simp only [List.map_toArray, List.map_cons, List.map_nil]); first | done | rfl | (simp only [List.length_drop, List.length_take]; rfl)) ?_
        with_reducible refine (r8_two.calls kj4 a0 ((rd_T25 l1 0).f0) ((rd_T25 l1 0).f1) ((rd_T25 l1 1).f0) ((rd_T25 l1 1).f1) t396 t397 true _ A20.out).mono ?_
        rintro e w23 ⟨rfl, hb⟩
        refine ⟨_, rfl, ?_⟩
        have n0_ := Sd.mk (blk_below (g := gb387) (o := .cells #[.int .i64 0, .int .i64 0] 25 (0, 0)) (by exact blkF BK387.out) hb)
        have n1_ := Sd.mk (blk_below (g := gb389) (o := .cells #[.int .i64 x390000_4, .int .i64 x390001_4] 25 (0, 0)) (by exact blkF BK389.out) hb)
        have n2_ := Sd.mk (below_step (by repeat (first | (with_reducible first | exact HB.out | apply bal | apply pbd | apply bd1 | refine bst ?_ GE387.out | refine bst ?_ GE389.out) | exact HB.out)) hb)
        clear BK387
        clear BK389
        clear HB
        have BK387 := n0_
        have BK389 := n1_
        have HB := n2_
        clear n0_ n1_ n2_
        (try clear hb)
        (try clear hb2)
        (try clear hk)
        (try clear hi)
        refine hK.out _ _ ⟨((HB.out.cell (World.block_lt_of_cell? w _ hw394_0)).trans hw394_0), ((HB.out.cell (World.block_lt_of_cell? w _ hw394_1)).trans hw394_1), ((HB.out.cell (World.block_lt_of_cell? w _ hw395_0)).trans hw395_0), ((HB.out.cell (World.block_lt_of_cell? w _ hw395_1)).trans hw395_1)⟩ (fun hHeld => ?_)
        clear hK K
        refine norm_ (a' := ?_) ?_ ?_
        rotate_left
        ·show Act.put _ (some 35) _ = _
         simp only [Act.put, List.setIfInBounds_toArray, List.set_cons_zero, List.set_cons_succ, i64_w, i32_w]
         rfl
        refine pure_ (i := 8) (N := some 27) (v := ?_) (a' := ?_) #[true, true, true, true, true, true, true, true, true, false, false, false, false] rfl rfl (any_of HT_.out (by kernel_rfl)) (fun _ _ _ h => h) (Or.inl ⟨by rfl, ?_⟩) ?_ ?_
        rotate_left
        ·intro w'
         go_simp
         with_reducible rfl
        rotate_left
        ·simp only [Act.put, List.setIfInBounds_toArray, List.set_cons_zero, List.set_cons_succ, i64_w, i32_w]
         rfl
        refine pure_ (i := 9) (N := some 36) (v := ?_) (a' := ?_) #[true, true, true, true, true, true, true, true, true, true, false, false, false] rfl rfl (any_of HT_.out (by kernel_rfl)) (fun _ _ _ h => h) (Or.inl ⟨by rfl, ?_⟩) ?_ ?_
        rotate_left
        ·intro w'
         go_simp
         with_reducible rfl
        rotate_left
        ·simp only [Act.put, List.setIfInBounds_toArray, List.set_cons_zero, List.set_cons_succ, i64_w, i32_w]
         rfl
        refine pure_ (i := 10) (N := some 37) (v := ?_) (a' := ?_) #[true, true, true, true, true, true, true, true, true, true, true, false, false] rfl rfl (any_of HT_.out (by kernel_rfl)) (fun _ _ _ h => h) (Or.inl ⟨by rfl, ?_⟩) ?_ ?_
        rotate_left
        ·intro w'
         go_simp
         with_reducible rfl
        rotate_left
        ·simp only [Act.put, List.setIfInBounds_toArray, List.set_cons_zero, List.set_cons_succ, i64_w, i32_w]
         rfl
        refine one_ (i := 11) (N := none) #[true, true, true, true, true, true, true, true, true, true, true, true, false] rfl rfl (one_of HT_.out (by kernel_rfl)) (by decide) (fun K hK => ?_)
        have hs24 : w23.cell? ⟨gb389, 0, none⟩ = some (.int .i64 x390000_4) := (blk_cell BK389.out 0).trans rfl
        have hfs24 := blk_frozen BK389.out 0
        have hns24_0 := NB387_389.out
        have hms24_0 := NB389_387.out
        have hs25 : w23.cell? ⟨gb389, 1, none⟩ = some (.int .i64 x390001_4) := (blk_cell BK389.out 1).trans rfl
        have hfs25 := blk_frozen BK389.out 1
        have hns25_0 := NB387_389.out
        have hms25_0 := NB389_387.out
        refine skip_ (w1 := ?_) (by rfl) rfl ?_ ?_
        rotate_left
        ·go_simp
         rfl
        refine hK.out _ _ ⟨((cell_far (p := ⟨gb389, _, none⟩) (by first | exact Nat.ne_of_lt (Nat.lt_of_lt_of_le (by have := World.block_lt_of_cell? _ _ hw394_0; first | rwa [add_block] at this | exact this) GW389.out) | (rw [add_block]; exact Nat.ne_of_lt (Nat.lt_of_lt_of_le (by have := World.block_lt_of_cell? _ _ hw394_0; first | rwa [add_block] at this | exact this) GW389.out)) | (show (Addr.add _ _).block ≠ _; rw [add_block]; exact Nat.ne_of_lt (Nat.lt_of_lt_of_le (by have := World.block_lt_of_cell? _ _ hw394_0; first | rwa [add_block] at this | exact this) GW389.out)) | (dsimp only; exact Nat.ne_of_lt (Nat.lt_of_lt_of_le (by have := World.block_lt_of_cell? _ _ hw394_0; first | rwa [add_block] at this | exact this) GW389.out))) _).trans (((cell_far (p := ⟨gb389, _, none⟩) (by first | exact Nat.ne_of_lt (Nat.lt_of_lt_of_le (by have := World.block_lt_of_cell? _ _ hw394_0; first | rwa [add_block] at this | exact this) GW389.out) | (rw [add_block]; exact Nat.ne_of_lt (Nat.lt_of_lt_of_le (by have := World.block_lt_of_cell? _ _ hw394_0; first | rwa [add_block] at this | exact this) GW389.out)) | (show (Addr.add _ _).block ≠ _; rw [add_block]; exact Nat.ne_of_lt (Nat.lt_of_lt_of_le (by have := World.block_lt_of_cell? _ _ hw394_0; first | rwa [add_block] at this | exact this) GW389.out)) | (dsimp only; exact Nat.ne_of_lt (Nat.lt_of_lt_of_le (by have := World.block_lt_of_cell? _ _ hw394_0; first | rwa [add_block] at this | exact this) GW389.out))) _).trans (hHeld.1)))), ((cell_far (p := ⟨gb389, _, none⟩) (by first | exact Nat.ne_of_lt (Nat.lt_of_lt_of_le (by have := World.block_lt_of_cell? _ _ hw394_1; first | rwa [add_block] at this | exact this) GW389.out) | (rw [add_block]; exact Nat.ne_of_lt (Nat.lt_of_lt_of_le (by have := World.block_lt_of_cell? _ _ hw394_1; first | rwa [add_block] at this | exact this) GW389.out)) | (show (Addr.add _ _).block ≠ _; rw [add_block]; exact Nat.ne_of_lt (Nat.lt_of_lt_of_le (by have := World.block_lt_of_cell? _ _ hw394_1; first | rwa [add_block] at this | exact this) GW389.out)) | (dsimp only; exact Nat.ne_of_lt (Nat.lt_of_lt_of_le (by have := World.block_lt_of_cell? _ _ hw394_1; first | rwa [add_block] at this | exact this) GW389.out))) _).trans (((cell_far (p := ⟨gb389, _, none⟩) (by first | exact Nat.ne_of_lt (Nat.lt_of_lt_of_le (by have := World.block_lt_of_cell? _ _ hw394_1; first | rwa [add_block] at this | exact this) GW389.out) | (rw [add_block]; exact Nat.ne_of_lt (Nat.lt_of_lt_of_le (by have := World.block_lt_of_cell? _ _ hw394_1; first | rwa [add_block] at this | exact this) GW389.out)) | (show (Addr.add _ _).block ≠ _; rw [add_block]; exact Nat.ne_of_lt (Nat.lt_of_lt_of_le (by have := World.block_lt_of_cell? _ _ hw394_1; first | rwa [add_block] at this | exact this) GW389.out)) | (dsimp only; exact Nat.ne_of_lt (Nat.lt_of_lt_of_le (by have := World.block_lt_of_cell? _ _ hw394_1; first | rwa [add_block] at this | exact this) GW389.out))) _).trans (hHeld.2.1)))), ((cell_far (p := ⟨gb389, _, none⟩) (by first | exact Nat.ne_of_lt (Nat.lt_of_lt_of_le (by have := World.block_lt_of_cell? _ _ hw395_0; first | rwa [add_block] at this | exact this) GW389.out) | (rw [add_block]; exact Nat.ne_of_lt (Nat.lt_of_lt_of_le (by have := World.block_lt_of_cell? _ _ hw395_0; first | rwa [add_block] at this | exact this) GW389.out)) | (show (Addr.add _ _).block ≠ _; rw [add_block]; exact Nat.ne_of_lt (Nat.lt_of_lt_of_le (by have := World.block_lt_of_cell? _ _ hw395_0; first | rwa [add_block] at this | exact this) GW389.out)) | (dsimp only; exact Nat.ne_of_lt (Nat.lt_of_lt_of_le (by have := World.block_lt_of_cell? _ _ hw395_0; first | rwa [add_block] at this | exact this) GW389.out))) _).trans (((cell_far (p := ⟨gb389, _, none⟩) (by first | exact Nat.ne_of_lt (Nat.lt_of_lt_of_le (by have := World.block_lt_of_cell? _ _ hw395_0; first | rwa [add_block] at this | exact this) GW389.out) | (rw [add_block]; exact Nat.ne_of_lt (Nat.lt_of_lt_of_le (by have := World.block_lt_of_cell? _ _ hw395_0; first | rwa [add_block] at this | exact this) GW389.out)) | (show (Addr.add _ _).block ≠ _; rw [add_block]; exact Nat.ne_of_lt (Nat.lt_of_lt_of_le (by have := World.block_lt_of_cell? _ _ hw395_0; first | rwa [add_block] at this | exact this) GW389.out)) | (dsimp only; exact Nat.ne_of_lt (Nat.lt_of_lt_of_le (by have := World.block_lt_of_cell? _ _ hw395_0; first | rwa [add_block] at this | exact this) GW389.out))) _).trans (hHeld.2.2.1)))), ((cell_far (p := ⟨gb389, _, none⟩) (by first | exact Nat.ne_of_lt (Nat.lt_of_lt_of_le (by have := World.block_lt_of_cell? _ _ hw395_1; first | rwa [add_block] at this | exact this) GW389.out) | (rw [add_block]; exact Nat.ne_of_lt (Nat.lt_of_lt_of_le (by have := World.block_lt_of_cell? _ _ hw395_1; first | rwa [add_block] at this | exact this) GW389.out)) | (show (Addr.add _ _).block ≠ _; rw [add_block]; exact Nat.ne_of_lt (Nat.lt_of_lt_of_le (by have := World.block_lt_of_cell? _ _ hw395_1; first | rwa [add_block] at this | exact this) GW389.out)) | (dsimp only; exact Nat.ne_of_lt (Nat.lt_of_lt_of_le (by have := World.block_lt_of_cell? _ _ hw395_1; first | rwa [add_block] at this | exact this) GW389.out))) _).trans (((cell_far (p := ⟨gb389, _, none⟩) (by first | exact Nat.ne_of_lt (Nat.lt_of_lt_of_le (by have := World.block_lt_of_cell? _ _ hw395_1; first | rwa [add_block] at this | exact this) GW389.out) | (rw [add_block]; exact Nat.ne_of_lt (Nat.lt_of_lt_of_le (by have := World.block_lt_of_cell? _ _ hw395_1; first | rwa [add_block] at this | exact this) GW389.out)) | (show (Addr.add _ _).block ≠ _; rw [add_block]; exact Nat.ne_of_lt (Nat.lt_of_lt_of_le (by have := World.block_lt_of_cell? _ _ hw395_1; first | rwa [add_block] at this | exact this) GW389.out)) | (dsimp only; exact Nat.ne_of_lt (Nat.lt_of_lt_of_le (by have := World.block_lt_of_cell? _ _ hw395_1; first | rwa [add_block] at this | exact this) GW389.out))) _).trans (hHeld.2.2.2))))⟩ (fun hHeld => ?_)
        clear hK K
        refine pure_ (i := 12) (N := some 7) (v := ?_) (a' := ?_) #[true, true, true, true, true, true, true, true, true, true, true, true, true] rfl rfl (any_of HT_.out (by kernel_rfl)) (fun _ _ _ h => h) (Or.inl ⟨by rfl, ?_⟩) ?_ ?_
        rotate_left
        ·intro w'
         go_simp
         with_reducible rfl
        rotate_left
        ·simp only [Act.put, List.setIfInBounds_toArray, List.set_cons_zero, List.set_cons_succ, i64_w, i32_w]
         rfl
        refine done_ (done_of HT_.out (by kernel_rfl)) ?_
        have hnb26 := NB389_387.out
        have hnc26 := NB387_389.out
        have hcz27_0 : w23.cell? ⟨gb389, 0, none⟩ = some (.int .i64 x390000_4) := (blk_cell BK389.out 0).trans rfl
        have hcz27_1 : w23.cell? ⟨gb389, 1, none⟩ = some (.int .i64 x390001_4) := (blk_cell BK389.out 1).trans rfl
        have hfz27_0 := blk_frozen BK389.out 0
        have hfz27_1 := blk_frozen BK389.out 1
        have hcz28_0 : w23.cell? ⟨gb387, 0, none⟩ = some (.int .i64 0) := (blk_cell BK387.out 0).trans rfl
        have hcz28_1 : w23.cell? ⟨gb387, 1, none⟩ = some (.int .i64 0) := (blk_cell BK387.out 1).trans rfl
        have hfz28_0 := blk_frozen BK387.out 0
        have hfz28_1 := blk_frozen BK387.out 1
        try go_wp2
        refine bodyPost_ret (results_ct rfl _ _ gb387 25 #[.int .i64 t396, .int .i64 t397] (0, 0) _ rfl (by (with_reducible repeat (first | refine blk_drewN ?_ _ | refine blk_drew ?_ | refine blk_alloc ?_ _)); refine blk_put (cs := #[.int .i64 t396, .int .i64 0]) ?_ 1 _ rfl; (with_reducible repeat (first | refine blk_drewN ?_ _ | refine blk_drew ?_ | refine blk_alloc ?_ _)); refine blk_put (cs := #[.int .i64 0, .int .i64 0]) ?_ 0 _ rfl; (with_reducible repeat (first | refine blk_drewN ?_ _ | refine blk_drew ?_ | refine blk_alloc ?_ _)); refine blk_far ?_ NB387_389.out _; (with_reducible repeat (first | refine blk_drewN ?_ _ | refine blk_drew ?_ | refine blk_alloc ?_ _)); refine blk_far ?_ NB387_389.out _; (with_reducible repeat (first | refine blk_drewN ?_ _ | refine blk_drew ?_ | refine blk_alloc ?_ _)); exact BK387.out) Tryz.underlying25 rfl (by kernel_rfl)) rfl ?_
        exact ⟨by first | rfl | (simp [errW_none, errW_some] <;> rfl) | (simp [*, errW_none, errW_some] <;> rfl), by repeat (first | (with_reducible first | exact HB.out | apply bal | apply pbd | apply bd1 | refine bst ?_ GE387.out | refine bst ?_ GE389.out) | exact HB.out)⟩
       ·replace c21 := Bool.eq_false_iff.mpr c21
        subst c21
        have H1 : (some (0, 0, 2)) = some (r1, r2, r3) := by rw [if_neg (show ¬ (false = true) by decide)] at H; exact H
        clear H
        have H := H1
        clear H1
        simp only [Option.some.injEq, Prod.mk.injEq] at H
        obtain ⟨rfl, rfl, rfl⟩ := H
        try go_wp2
        have n0_ := Sd.mk (blk_drew BK387.out)
        have n1_ := Sd.mk (blk_drew BK389.out)
        have n2_ := Sd.mk (bd1 HB.out)
        clear BK387
        clear BK389
        clear HB
        have BK387 := n0_
        have BK389 := n1_
        have HB := n2_
        clear n0_ n1_ n2_
        have p394 : 0 ≤ (0 : Int) := (by omega)
        have q394 : 0 < (l1.length : Int) := of_decide_eq_true (by first | (with_reducible assumption) | assumption)
        obtain ⟨ad394, e394, hx394_0, hx394_1⟩ := at_T25 HR1.out 0 p394 q394
        have hw394_1 := hx394_1
        (try rw [show ((0 : Int)).toNat = 0 from rfl] at hw394_1)
        (try rw [show 0 * 2 = 0 from rfl] at hw394_1)
        (try rw [Addr.add_zero'] at hw394_1)
        have hw394_0 := hx394_0
        (try rw [show ((0 : Int)).toNat = 0 from rfl] at hw394_0)
        (try rw [show 0 * 2 = 0 from rfl] at hw394_0)
        (try rw [Addr.add_zero'] at hw394_0)
        cases e394
        have qi394 : (0 < l1.length) = True := eq_true (by omega)
        (try rw [show ((0 : Int)).toNat = 0 from rfl] at hx394_0)
        (try rw [show 0 * 2 = 0 from rfl] at hx394_0)
        (try rw [Addr.add_zero'] at hx394_0)
        (try rw [show ((0 : Int)).toNat = 0 from rfl] at hx394_1)
        (try rw [show 0 * 2 = 0 from rfl] at hx394_1)
        (try rw [Addr.add_zero'] at hx394_1)
        replace hx394_0 := (HB.out.cell (World.block_lt_of_cell? w _ hx394_0)).trans hx394_0
        replace hx394_1 := (HB.out.cell (World.block_lt_of_cell? w _ hx394_1)).trans hx394_1
        replace p394 := eq_true p394
        replace q394 := eq_true q394
        have p395 : 0 ≤ (1 : Int) := (by omega)
        have q395 : 1 < (l1.length : Int) := of_decide_eq_true (by first | (with_reducible assumption) | assumption)
        obtain ⟨ad395, e395, hx395_0, hx395_1⟩ := at_T25 HR1.out 1 p395 q395
        have hw395_1 := hx395_1
        (try rw [show ((1 : Int)).toNat = 1 from rfl] at hw395_1)
        (try rw [show 1 * 2 = 2 from rfl] at hw395_1)
        (try simp only [Nat.reduceMul, Nat.reduceEqDiff, Go.Addr.add, ↓reduceIte] at hw395_1)
        have hw395_0 := hx395_0
        (try rw [show ((1 : Int)).toNat = 1 from rfl] at hw395_0)
        (try rw [show 1 * 2 = 2 from rfl] at hw395_0)
        (try simp only [Nat.reduceMul, Nat.reduceEqDiff, Go.Addr.add, ↓reduceIte] at hw395_0)
        obtain rfl : ad394 = ad395 := (by injection e395)
        (try simp only [show (1 : Int).toNat = 1 from rfl, Nat.reduceMul, Nat.reduceEqDiff, Go.Addr.add, ↓reduceIte] at hx395_0)
        (try simp only [show (1 : Int).toNat = 1 from rfl, Nat.reduceMul, Nat.reduceEqDiff, Go.Addr.add, ↓reduceIte] at hx395_1)
        have qi395 : (1 < l1.length) = True := eq_true (by omega)
        (try rw [show ((1 : Int)).toNat = 1 from rfl] at hx395_0)
        (try rw [show 1 * 2 = 2 from rfl] at hx395_0)
        (try rw [show ((1 : Int)).toNat = 1 from rfl] at hx395_1)
        (try rw [show 1 * 2 = 2 from rfl] at hx395_1)
        replace hx395_0 := (HB.out.cell (World.block_lt_of_cell? w _ hx395_0)).trans hx395_0
        replace hx395_1 := (HB.out.cell (World.block_lt_of_cell? w _ hx395_1)).trans hx395_1
        replace p395 := eq_true p395
        replace q395 := eq_true q395
        refine start_ (n := 13) (S := fun w' => w'.cell? ad394 = some (.int .i64 ((rd_T25 l1 0).f0)) ∧ w'.cell? ⟨ad394.block, ad394.off + 1, none⟩ = some (.int .i64 ((rd_T25 l1 0).f1)) ∧ w'.cell? ⟨ad394.block, ad394.off + 2, none⟩ = some (.int .i64 ((rd_T25 l1 1).f0)) ∧ w'.cell? ⟨ad394.block, ad394.off + 2 + 1, none⟩ = some (.int .i64 ((rd_T25 l1 1).f1))) (ds := []) #[false, false, false, false, false, false, false, false, false, false, false, false, false] (by kernel_rfl) rfl rfl ⟨((HB.out.cell (World.block_lt_of_cell? w _ hw394_0)).trans hw394_0), ((HB.out.cell (World.block_lt_of_cell? w _ hw394_1)).trans hw394_1), ((HB.out.cell (World.block_lt_of_cell? w _ hw395_0)).trans hw395_0), ((HB.out.cell (World.block_lt_of_cell? w _ hw395_1)).trans hw395_1)⟩ (fun hHeld => ?_); refine with_tabW r8_Do.tab7 r8_Do.bits7 (fun HT_ HW_ => ?_)
        generalize wc.drew = w29 at BK387 BK389 HB hx394_0 hx394_1 hx395_0 hx395_1 hHeld ⊢
        refine pure_ (i := 0) (N := some 28) (v := ?_) (a' := ?_) #[true, false, false, false, false, false, false, false, false, false, false, false, false] rfl rfl (any_of HT_.out (by kernel_rfl)) (fun _ _ _ h => h) (Or.inl ⟨by rfl, ?_⟩) ?_ ?_
        rotate_left
        ·intro w'
         go_simp
         with_reducible rfl
        rotate_left
        ·simp only [Act.put, List.setIfInBounds_toArray, List.set_cons_zero, List.set_cons_succ, i64_w, i32_w]
         rfl
        refine pure_ (i := 1) (N := some 29) (v := ?_) (a' := ?_) #[true, true, false, false, false, false, false, false, false, false, false, false, false] rfl rfl (any_of HT_.out (by kernel_rfl)) (fun _ _ _ h => h) (Or.inl ⟨by rfl, ?_⟩) ?_ ?_
        rotate_left
        ·intro w'
         go_simp
         with_reducible rfl
        rotate_left
        ·simp only [Act.put, List.setIfInBounds_toArray, List.set_cons_zero, List.set_cons_succ, i64_w, i32_w]
         rfl
        refine pure_ (i := 2) (N := some 30) (v := ?_) (a' := ?_) #[true, true, true, false, false, false, false, false, false, false, false, false, false] rfl rfl (any_of HT_.out (by kernel_rfl)) (fun _ _ _ h => h) (Or.inl ⟨by rfl, ?_⟩) ?_ ?_
        rotate_left
        ·intro w'
         go_simp
         with_reducible rfl
        rotate_left
        ·simp only [Act.put, List.setIfInBounds_toArray, List.set_cons_zero, List.set_cons_succ, i64_w, i32_w]
         rfl
        refine pure_ (i := 4) (N := some 32) (v := ?_) (a' := ?_) #[true, true, true, false, true, false, false, false, false, false, false, false, false] rfl rfl (any_of HT_.out (by kernel_rfl)) (fun _ _ _ h => h) (Or.inl ⟨by rfl, ?_⟩) ?_ ?_
        rotate_left
        ·intro w'
         go_simp
         with_reducible rfl
        rotate_left
        ·simp only [Act.put, List.setIfInBounds_toArray, List.set_cons_zero, List.set_cons_succ, i64_w, i32_w]
         rfl
        refine pure_ (i := 5) (N := some 33) (v := ?_) (a' := ?_) #[true, true, true, false, true, true, false, false, false, false, false, false, false] rfl rfl (any_of HT_.out (by kernel_rfl)) (fun _ _ _ h => h) (Or.inl ⟨by rfl, ?_⟩) ?_ ?_
        rotate_left
        ·intro w'
         go_simp
         with_reducible rfl
        rotate_left
        ·simp only [Act.put, List.setIfInBounds_toArray, List.set_cons_zero, List.set_cons_succ, i64_w, i32_w]
         rfl
        refine take_ (i := 3) (N := some 31) (v := ?_) (a' := ?_) #[true, true, true, true, true, true, false, false, false, false, false, false, false] rfl rfl (take_ofW HT_.out HW_.out (by kernel_rfl)) (fun _ _ _ h => h) (Or.inl ⟨by rfl, ?_⟩) hHeld ?_ ?_
        rotate_left
        ·rintro w' ⟨s0, s1, s2, s3⟩
         go_simp
         with_reducible rfl
        rotate_left
        ·simp only [Act.put, List.setIfInBounds_toArray, List.set_cons_zero, List.set_cons_succ, i64_w, i32_w]
         rfl
        refine take_ (i := 6) (N := some 34) (v := ?_) (a' := ?_) #[true, true, true, true, true, true, true, false, false, false, false, false, false] rfl rfl (take_ofW HT_.out HW_.out (by kernel_rfl)) (fun _ _ _ h => h) (Or.inl ⟨by rfl, ?_⟩) hHeld ?_ ?_
        rotate_left
        ·rintro w' ⟨s0, s1, s2, s3⟩
         go_simp
         with_reducible rfl
        rotate_left
        ·simp only [Act.put, List.setIfInBounds_toArray, List.set_cons_zero, List.set_cons_succ, i64_w, i32_w]
         rfl
        refine one_ (i := 7) (N := some 35) #[true, true, true, true, true, true, true, true, false, false, false, false, false] rfl rfl (one_of HT_.out (by kernel_rfl)) (by decide) (fun K hK => ?_)
        refine goes_ Tryz.func40 (by kernel_rfl) rfl #[.string a0, .agg #[.int .i64 ((rd_T25 l1 0).f0), .int .i64 ((rd_T25 l1 0).f1)], .agg #[.int .i64 ((rd_T25 l1 1).f0), .int .i64 ((rd_T25 l1 1).f1)]] (by rfl) rfl rfl (by (try simp only [List.map_toArray, List.map_cons, List.map_nil]); first | done | rfl | (simp only [List.length_drop, List.length_take]; rfl)) ?_
        with_reducible refine (r8_two.calls kj4 a0 ((rd_T25 l1 0).f0) ((rd_T25 l1 0).f1) ((rd_T25 l1 1).f0) ((rd_T25 l1 1).f1) t396 t397 false _ A20.out).mono ?_
        rintro e w30 ⟨rfl, hb⟩
        refine ⟨_, rfl, ?_⟩
        have n0_ := Sd.mk (blk_below (g := gb387) (o := .cells #[.int .i64 0, .int .i64 0] 25 (0, 0)) (by exact blkF BK387.out) hb)
        have n1_ := Sd.mk (blk_below (g := gb389) (o := .cells #[.int .i64 x390000_4, .int .i64 x390001_4] 25 (0, 0)) (by exact blkF BK389.out) hb)
        have n2_ := Sd.mk (below_step (by repeat (first | (with_reducible first | exact HB.out | apply bal | apply pbd | apply bd1 | refine bst ?_ GE387.out | refine bst ?_ GE389.out) | exact HB.out)) hb)
        clear BK387
        clear BK389
        clear HB
        have BK387 := n0_
        have BK389 := n1_
        have HB := n2_
        clear n0_ n1_ n2_
        (try clear hb)
        (try clear hb2)
        (try clear hk)
        (try clear hi)
        refine hK.out _ _ ⟨((HB.out.cell (World.block_lt_of_cell? w _ hw394_0)).trans hw394_0), ((HB.out.cell (World.block_lt_of_cell? w _ hw394_1)).trans hw394_1), ((HB.out.cell (World.block_lt_of_cell? w _ hw395_0)).trans hw395_0), ((HB.out.cell (World.block_lt_of_cell? w _ hw395_1)).trans hw395_1)⟩ (fun hHeld => ?_)
        clear hK K
        refine norm_ (a' := ?_) ?_ ?_
        rotate_left
        ·show Act.put _ (some 35) _ = _
         simp only [Act.put, List.setIfInBounds_toArray, List.set_cons_zero, List.set_cons_succ, i64_w, i32_w]
         rfl
        refine pure_ (i := 8) (N := some 27) (v := ?_) (a' := ?_) #[true, true, true, true, true, true, true, true, true, false, false, false, false] rfl rfl (any_of HT_.out (by kernel_rfl)) (fun _ _ _ h => h) (Or.inl ⟨by rfl, ?_⟩) ?_ ?_
        rotate_left
        ·intro w'
         go_simp
         with_reducible rfl
        rotate_left
        ·simp only [Act.put, List.setIfInBounds_toArray, List.set_cons_zero, List.set_cons_succ, i64_w, i32_w]
         rfl
        refine pure_ (i := 9) (N := some 36) (v := ?_) (a' := ?_) #[true, true, true, true, true, true, true, true, true, true, false, false, false] rfl rfl (any_of HT_.out (by kernel_rfl)) (fun _ _ _ h => h) (Or.inl ⟨by rfl, ?_⟩) ?_ ?_
        rotate_left
        ·intro w'
         go_simp
         with_reducible rfl
        rotate_left
        ·simp only [Act.put, List.setIfInBounds_toArray, List.set_cons_zero, List.set_cons_succ, i64_w, i32_w]
         rfl
        refine pure_ (i := 10) (N := some 37) (v := ?_) (a' := ?_) #[true, true, true, true, true, true, true, true, true, true, true, false, false] rfl rfl (any_of HT_.out (by kernel_rfl)) (fun _ _ _ h => h) (Or.inl ⟨by rfl, ?_⟩) ?_ ?_
        rotate_left
        ·intro w'
         go_simp
         with_reducible rfl
        rotate_left
        ·simp only [Act.put, List.setIfInBounds_toArray, List.set_cons_zero, List.set_cons_succ, i64_w, i32_w]
         rfl
        refine one_ (i := 11) (N := none) #[true, true, true, true, true, true, true, true, true, true, true, true, false] rfl rfl (one_of HT_.out (by kernel_rfl)) (by decide) (fun K hK => ?_)
        have hs31 : w30.cell? ⟨gb389, 0, none⟩ = some (.int .i64 x390000_4) := (blk_cell BK389.out 0).trans rfl
        have hfs31 := blk_frozen BK389.out 0
        have hns31_0 := NB387_389.out
        have hms31_0 := NB389_387.out
        have hs32 : w30.cell? ⟨gb389, 1, none⟩ = some (.int .i64 x390001_4) := (blk_cell BK389.out 1).trans rfl
        have hfs32 := blk_frozen BK389.out 1
        have hns32_0 := NB387_389.out
        have hms32_0 := NB389_387.out
        refine skip_ (w1 := ?_) (by rfl) rfl ?_ ?_
        rotate_left
        ·go_simp
         rfl
        refine hK.out _ _ ⟨((cell_far (p := ⟨gb389, _, none⟩) (by first | exact Nat.ne_of_lt (Nat.lt_of_lt_of_le (by have := World.block_lt_of_cell? _ _ hw394_0; first | rwa [add_block] at this | exact this) GW389.out) | (rw [add_block]; exact Nat.ne_of_lt (Nat.lt_of_lt_of_le (by have := World.block_lt_of_cell? _ _ hw394_0; first | rwa [add_block] at this | exact this) GW389.out)) | (show (Addr.add _ _).block ≠ _; rw [add_block]; exact Nat.ne_of_lt (Nat.lt_of_lt_of_le (by have := World.block_lt_of_cell? _ _ hw394_0; first | rwa [add_block] at this | exact this) GW389.out)) | (dsimp only; exact Nat.ne_of_lt (Nat.lt_of_lt_of_le (by have := World.block_lt_of_cell? _ _ hw394_0; first | rwa [add_block] at this | exact this) GW389.out))) _).trans (((cell_far (p := ⟨gb389, _, none⟩) (by first | exact Nat.ne_of_lt (Nat.lt_of_lt_of_le (by have := World.block_lt_of_cell? _ _ hw394_0; first | rwa [add_block] at this | exact this) GW389.out) | (rw [add_block]; exact Nat.ne_of_lt (Nat.lt_of_lt_of_le (by have := World.block_lt_of_cell? _ _ hw394_0; first | rwa [add_block] at this | exact this) GW389.out)) | (show (Addr.add _ _).block ≠ _; rw [add_block]; exact Nat.ne_of_lt (Nat.lt_of_lt_of_le (by have := World.block_lt_of_cell? _ _ hw394_0; first | rwa [add_block] at this | exact this) GW389.out)) | (dsimp only; exact Nat.ne_of_lt (Nat.lt_of_lt_of_le (by have := World.block_lt_of_cell? _ _ hw394_0; first | rwa [add_block] at this | exact this) GW389.out))) _).trans (hHeld.1)))), ((cell_far (p := ⟨gb389, _, none⟩) (by first | exact Nat.ne_of_lt (Nat.lt_of_lt_of_le (by have := World.block_lt_of_cell? _ _ hw394_1; first | rwa [add_block] at this | exact this) GW389.out) | (rw [add_block]; exact Nat.ne_of_lt (Nat.lt_of_lt_of_le (by have := World.block_lt_of_cell? _ _ hw394_1; first | rwa [add_block] at this | exact this) GW389.out)) | (show (Addr.add _ _).block ≠ _; rw [add_block]; exact Nat.ne_of_lt (Nat.lt_of_lt_of_le (by have := World.block_lt_of_cell? _ _ hw394_1; first | rwa [add_block] at this | exact this) GW389.out)) | (dsimp only; exact Nat.ne_of_lt (Nat.lt_of_lt_of_le (by have := World.block_lt_of_cell? _ _ hw394_1; first | rwa [add_block] at this | exact this) GW389.out))) _).trans (((cell_far (p := ⟨gb389, _, none⟩) (by first | exact Nat.ne_of_lt (Nat.lt_of_lt_of_le (by have := World.block_lt_of_cell? _ _ hw394_1; first | rwa [add_block] at this | exact this) GW389.out) | (rw [add_block]; exact Nat.ne_of_lt (Nat.lt_of_lt_of_le (by have := World.block_lt_of_cell? _ _ hw394_1; first | rwa [add_block] at this | exact this) GW389.out)) | (show (Addr.add _ _).block ≠ _; rw [add_block]; exact Nat.ne_of_lt (Nat.lt_of_lt_of_le (by have := World.block_lt_of_cell? _ _ hw394_1; first | rwa [add_block] at this | exact this) GW389.out)) | (dsimp only; exact Nat.ne_of_lt (Nat.lt_of_lt_of_le (by have := World.block_lt_of_cell? _ _ hw394_1; first | rwa [add_block] at this | exact this) GW389.out))) _).trans (hHeld.2.1)))), ((cell_far (p := ⟨gb389, _, none⟩) (by first | exact Nat.ne_of_lt (Nat.lt_of_lt_of_le (by have := World.block_lt_of_cell? _ _ hw395_0; first | rwa [add_block] at this | exact this) GW389.out) | (rw [add_block]; exact Nat.ne_of_lt (Nat.lt_of_lt_of_le (by have := World.block_lt_of_cell? _ _ hw395_0; first | rwa [add_block] at this | exact this) GW389.out)) | (show (Addr.add _ _).block ≠ _; rw [add_block]; exact Nat.ne_of_lt (Nat.lt_of_lt_of_le (by have := World.block_lt_of_cell? _ _ hw395_0; first | rwa [add_block] at this | exact this) GW389.out)) | (dsimp only; exact Nat.ne_of_lt (Nat.lt_of_lt_of_le (by have := World.block_lt_of_cell? _ _ hw395_0; first | rwa [add_block] at this | exact this) GW389.out))) _).trans (((cell_far (p := ⟨gb389, _, none⟩) (by first | exact Nat.ne_of_lt (Nat.lt_of_lt_of_le (by have := World.block_lt_of_cell? _ _ hw395_0; first | rwa [add_block] at this | exact this) GW389.out) | (rw [add_block]; exact Nat.ne_of_lt (Nat.lt_of_lt_of_le (by have := World.block_lt_of_cell? _ _ hw395_0; first | rwa [add_block] at this | exact this) GW389.out)) | (show (Addr.add _ _).block ≠ _; rw [add_block]; exact Nat.ne_of_lt (Nat.lt_of_lt_of_le (by have := World.block_lt_of_cell? _ _ hw395_0; first | rwa [add_block] at this | exact this) GW389.out)) | (dsimp only; exact Nat.ne_of_lt (Nat.lt_of_lt_of_le (by have := World.block_lt_of_cell? _ _ hw395_0; first | rwa [add_block] at this | exact this) GW389.out))) _).trans (hHeld.2.2.1)))), ((cell_far (p := ⟨gb389, _, none⟩) (by first | exact Nat.ne_of_lt (Nat.lt_of_lt_of_le (by have := World.block_lt_of_cell? _ _ hw395_1; first | rwa [add_block] at this | exact this) GW389.out) | (rw [add_block]; exact Nat.ne_of_lt (Nat.lt_of_lt_of_le (by have := World.block_lt_of_cell? _ _ hw395_1; first | rwa [add_block] at this | exact this) GW389.out)) | (show (Addr.add _ _).block ≠ _; rw [add_block]; exact Nat.ne_of_lt (Nat.lt_of_lt_of_le (by have := World.block_lt_of_cell? _ _ hw395_1; first | rwa [add_block] at this | exact this) GW389.out)) | (dsimp only; exact Nat.ne_of_lt (Nat.lt_of_lt_of_le (by have := World.block_lt_of_cell? _ _ hw395_1; first | rwa [add_block] at this | exact this) GW389.out))) _).trans (((cell_far (p := ⟨gb389, _, none⟩) (by first | exact Nat.ne_of_lt (Nat.lt_of_lt_of_le (by have := World.block_lt_of_cell? _ _ hw395_1; first | rwa [add_block] at this | exact this) GW389.out) | (rw [add_block]; exact Nat.ne_of_lt (Nat.lt_of_lt_of_le (by have := World.block_lt_of_cell? _ _ hw395_1; first | rwa [add_block] at this | exact this) GW389.out)) | (show (Addr.add _ _).block ≠ _; rw [add_block]; exact Nat.ne_of_lt (Nat.lt_of_lt_of_le (by have := World.block_lt_of_cell? _ _ hw395_1; first | rwa [add_block] at this | exact this) GW389.out)) | (dsimp only; exact Nat.ne_of_lt (Nat.lt_of_lt_of_le (by have := World.block_lt_of_cell? _ _ hw395_1; first | rwa [add_block] at this | exact this) GW389.out))) _).trans (hHeld.2.2.2))))⟩ (fun hHeld => ?_)
        clear hK K
        refine pure_ (i := 12) (N := some 7) (v := ?_) (a' := ?_) #[true, true, true, true, true, true, true, true, true, true, true, true, true] rfl rfl (any_of HT_.out (by kernel_rfl)) (fun _ _ _ h => h) (Or.inl ⟨by rfl, ?_⟩) ?_ ?_
        rotate_left
        ·intro w'
         go_simp
         with_reducible rfl
        rotate_left
        ·simp only [Act.put, List.setIfInBounds_toArray, List.set_cons_zero, List.set_cons_succ, i64_w, i32_w]
         rfl
        refine done_ (done_of HT_.out (by kernel_rfl)) ?_
        have hnb33 := NB387_389.out
        have hnc33 := NB389_387.out
        have hcz34_0 : w30.cell? ⟨gb387, 0, none⟩ = some (.int .i64 0) := (blk_cell BK387.out 0).trans rfl
        have hcz34_1 : w30.cell? ⟨gb387, 1, none⟩ = some (.int .i64 0) := (blk_cell BK387.out 1).trans rfl
        have hfz34_0 := blk_frozen BK387.out 0
        have hfz34_1 := blk_frozen BK387.out 1
        try go_wp2
        refine bodyPost_ret (results_ct rfl _ _ gb387 25 #[.int .i64 0, .int .i64 0] (0, 0) _ rfl (by (with_reducible repeat (first | refine blk_drewN ?_ _ | refine blk_drew ?_ | refine blk_alloc ?_ _)); refine blk_put (cs := #[.int .i64 0, .int .i64 0]) ?_ 1 _ rfl; (with_reducible repeat (first | refine blk_drewN ?_ _ | refine blk_drew ?_ | refine blk_alloc ?_ _)); refine blk_put (cs := #[.int .i64 0, .int .i64 0]) ?_ 0 _ rfl; (with_reducible repeat (first | refine blk_drewN ?_ _ | refine blk_drew ?_ | refine blk_alloc ?_ _)); refine blk_far ?_ NB387_389.out _; (with_reducible repeat (first | refine blk_drewN ?_ _ | refine blk_drew ?_ | refine blk_alloc ?_ _)); refine blk_far ?_ NB387_389.out _; (with_reducible repeat (first | refine blk_drewN ?_ _ | refine blk_drew ?_ | refine blk_alloc ?_ _)); exact BK387.out) Tryz.underlying25 rfl (by kernel_rfl)) rfl ?_
        exact ⟨by first | rfl | (simp [errW_none, errW_some] <;> rfl) | (simp [*, errW_none, errW_some] <;> rfl), by repeat (first | (with_reducible first | exact HB.out | apply bal | apply pbd | apply bd1 | refine bst ?_ GE387.out | refine bst ?_ GE389.out) | exact HB.out)⟩
      ·rw [if_neg c19] at H
       exact absurd H (by simp)
     ·rw [if_neg c18] at H
      exact absurd H (by simp)
    ·rw [if_neg c17] at H
     have c17b0 : ((l1.length : Int) == 2) = false := beq_eq_false_iff_ne.mpr c17
     have c17b1 : ((l1.length : Int) != 2) = true := bne_iff_ne.mpr c17
     by_cases c35 : x7_4 = true
     ·subst c35
      have H1 : (some (x390000_4, x390001_4, 0)) = some (r1, r2, r3) := by rw [if_pos rfl] at H; exact H
      clear H
      have H := H1
      clear H1
      simp only [Option.some.injEq, Prod.mk.injEq] at H
      obtain ⟨rfl, rfl, rfl⟩ := H
      have hnb36 := NB389_387.out
      have hnc36 := NB387_389.out
      have hcz37_0 : wc.cell? ⟨gb389, 0, none⟩ = some (.int .i64 x390000_4) := (blk_cell BK389.out 0).trans rfl
      have hcz37_1 : wc.cell? ⟨gb389, 1, none⟩ = some (.int .i64 x390001_4) := (blk_cell BK389.out 1).trans rfl
      have hfz37_0 := blk_frozen BK389.out 0
      have hfz37_1 := blk_frozen BK389.out 1
      have hcz38_0 : wc.cell? ⟨gb387, 0, none⟩ = some (.int .i64 0) := (blk_cell BK387.out 0).trans rfl
      have hcz38_1 : wc.cell? ⟨gb387, 1, none⟩ = some (.int .i64 0) := (blk_cell BK387.out 1).trans rfl
      have hfz38_0 := blk_frozen BK387.out 0
      have hfz38_1 := blk_frozen BK387.out 1
      go_wp2
      refine bodyPost_ret (results_ct rfl _ _ gb387 25 #[.int .i64 x390000_4, .int .i64 x390001_4] (0, 0) _ rfl (by (with_reducible repeat (first | refine blk_drewN ?_ _ | refine blk_drew ?_ | refine blk_alloc ?_ _)); refine blk_put (cs := #[.int .i64 x390000_4, .int .i64 0]) ?_ 1 _ rfl; (with_reducible repeat (first | refine blk_drewN ?_ _ | refine blk_drew ?_ | refine blk_alloc ?_ _)); refine blk_put (cs := #[.int .i64 0, .int .i64 0]) ?_ 0 _ rfl; (with_reducible repeat (first | refine blk_drewN ?_ _ | refine blk_drew ?_ | refine blk_alloc ?_ _)); exact BK387.out) Tryz.underlying25 rfl (by kernel_rfl)) rfl ?_
      exact ⟨by first | rfl | (simp [errW_none, errW_some] <;> rfl) | (simp [*, errW_none, errW_some] <;> rfl), by repeat (first | (with_reducible first | exact HB.out | apply bal | apply pbd | apply bd1 | refine bst ?_ GE387.out | refine bst ?_ GE389.out) | exact HB.out)⟩
     ·replace c35 := Bool.eq_false_iff.mpr c35
      subst c35
      have H1 : (some (0, 0, 2)) = some (r1, r2, r3) := by rw [if_neg (show ¬ (false = true) by decide)] at H; exact H
      clear H
      have H := H1
      clear H1
      simp only [Option.some.injEq, Prod.mk.injEq] at H
      obtain ⟨rfl, rfl, rfl⟩ := H
      have hnb39 := NB387_389.out
      have hnc39 := NB389_387.out
      have hcz40_0 : wc.cell? ⟨gb387, 0, none⟩ = some (.int .i64 0) := (blk_cell BK387.out 0).trans rfl
      have hcz40_1 : wc.cell? ⟨gb387, 1, none⟩ = some (.int .i64 0) := (blk_cell BK387.out 1).trans rfl
      have hfz40_0 := blk_frozen BK387.out 0
      have hfz40_1 := blk_frozen BK387.out 1
      go_wp2
      refine bodyPost_ret (results_ct rfl _ _ gb387 25 #[.int .i64 0, .int .i64 0] (0, 0) _ rfl (by (with_reducible repeat (first | refine blk_drewN ?_ _ | refine blk_drew ?_ | refine blk_alloc ?_ _)); refine blk_put (cs := #[.int .i64 0, .int .i64 0]) ?_ 1 _ rfl; (with_reducible repeat (first | refine blk_drewN ?_ _ | refine blk_drew ?_ | refine blk_alloc ?_ _)); refine blk_put (cs := #[.int .i64 0, .int .i64 0]) ?_ 0 _ rfl; (with_reducible repeat (first | refine blk_drewN ?_ _ | refine blk_drew ?_ | refine blk_alloc ?_ _)); exact BK387.out) Tryz.underlying25 rfl (by kernel_rfl)) rfl ?_
      exact ⟨by first | rfl | (simp [errW_none, errW_some] <;> rfl) | (simp [*, errW_none, errW_some] <;> rfl), by repeat (first | (with_reducible first | exact HB.out | apply bal | apply pbd | apply bd1 | refine bst ?_ GE387.out | refine bst ?_ GE389.out) | exact HB.out)⟩
 ·rw [if_neg c4] at H
  have c4b0 : (t388 == 0) = false := beq_eq_false_iff_ne.mpr c4
  have c4b1 : (t388 != 0) = true := bne_iff_ne.mpr c4
  simp only [Option.some.injEq, Prod.mk.injEq] at H
  obtain ⟨rfl, rfl, rfl⟩ := H
  go_enter Tryz.func12, Tryz.ntmps12
  go_wp2_with (first | ((with_reducible refine gate_dst (N := 4) rfl ?_); refine box_event ?hg (N := 4) ?hd (cs := #[.int .i64 0, .int .i64 0]) (t := 25) ?hr ?_; (case hd => rfl); (case hg => rfl); (case hr => first | (go_simp; done) | (go_simp; rfl)); intro gb387 hg w41 hbox hb; have n0_ := Sd.mk (below_step (by exact blwF HB.out) hb); have n1_ := Sd.mk (hbox); have n2_ := Sd.mk ((by rw [hg]; exact (below_size (by exact blwF HB.out)) : w.heap.size ≤ gb387)); have n3_ := Sd.mk ((by rw [hg]; exact (below_size (by exact blwF HB.out)) : w.heap.size ≤ gb387)); clear HB; have HB := n0_; have BK387 := n1_; have GW387 := n2_; have GE387 := n3_; clear n0_ n1_ n2_ n3_; clear hb hbox hg) | ((with_reducible refine gate_callee (f := 18) rfl ?_); refine goesL_ (some 9) rfl rfl Tryz.func18 (by kernel_rfl) rfl #[.slice A1 l1.length c1] rfl (by (try simp only [List.map_toArray, List.map_cons, List.map_nil]); first | done | rfl | (simp only [List.length_drop, List.length_take]; rfl)) ?_; (with_reducible refine (r8_Check.calls k _ _ l1 t388 _ ?side1 ?side2 A3.out).mono ?_); (case side1 => repeat (first | exact (Kd.C_below HR1.out HB.out) | (with_reducible refine Kd.C_alloc ?_ _) | (with_reducible refine Kd.C_drewN ?_ _) | (with_reducible refine Kd.C_drew ?_))); (case side2 => exact HC1.out); rintro e w42 ⟨rfl, hb⟩; refine ⟨_, rfl, ?_⟩; have n0_ := Sd.mk (blk_below (g := gb387) (o := .cells #[.int .i64 0, .int .i64 0] 25 (0, 0)) (by exact blkF BK387.out) hb); have n1_ := Sd.mk (below_step (by repeat (first | (with_reducible first | exact HB.out | apply bal | apply pbd | apply bd1 | refine bst ?_ GE387.out) | exact HB.out)) hb); clear BK387; clear HB; have BK387 := n0_; have HB := n1_; clear n0_ n1_; (try clear hb); (try clear hb2); (try clear hk); (try clear hi); have hcz43_0 : w42.cell? ⟨gb387, 0, none⟩ = some (.int .i64 0) := (blk_cell BK387.out 0).trans rfl; have hcz43_1 : w42.cell? ⟨gb387, 1, none⟩ = some (.int .i64 0) := (blk_cell BK387.out 1).trans rfl; have hfz43_0 := blk_frozen BK387.out 0; have hfz43_1 := blk_frozen BK387.out 1))
  refine bodyPost_ret (results_ct rfl _ _ gb387 25 #[.int .i64 0, .int .i64 0] (0, 0) _ rfl (by (with_reducible repeat (first | refine blk_drewN ?_ _ | refine blk_drew ?_ | refine blk_alloc ?_ _)); refine blk_put (cs := #[.int .i64 0, .int .i64 0]) ?_ 1 _ rfl; (with_reducible repeat (first | refine blk_drewN ?_ _ | refine blk_drew ?_ | refine blk_alloc ?_ _)); refine blk_put (cs := #[.int .i64 0, .int .i64 0]) ?_ 0 _ rfl; (with_reducible repeat (first | refine blk_drewN ?_ _ | refine blk_drew ?_ | refine blk_alloc ?_ _)); exact BK387.out) Tryz.underlying25 rfl (by kernel_rfl)) rfl ?_
  exact ⟨by first | rfl | (simp [errW_none, errW_some] <;> rfl) | (simp [*, errW_none, errW_some] <;> rfl), by repeat (first | (with_reducible first | exact HB.out | apply bal | apply pbd | apply bd1 | refine bst ?_ GE387.out) | exact HB.out)⟩
end Go.Proofs.YtcmiehddjgfjaaaGreatDoor.A
namespace Go.Proofs.YtcmiehddjgfjaaaGreatDoor.A
open Go.RowKit Go.Proofs.YtcmiehddjgfjaaaGreatDoorW.PrintWords Go.Proofs.YtcmiehddjgfjaaaGreatDoorW.PrintLast Go.Proofs.YtcmiehddjgfjaaaGreatDoorW.PrintMore
set_option linter.unusedVariables false
set_option linter.unusedSimpArgs false
theorem one_step' {α : Type} {g : Nat → Option α} {r : α} (h : ∀ k, g (k + 1) = some r) : Ev g r := ⟨1, fun k hk => by
  obtain ⟨k, rfl⟩ : ∃ m, k = m + 1 := ⟨k - 1, by omega⟩
  exact h k⟩
theorem const_ev {α : Type} {g : Nat → Option α} {r : α} (h : ∀ k, g k = some r) : Ev g r := ⟨0, fun k _ => h k⟩
/-- The kinds of a value. -/
theorem isV_cases {a : V} (h : isV a) : (a.1 = 1 ∧ -1000000000000000 ≤ a.2 ∧ a.2 ≤ 1000000000000000) ∨ a = (2, 0) ∨ a = (3, 0) ∨ a = (4, 0) ∨ a = (5, 0) := by
  rcases h with h | ⟨h, h0⟩
  · exact .inl h
  · right
    obtain ⟨k, n⟩ := a
    have h0' : n = 0 := h0
    have h' : k = 2 ∨ k = 3 ∨ k = 4 ∨ k = 5 := h
    subst h0'
    rcases h' with rfl | rfl | rfl | rfl <;> simp
theorem rtrue_is {a : V} (h : isV a) : r8_True.f a.1 a.2 = some (vTrue a) := by
  rcases isV_cases h with ⟨h1, h2, h3⟩ | rfl | rfl | rfl | rfl
  · obtain ⟨k, n⟩ := a
    have h1' : k = 1 := h1
    subst h1'
    unfold r8_True.f vTrue
    by_cases h0 : n = 0
    · subst h0; rfl
    · simp [h0]
  all_goals rfl
theorem rtruth_is (b : Bool) : r8_Truth.f b = some (vTruth b) := by cases b <;> rfl
theorem rsign_ev {a : V} (h : isV a) : Ev (fun k => r8_sign.f k a.1 a.2) (vSign (vRank a)) := by
  rcases isV_cases h with ⟨h1, h2, h3⟩ | rfl | rfl | rfl | rfl
  · rw [rank_num h1]
    refine one_step' fun k => ?_
    unfold r8_sign.f vSign
    rw [if_neg (by omega)]
    simp only [r8_sign.j0]
    rcases Int.lt_trichotomy a.2 0 with hn | hn | hn
    · rw [decide_eq_false (by omega), if_neg (by decide), if_neg (by omega), if_pos hn, if_pos hn]
    · rw [decide_eq_false (by omega), if_neg (by decide), if_neg (by omega), if_neg (by omega), if_neg (by omega), if_pos hn]
    · rw [decide_eq_true hn, if_pos rfl, if_neg (by omega), if_neg (by omega)]
  all_goals exact one_step' fun k => rfl
/-- A value, turned round. -/
def vTurn (a : V) : V := if a.1 = 4 then (5, 0) else if a.1 = 5 then (4, 0) else (a.1, -a.2)
theorem rturned_is {a : V} (h : isV a) : r8_turned.f a.1 a.2 = some (vTurn a) := by
  have hn := isV_n h
  unfold r8_turned.f vTurn
  rw [wrap_id (by omega) (by omega)]
  split
  · rfl
  · split <;> rfl
theorem turn_num {a : V} (h : isV a) (h2 : a.1 ≠ 2) (h3 : a.1 ≠ 3) : vTurn a = vNum (-vRank a) := by
  rcases isV_cases h with ⟨h1, hl, hu⟩ | rfl | rfl | rfl | rfl
  · rw [rank_num h1]
    unfold vTurn vNum
    rw [if_neg (by omega), if_neg (by omega), if_neg (by omega), if_neg (by omega), h1]
  · exact absurd rfl h2
  · exact absurd rfl h3
  · rfl
  · rfl
theorem isV_turn {a : V} (h : isV a) : isV (vTurn a) := by
  rcases isV_cases h with ⟨h1, hl, hu⟩ | rfl | rfl | rfl | rfl
  · unfold vTurn
    rw [if_neg (by omega), if_neg (by omega)]
    exact .inl ⟨h1, by show -1000000000000000 ≤ -a.2; omega, by show -a.2 ≤ 1000000000000000; omega⟩
  all_goals (unfold vTurn isV; decide)
theorem num_rank {a : V} (h : isV a) (h2 : a.1 ≠ 2) (h3 : a.1 ≠ 3) : vNum (vRank a) = a := by
  rcases isV_cases h with ⟨h1, hl, hu⟩ | rfl | rfl | rfl | rfl
  · rw [rank_num h1]
    unfold vNum
    rw [if_neg (by omega), if_neg (by omega)]
    exact Prod.ext h1.symm rfl
  · exact absurd rfl h2
  · exact absurd rfl h3
  · rfl
  · rfl
theorem rless_ev {a b : V} (ha : isV a) (hb : isV b) (a2 : a.1 ≠ 2) (a3 : a.1 ≠ 3) (b2 : b.1 ≠ 2) (b3 : b.1 ≠ 3) : Ev (fun k => r8_Less.f k a.1 a.2 b.1 b.2) (decide (vRank a < vRank b)) := by
  refine one_step' fun k => ?_
  unfold r8_Less.f r8_num.f
  simp only [Option.bind_some, r8_Less.j0]
  rcases isV_cases ha with ⟨h1, hl, hu⟩ | rfl | rfl | rfl | rfl
  · rcases isV_cases hb with ⟨g1, gl, gu⟩ | rfl | rfl | rfl | rfl
    · rw [rank_num h1, rank_num g1]; simp [h1, g1]
    · exact absurd rfl b2
    · exact absurd rfl b3
    · rw [rank_num h1]; have : vRank (4, 0) = 1000000000000001 := rfl
      rw [this]; simp [h1]; omega
    · rw [rank_num h1]; have : vRank (5, 0) = -1000000000000001 := rfl
      rw [this]; simp [h1]; omega
  · exact absurd rfl a2
  · exact absurd rfl a3
  · have e : vRank (4, 0) = 1000000000000001 := rfl
    rcases isV_cases hb with ⟨g1, gl, gu⟩ | rfl | rfl | rfl | rfl
    · rw [rank_num g1, e]; simp [g1]; omega
    · exact absurd rfl b2
    · exact absurd rfl b3
    · rfl
    · rfl
  · have e : vRank (5, 0) = -1000000000000001 := rfl
    rcases isV_cases hb with ⟨g1, gl, gu⟩ | rfl | rfl | rfl | rfl
    · rw [rank_num g1, e]; simp [g1]; omega
    · exact absurd rfl b2
    · exact absurd rfl b3
    · rfl
    · rfl
theorem rank_eq {a b : V} (ha : isV a) (hb : isV b) (a2 : a.1 ≠ 2) (a3 : a.1 ≠ 3) (b2 : b.1 ≠ 2) (b3 : b.1 ≠ 3) : vRank a = vRank b ↔ a = b :=
  ⟨fun h => by rw [← num_rank ha a2 a3, ← num_rank hb b2 b3, h], fun h => by rw [h]⟩
theorem pair_beq (a b : V) : (a.1 == b.1 && (a.2 == b.2)) = decide (a = b) := by
  rw [Bool.eq_iff_iff, Bool.and_eq_true, beq_iff_eq, beq_iff_eq, decide_eq_true_iff]
  exact ⟨fun h => Prod.ext h.1 h.2, fun h => by rw [h]; exact ⟨rfl, rfl⟩⟩
theorem radd_ev {a b : V} (ha : isV a) (hb : isV b) : Ev (fun k => r8_add.f k a.1 a.2 b.1 b.2) (vAdd a b) := by
  have na := isV_n ha
  have nb := isV_n hb
  refine one_step' fun k => ?_
  unfold r8_add.f r8_num.f
  simp only [Option.bind_some, r8_add.j0, r8_num.f, r8_NaN.f, rnum_is]
  rw [wrap_id (by omega) (by omega)]
  unfold vAdd
  by_cases h1 : a.1 = 1
  · by_cases g1 : b.1 = 1
    · simp [h1, g1]
    · simp [h1, g1]
  · by_cases g1 : b.1 = 1
    · simp [h1, g1]
    · rw [pair_beq]
      by_cases he : a = b
      · simp [h1, g1, he]
      · simp [h1, g1, he]
theorem rbeyond_is (s : Int) : r8_beyond.f s = some (vInf s) := by
  unfold r8_beyond.f vInf r8_Plus.f r8_Minus.f r8_NaN.f
  rcases Int.lt_trichotomy s 0 with h | h | h
  · rw [if_neg (by omega), if_pos h, if_neg (by omega), if_pos h]; rfl
  · rw [if_neg (by omega), if_neg (by omega), if_pos h]; rfl
  · rw [if_pos h, if_neg (by omega), if_neg (by omega)]; rfl
theorem rsize_is {n : Int} (h : -1000000000000000 ≤ n ∧ n ≤ 1000000000000000) : r8_size.f n = some (n * vSign n) := by
  unfold r8_size.f vSign
  rcases Int.lt_trichotomy n 0 with h' | h' | h'
  · rw [if_pos h', if_pos h', wrap_id (by omega) (by omega)]; congr 1; omega
  · rw [if_neg (by omega), if_neg (by omega), if_pos h', h']; rfl
  · rw [if_neg (by omega), if_neg (by omega), if_neg (by omega), Int.mul_one]
theorem mul_split (w r y : Int) (hr0 : 0 ≤ r) (hr : r < 1000) (hy : 0 ≤ y) : (1000 * w + r) * y / 1000 = w * y + r * y / 1000 := by
  have e : (1000 * w + r) * y = r * y + 1000 * (w * y) := by rw [Int.add_mul, Int.mul_assoc, Int.add_comm]
  rw [e, Int.add_mul_ediv_left _ _ (by decide), Int.add_comm]
theorem inf_num {s q : Int} (hs : s = -1 ∨ s = 1) (hq : 1000000000000000 < q) : vInf s = vNum (s * q) := by
  rcases hs with rfl | rfl
  · unfold vInf vNum
    rw [if_neg (by decide), if_pos (by decide), if_neg (by omega), if_pos (by omega)]
  · unfold vInf vNum
    rw [if_neg (by decide), if_neg (by decide), if_pos (by omega)]
theorem rtimes_ev {a b : V} (ha : isV a) (hb : isV b) : Ev (fun k => r8_times.f k a.1 a.2 b.1 b.2) (vMul a b) := by
  have na := isV_n ha
  have nb := isV_n hb
  have sa := vSign_range (vRank a)
  have sb' := vSign_range (vRank b)
  have ew : wrap64 (vSign (vRank a) * vSign (vRank b)) = vSign (vRank a) * vSign (vRank b) := by
    rcases sa with sa | sa | sa <;> rcases sb' with sb' | sb' | sb' <;> rw [sa, sb'] <;> exact wrap_id (by omega) (by omega)
  have num : ∀ k, (r8_num.f a.1 a.2).bind (fun t295 => (if t295 = true then ((r8_num.f b.1 b.2).bind fun t296 => (r8_times.j0 k (wrap64 (vSign (vRank a) * vSign (vRank b))) (!t296) a.1 a.2 b.1 b.2)) else (r8_times.j0 k (wrap64 (vSign (vRank a) * vSign (vRank b))) true a.1 a.2 b.1 b.2))) = r8_times.j0 k (vSign (vRank a) * vSign (vRank b)) (!(decide (a.1 = 1 ∧ b.1 = 1))) a.1 a.2 b.1 b.2 := by
    intro k
    unfold r8_num.f
    rw [ew]
    by_cases h1 : a.1 = 1
    · by_cases g1 : b.1 = 1
      · simp [h1, g1]
      · have g1' : (b.1 == 1) = false := beq_false_of_ne g1
        simp [h1, g1, g1']
    · simp [h1]
  unfold r8_times.f
  refine Ev.bind (f := fun k t293 => ((r8_sign.f k b.1 b.2).bind fun t294 => ((r8_num.f a.1 a.2).bind fun t295 => (if t295 = true then ((r8_num.f b.1 b.2).bind fun t296 => (r8_times.j0 k (wrap64 (t293 * t294)) (!t296) a.1 a.2 b.1 b.2)) else (r8_times.j0 k (wrap64 (t293 * t294)) true a.1 a.2 b.1 b.2))))) (rsign_ev ha) ?_
  refine Ev.bind (f := fun k t294 => ((r8_num.f a.1 a.2).bind fun t295 => (if t295 = true then ((r8_num.f b.1 b.2).bind fun t296 => (r8_times.j0 k (wrap64 (vSign (vRank a) * t294)) (!t296) a.1 a.2 b.1 b.2)) else (r8_times.j0 k (wrap64 (vSign (vRank a) * t294)) true a.1 a.2 b.1 b.2)))) (rsign_ev hb) ?_
  refine Ev.congr num ?_
  unfold vMul
  by_cases h : a.1 = 1 ∧ b.1 = 1
  · rw [decide_eq_true h, if_pos h, rank_num h.1, rank_num h.2]
    rw [rank_num h.1] at sa
    rw [rank_num h.2] at sb'
    obtain ⟨xa, ya⟩ := abs_sign a.2
    obtain ⟨xb, yb⟩ := abs_sign b.2
    have ra := rsize_is na
    have rb := rsize_is nb
    have hz1 : vSign a.2 = 0 → a.2 * vSign a.2 = 0 := fun h => by rw [h, Int.mul_zero]
    have hz2 : vSign b.2 = 0 → b.2 * vSign b.2 = 0 := fun h => by rw [h, Int.mul_zero]
    obtain ⟨x, hx⟩ : ∃ x, a.2 * vSign a.2 = x := ⟨_, rfl⟩
    obtain ⟨y, hy⟩ : ∃ y, b.2 * vSign b.2 = y := ⟨_, rfl⟩
    rw [hx] at xa ya ra hz1 ⊢
    rw [hy] at xb yb rb hz2 ⊢
    have bx : x ≤ 1000000000000000 := by omega
    have by' : y ≤ 1000000000000000 := by omega
    obtain ⟨sg, hsg⟩ : ∃ sg, vSign a.2 * vSign b.2 = sg := ⟨_, rfl⟩
    have hs3 : sg = -1 ∨ sg = 0 ∨ sg = 1 := by
      rw [← hsg]
      rcases sa with sa | sa | sa <;> rcases sb' with sb' | sb' | sb' <;> rw [sa, sb'] <;> simp
    have hs0 : sg = 0 → x = 0 ∨ y = 0 := fun h => by
      rw [← hsg] at h
      rcases Int.mul_eq_zero.1 h with h | h
      · exact .inl (hz1 h)
      · exact .inr (hz2 h)
    rw [hsg]
    obtain ⟨w, hw⟩ : ∃ w, x / 1000 = w := ⟨_, rfl⟩
    obtain ⟨r, hr⟩ : ∃ r, x % 1000 = r := ⟨_, rfl⟩
    have ex : x = 1000 * w + r := by omega
    have w0 : 0 ≤ w := by omega
    have w1 : w ≤ 1000000000000 := by omega
    have r0 : 0 ≤ r := by omega
    have r1 : r < 1000 := by omega
    have eq1 : wrap64 (Int.tdiv x 1000) = w := by rw [Int.tdiv_eq_ediv_of_nonneg xa, wrap_id (by omega) (by omega), hw]
    have eq2 : Int.tmod x 1000 = r := by rw [Int.tmod_eq_emod_of_nonneg xa, hr]
    have eq3 : x * y / 1000 = w * y + r * y / 1000 := by rw [ex]; exact mul_split w r y r0 r1 xb
    have ry0 : 0 ≤ r * y := Int.mul_nonneg r0 xb
    have ry1 : r * y ≤ 999 * 1000000000000000 := Int.le_trans (Int.mul_le_mul_of_nonneg_right (by omega) xb) (Int.mul_le_mul_of_nonneg_left by' (by omega))
    rw [eq3]
    refine Ev.step (f := fun k => r8_times.j1 k sg y w r (decide (0 < w ∧ y > 1000000000000000 / w))) (fun k => ?_) ?_
    · simp only [r8_times.j0]
      rw [if_neg (by decide), ra, rb]
      simp only [Option.bind_some, eq1, eq2]
      by_cases hw0 : w > 0
      · have hd0 : 0 ≤ 1000000000000000 / w := Int.ediv_nonneg (by decide) w0
        have hd1 : 1000000000000000 / w ≤ 1000000000000000 := Int.ediv_le_self _ (by decide)
        rw [if_pos hw0, if_neg (by omega), wrap_id (by omega) (by omega)]
        by_cases hy2 : y > 1000000000000000 / w
        · rw [decide_eq_true hy2, decide_eq_true ⟨hw0, hy2⟩]
        · rw [decide_eq_false hy2, decide_eq_false (fun h => hy2 h.2)]
      · rw [if_neg hw0, decide_eq_false (fun h => hw0 h.1)]
    · by_cases hb2 : 0 < w ∧ y > 1000000000000000 / w
      · rw [decide_eq_true hb2]
        have hgt : 1000000000000000 < w * y := by
          have h1 := Int.lt_mul_of_ediv_lt hb2.1 hb2.2
          rw [Int.mul_comm] at h1
          omega
        have hsn : sg = -1 ∨ sg = 1 := by
          rcases hs3 with h | h | h
          · exact .inl h
          · rcases hs0 h with h | h
            · omega
            · rw [h, Int.mul_zero] at hgt; omega
          · exact .inr h
        have hry : 0 ≤ r * y / 1000 := Int.ediv_nonneg ry0 (by decide)
        rw [← inf_num hsn (show 1000000000000000 < w * y + r * y / 1000 by omega)]
        refine one_step' fun k => ?_
        simp only [r8_times.j1, if_true]
        rw [rbeyond_is]
        rfl
      · rw [decide_eq_false hb2]
        have hle : w * y ≤ 1000000000000000 := by
          by_cases hw0 : 0 < w
          · have h1 : y ≤ 1000000000000000 / w := by
              rcases Int.lt_or_le (1000000000000000 / w) y with h | h
              · exact absurd ⟨hw0, h⟩ hb2
              · exact h
            have h2 := Int.mul_le_of_le_ediv hw0 h1
            rw [Int.mul_comm] at h2
            exact h2
          · have : w = 0 := by omega
            rw [this, Int.zero_mul]; decide
        have hwy : 0 ≤ w * y := Int.mul_nonneg w0 xb
        have hq0 : 0 ≤ r * y / 1000 := Int.ediv_nonneg ry0 (by decide)
        have hq1 : r * y / 1000 ≤ 999000000000000 := by omega
        refine one_step' fun k => ?_
        simp only [r8_times.j1]
        rw [if_neg (by decide), wrap_id (n := w * y) (by omega) (by omega), wrap_id (n := r * y) (by omega) (by omega), Int.tdiv_eq_ediv_of_nonneg ry0, wrap_id (n := r * y / 1000) (by omega) (by omega), wrap_id (n := w * y + r * y / 1000) (by omega) (by omega)]
        have hss : wrap64 (sg * (w * y + r * y / 1000)) = sg * (w * y + r * y / 1000) := by
          rcases hs3 with h | h | h <;> rw [h] <;> exact wrap_id (by omega) (by omega)
        rw [hss, rnum_is]
        rfl
  · rw [decide_eq_false h, if_neg h]
    refine one_step' fun k => ?_
    simp only [r8_times.j0]
    rw [if_pos (by decide), rbeyond_is]
    rfl
end Go.Proofs.YtcmiehddjgfjaaaGreatDoor.A
namespace Go.Proofs.YtcmiehddjgfjaaaGreatDoor.A
open Go.RowKit Go.Proofs.YtcmiehddjgfjaaaGreatDoorW.PrintWords Go.Proofs.YtcmiehddjgfjaaaGreatDoorW.PrintLast Go.Proofs.YtcmiehddjgfjaaaGreatDoorW.PrintMore
set_option linter.unusedVariables false
set_option linter.unusedSimpArgs false
theorem rover_ev {a b : V} (ha : isV a) (hb : isV b) (a2 : a.1 ≠ 2) (a3 : a.1 ≠ 3) (b2 : b.1 ≠ 2) (b3 : b.1 ≠ 3) : Ev (fun k => r8_over.f k a.1 a.2 b.1 b.2) (vDiv a b) := by
  have na := isV_n ha
  have nb := isV_n hb
  have hnum : ∀ x y : Int, r8_num.f x y = some (x == 1) := fun _ _ => rfl
  have e3 : wrap64 ((a.2 * 1000).tdiv b.2) = (a.2 * 1000).tdiv b.2 := by
    have h := Int.natAbs_tdiv_le_natAbs (a.2 * 1000) b.2
    exact wrap_id (by omega) (by omega)
  have e2 : wrap64 (a.2 * 1000) = a.2 * 1000 := wrap_id (by omega) (by omega)
  unfold vDiv
  by_cases h1 : a.1 = 1
  · by_cases g1 : b.1 = 1
    · rw [if_pos g1, if_pos h1]
      by_cases h0 : b.2 = 0
      · rw [if_pos h0]
        have hs := rsign_ev ha
        rw [rank_num h1] at hs
        have hinf : vInf (vSign a.2) = vInf a.2 := by
          rcases Int.lt_trichotomy a.2 0 with h | h | h
          · have e : vSign a.2 = -1 := by unfold vSign; rw [if_pos h]
            rw [e]; unfold vInf; rw [if_neg (by decide), if_pos (by decide), if_neg (by omega), if_pos h]
          · rw [h]; rfl
          · have e : vSign a.2 = 1 := by unfold vSign; rw [if_neg (by omega), if_neg (by omega)]
            rw [e]; unfold vInf; rw [if_neg (by decide), if_neg (by decide), if_neg (by omega), if_neg (by omega)]
        refine Ev.congr (f := fun k => r8_over.j0 k true a.1 a.2 b.1 b.2) (fun k => ?_) ?_
        · unfold r8_over.f
          simp only [hnum, Option.bind_some, h1, g1, h0]
          rfl
        · refine Ev.step (f := fun k => (r8_sign.f k a.1 a.2).bind fun t310 => ((r8_beyond.f t310).bind fun bt311 => (some (bt311.1, bt311.2)))) (fun k => ?_) ?_
          · simp only [r8_over.j0, if_true]
          · refine Ev.bind (f := fun k t310 => ((r8_beyond.f t310).bind fun bt311 => (some (bt311.1, bt311.2)))) hs ⟨0, fun k _ => ?_⟩
            show (r8_beyond.f (vSign a.2)).bind _ = _
            rw [rbeyond_is, hinf]; rfl
      · rw [if_neg h0]
        have q1 : Ev (fun k => r8_over.j1 k true a.1 a.2 b.1 b.2) (vNum ((a.2 * 1000).tdiv b.2)) := by
          refine one_step' fun k => ?_
          simp only [r8_over.j1, if_true]
          rw [if_neg h0, e2, e3, rnum_is]; rfl
        refine Ev.congr (f := fun k => r8_over.j0 k false a.1 a.2 b.1 b.2) (fun k => ?_) (Ev.step (fun k => ?_) q1)
        · unfold r8_over.f
          rw [beq_false_of_ne h0]
          simp only [hnum, Option.bind_some, h1, g1]
          rfl
        · simp only [r8_over.j0, hnum, Option.bind_some, h1, g1]
          rfl
    · rw [if_neg g1, if_pos h1]
      have g1' : (b.1 == 1) = false := beq_false_of_ne g1
      have q1 : Ev (fun k => r8_over.j1 k false a.1 a.2 b.1 b.2) (vNum 0) := by
        refine one_step' fun k => ?_
        simp only [r8_over.j1, hnum, Option.bind_some, h1, g1', rnum_is]
        rfl
      refine Ev.congr (f := fun k => r8_over.j0 k false a.1 a.2 b.1 b.2) (fun k => ?_) (Ev.step (fun k => ?_) q1)
      · unfold r8_over.f
        simp only [hnum, Option.bind_some, h1, g1']
        rfl
      · simp only [r8_over.j0, hnum, Option.bind_some, h1, g1']
        rfl
  · have h1' : (a.1 == 1) = false := beq_false_of_ne h1
    have start : ∀ {r : Int × Int}, Ev (fun k => r8_over.j1 k false a.1 a.2 b.1 b.2) r → Ev (fun k => r8_over.f k a.1 a.2 b.1 b.2) r := fun q1 => by
      refine Ev.congr (f := fun k => r8_over.j0 k false a.1 a.2 b.1 b.2) (fun k => ?_) (Ev.step (fun k => ?_) q1)
      · unfold r8_over.f
        simp only [hnum, Option.bind_some, h1']
        rfl
      · simp only [r8_over.j0, hnum, Option.bind_some, h1']
        rfl
    refine start ?_
    by_cases g1 : b.1 = 1
    · rw [if_pos g1, if_neg h1]
      refine Ev.step (f := fun k => r8_over.j2 k (decide (b.2 < 0)) a.1 a.2 b.1 b.2) (fun k => ?_) ?_
      · simp only [r8_over.j1, hnum, Option.bind_some, h1', g1]
        rfl
      · by_cases hn : b.2 < 0
        · rw [if_pos hn, decide_eq_true hn]
          refine one_step' fun k => ?_
          simp only [r8_over.j2, if_true]
          rw [rturned_is ha, turn_num ha a2 a3]; rfl
        · rw [if_neg hn, decide_eq_false hn]
          refine one_step' fun k => ?_
          simp only [r8_over.j2, hnum, Option.bind_some, g1]
          rfl
    · have g1' : (b.1 == 1) = false := beq_false_of_ne g1
      rw [if_neg g1, if_neg h1]
      refine Ev.step (f := fun k => r8_over.j2 k false a.1 a.2 b.1 b.2) (fun k => ?_) ?_
      · simp only [r8_over.j1, hnum, Option.bind_some, h1', g1']
        rfl
      · refine one_step' fun k => ?_
        simp only [r8_over.j2, hnum, Option.bind_some, g1']
        rfl
/-- An operation's answer, with whether there is one. -/
def one3 (op : ByteArray) (a : V) : Int × Int × Bool := match tab1.lookup op with | some F => ((F a).1, (F a).2, true) | none => (0, 0, false)
theorem sb_inj {a b : ByteArray} : a.toList = b.toList ↔ a = b := ⟨fun h => by rw [eq_sb a, eq_sb b, h], fun h => by rw [h]⟩
theorem ba_ne {a b : ByteArray} (h : a ≠ b) : (a == b) = false := by
  rcases a with ⟨a⟩
  rcases b with ⟨b⟩
  have h' : a ≠ b := fun e => h (by rw [e])
  show (a == b) = false
  exact beq_false_of_ne h'
theorem op_ne {op : ByteArray} {l : List UInt8} (h : op ≠ sb l) : ¬ op.toList = l := fun h' => h (by rw [eq_sb op, h'])
theorem floor_eq (n : Int) : n - (n.tmod 1000 + 1000).tmod 1000 = if n.tmod 1000 < 0 then n - (n.tmod 1000 + 1000) else n - n.tmod 1000 := by
  have h1 := Int.tmod_lt_of_pos n (show (0 : Int) < 1000 by decide)
  have h2 := Int.lt_tmod_of_pos n (show (0 : Int) < 1000 by decide)
  rw [Int.tmod_eq_emod_of_nonneg (show 0 ≤ n.tmod 1000 + 1000 by omega)]
  split <;> omega
theorem one_j0_cases {op : ByteArray} {a : V} (ha : isV a) (hop : op = sb [45] ∨ op = sb [97, 98, 115] ∨ op = sb [102, 108, 111, 111, 114] ∨ op = sb [33]) : Ev (fun k => r8_one.j0 k op a.1 a.2) (one3 op a) := by
  have hnum : ∀ x y : Int, r8_num.f x y = some (x == 1) := fun _ _ => rfl
  have na := isV_n ha
  have t1 : (sb [45]).toList = [45] := sb_toList _
  have t2 : (sb [97, 98, 115]).toList = [97, 98, 115] := sb_toList _
  have t3 : (sb [102, 108, 111, 111, 114]).toList = [102, 108, 111, 111, 114] := sb_toList _
  have t4 : (sb [33]).toList = [33] := sb_toList _
  have o1 : one3 (sb [45]) a = ((vPlain (fun n => -n) a).1, (vPlain (fun n => -n) a).2, true) := rfl
  have o2 : one3 (sb [97, 98, 115]) a = ((vPlain vMax a).1, (vPlain vMax a).2, true) := rfl
  have o3 : one3 (sb [102, 108, 111, 111, 114]) a = ((vFloor a).1, (vFloor a).2, true) := rfl
  have o4 : one3 (sb [33]) a = ((vNot a).1, (vNot a).2, true) := rfl
  by_cases h2 : a.1 = 2
  · have e : one3 op a = (a.1, a.2, true) := by
      rcases hop with rfl | rfl | rfl | rfl
      · rw [o1]; unfold vPlain; rw [if_pos h2]
      · rw [o2]; unfold vPlain; rw [if_pos h2]
      · rw [o3]; unfold vFloor; rw [if_neg (by omega)]
      · rw [o4]; unfold vNot; rw [if_pos h2]
    rw [e]
    refine one_step' fun k => ?_
    simp only [r8_one.j0]
    rw [if_pos h2]
  · by_cases h4 : op = sb [33]
    · subst h4
      rw [o4]
      refine one_step' fun k => ?_
      simp only [r8_one.j0]
      rw [if_neg h2, t4, if_pos rfl, rtrue_is ha]
      simp only [Option.bind_some, rtruth_is]
      unfold vNot
      rw [if_neg h2]
    · by_cases h3 : a.1 = 3
      · have e : one3 op a = (a.1, a.2, true) := by
          rcases hop with rfl | rfl | rfl | rfl
          · rw [o1]; unfold vPlain; rw [if_neg h2, if_pos h3]
          · rw [o2]; unfold vPlain; rw [if_neg h2, if_pos h3]
          · rw [o3]; unfold vFloor; rw [if_neg (by omega)]
          · exact absurd rfl h4
        rw [e]
        refine one_step' fun k => ?_
        simp only [r8_one.j0]
        rw [if_neg h2, if_neg (op_ne h4), if_pos h3]
      · have turn : Ev (fun k => r8_one.j1 k op true a.1 a.2) ((vTurn a).1, (vTurn a).2, true) := by
          refine one_step' fun k => ?_
          simp only [r8_one.j1, if_true]
          rw [rturned_is ha]; rfl
        rcases hop with rfl | rfl | rfl | rfl
        · rw [o1]
          have e : vPlain (fun n => -n) a = vTurn a := by
            unfold vPlain; rw [if_neg h2, if_neg h3, turn_num ha h2 h3]
          rw [e]
          refine Ev.step (fun k => ?_) turn
          simp only [r8_one.j0]
          rw [if_neg h2, if_neg (op_ne h4), if_neg h3, t1, if_pos rfl]
        · rw [o2]
          have hsr : decide (vSign (vRank a) < 0) = decide (vRank a < 0) := by
            unfold vSign
            rcases Int.lt_trichotomy (vRank a) 0 with h | h | h
            · rw [if_pos h, decide_eq_true h]; rfl
            · rw [if_neg (by omega), if_pos h, decide_eq_false (show ¬ vRank a < 0 by omega)]; rfl
            · rw [if_neg (by omega), if_neg (by omega), decide_eq_false (show ¬ vRank a < 0 by omega)]; rfl
          refine Ev.step (f := fun k => (r8_sign.f k a.1 a.2).bind fun t258 => (r8_one.j1 k (sb [97, 98, 115]) (decide (t258 < 0)) a.1 a.2)) (fun k => ?_) ?_
          · simp only [r8_one.j0]
            rw [if_neg h2, if_neg (op_ne h4), if_neg h3, t2, if_neg (by decide), if_pos rfl]
          · refine Ev.bind (f := fun k t258 => (r8_one.j1 k (sb [97, 98, 115]) (decide (t258 < 0)) a.1 a.2)) (rsign_ev ha) ?_
            rw [hsr]
            by_cases hn : vRank a < 0
            · rw [decide_eq_true hn]
              have e : vPlain vMax a = vTurn a := by
                unfold vPlain vMax; rw [if_neg h2, if_neg h3, if_pos (by omega), turn_num ha h2 h3]
              rw [e]
              exact turn
            · rw [decide_eq_false hn]
              have e : vPlain vMax a = a := by
                unfold vPlain vMax; rw [if_neg h2, if_neg h3]
                by_cases h0 : vRank a < -vRank a
                · omega
                · rw [if_neg h0, num_rank ha h2 h3]
              rw [e]
              have q : Ev (fun k => r8_one.j2 k false a.1 a.2) (a.1, a.2, true) := one_step' fun k => by simp [r8_one.j2]
              refine Ev.step (fun k => ?_) q
              simp only [r8_one.j1]
              rw [if_neg (by decide), t2, if_neg (by decide)]
        · rw [o3]
          refine Ev.step (f := fun k => r8_one.j1 k (sb [102, 108, 111, 111, 114]) false a.1 a.2) (fun k => ?_) (Ev.step (f := fun k => r8_one.j2 k (a.1 == 1) a.1 a.2) (fun k => ?_) ?_)
          · simp only [r8_one.j0]
            rw [if_neg h2, if_neg (op_ne h4), if_neg h3, t3, if_neg (by decide), if_neg (by decide)]
          · simp only [r8_one.j1]
            rw [if_neg (by decide), t3, if_pos rfl, hnum]; rfl
          · refine one_step' fun k => ?_
            simp only [r8_one.j2]
            unfold vFloor
            by_cases h1 : a.1 = 1
            · rw [h1, if_pos (show ((1 : Int) == 1) = true from rfl), if_pos (show (1 : Int) = 1 from rfl), floor_eq]
              have hm1 := Int.tmod_lt_of_pos a.2 (show (0 : Int) < 1000 by decide)
              have hm2 := Int.lt_tmod_of_pos a.2 (show (0 : Int) < 1000 by decide)
              by_cases hn : a.2.tmod 1000 < 0
              · rw [if_pos hn, if_pos hn, wrap_id (n := a.2.tmod 1000 + 1000) (by omega) (by omega), wrap_id (by omega) (by omega), rnum_is]; rfl
              · rw [if_neg hn, if_neg hn, wrap_id (by omega) (by omega), rnum_is]; rfl
            · rw [beq_false_of_ne h1, if_neg (by decide), if_neg h1]
        · exact absurd rfl h4
theorem one_ev (op : ByteArray) {a : V} (ha : isV a) : Ev (fun k => r8_one.f k op a.1 a.2) (one3 op a) := by
  have hnum : ∀ x y : Int, r8_num.f x y = some (x == 1) := fun _ _ => rfl
  have key : ∀ l : List UInt8, (sb l).toList = l := sb_toList
  by_cases c1 : op = sb [105, 115, 95, 110, 117, 108, 108]
  · subst c1
    refine const_ev fun k => ?_
    unfold r8_one.f
    rw [key, if_pos rfl, rtruth_is]
    have : one3 (sb [105, 115, 95, 110, 117, 108, 108]) a = ((vKind [2] a).1, (vKind [2] a).2, true) := rfl
    rw [this]; unfold vKind; simp
  by_cases c2 : op = sb [105, 115, 95, 110, 97, 110]
  · subst c2
    refine const_ev fun k => ?_
    unfold r8_one.f
    rw [key, if_neg (by decide), if_pos rfl, rtruth_is]
    have : one3 (sb [105, 115, 95, 110, 97, 110]) a = ((vKind [3] a).1, (vKind [3] a).2, true) := rfl
    rw [this]; unfold vKind; simp
  by_cases c3 : op = sb [105, 115, 95, 105, 110, 102]
  · subst c3
    refine const_ev fun k => ?_
    unfold r8_one.f
    rw [key, if_neg (by decide), if_neg (by decide), if_pos rfl, rtruth_is, rtruth_is]
    have : one3 (sb [105, 115, 95, 105, 110, 102]) a = ((vKind [4, 5] a).1, (vKind [4, 5] a).2, true) := rfl
    rw [this]; unfold vKind
    by_cases h4 : a.1 = 4
    · simp [h4]
    · have h4' : (a.1 == 4) = false := beq_false_of_ne h4
      simp [h4, h4']
  by_cases c4 : op = sb [105, 115, 95, 110, 117, 109, 98, 101, 114]
  · subst c4
    refine const_ev fun k => ?_
    unfold r8_one.f
    rw [key, if_neg (by decide), if_neg (by decide), if_neg (by decide), if_pos rfl, hnum]
    simp only [Option.bind_some, rtruth_is]
    have : one3 (sb [105, 115, 95, 110, 117, 109, 98, 101, 114]) a = ((vKind [1] a).1, (vKind [1] a).2, true) := rfl
    rw [this]; unfold vKind; simp
  have n1 := op_ne c1
  have n2 := op_ne c2
  have n3 := op_ne c3
  have n4 := op_ne c4
  by_cases c5 : op = sb [45]
  · refine Ev.congr (fun k => ?_) (one_j0_cases ha (.inl c5))
    unfold r8_one.f
    rw [if_neg n1, if_neg n2, if_neg n3, if_neg n4, if_pos (by rw [c5, key])]
  by_cases c6 : op = sb [97, 98, 115]
  · refine Ev.congr (fun k => ?_) (one_j0_cases ha (.inr (.inl c6)))
    unfold r8_one.f
    rw [if_neg n1, if_neg n2, if_neg n3, if_neg n4, if_neg (op_ne c5), if_pos (by rw [c6, key])]
  by_cases c7 : op = sb [102, 108, 111, 111, 114]
  · refine Ev.congr (fun k => ?_) (one_j0_cases ha (.inr (.inr (.inl c7))))
    unfold r8_one.f
    rw [if_neg n1, if_neg n2, if_neg n3, if_neg n4, if_neg (op_ne c5), if_neg (op_ne c6), if_pos (by rw [c7, key])]
  by_cases c8 : op = sb [33]
  · refine Ev.congr (fun k => ?_) (one_j0_cases ha (.inr (.inr (.inr c8))))
    unfold r8_one.f
    rw [if_neg n1, if_neg n2, if_neg n3, if_neg n4, if_neg (op_ne c5), if_neg (op_ne c6), if_neg (op_ne c7), if_pos (by rw [c8, key])]
  · have hl : tab1.lookup op = none := by
      have f : ∀ {l : List UInt8}, op ≠ sb l → (op == sb l) = false := fun h => ba_ne h
      unfold tab1
      simp only [List.lookup, f c1, f c2, f c3, f c4, f c5, f c6, f c7, f c8]
    have e : one3 op a = (0, 0, false) := by unfold one3; rw [hl]
    rw [e]
    refine const_ev fun k => ?_
    unfold r8_one.f
    rw [if_neg n1, if_neg n2, if_neg n3, if_neg n4, if_neg (op_ne c5), if_neg (op_ne c6), if_neg (op_ne c7), if_neg (op_ne c8)]
end Go.Proofs.YtcmiehddjgfjaaaGreatDoor.A
namespace Go.Proofs.YtcmiehddjgfjaaaGreatDoor.A
open Go.RowKit Go.Proofs.YtcmiehddjgfjaaaGreatDoorW.PrintWords Go.Proofs.YtcmiehddjgfjaaaGreatDoorW.PrintLast Go.Proofs.YtcmiehddjgfjaaaGreatDoorW.PrintMore
set_option linter.unusedVariables false
set_option linter.unusedSimpArgs false
/-- An operation of two values, with whether there is one. -/
def two3 (op : ByteArray) (a b : V) : Int × Int × Bool := match tab2.lookup op with | some F => ((vTwo F a b).1, (vTwo F a b).2, true) | none => (0, 0, false)
def ops12 : List ByteArray := [sb [43], sb [45], sb [42], sb [47], sb [61, 61], sb [33, 61], sb [60], sb [60, 61], sb [62], sb [62, 61], sb [38, 38], sb [124, 124]]
theorem two_at {op : ByteArray} {F : V → V → V} (h : tab2.lookup op = some F) (a b : V) : two3 op a b = ((vTwo F a b).1, (vTwo F a b).2, true) := by unfold two3; rw [h]
section
variable {a b : V} (ha : isV a) (hb : isV b)
theorem keyl (l : List UInt8) : (sb l).toList = l := sb_toList l
theorem rdOf_at {i : Nat} (h : i < ops12.length) : rdOf ByteArray.empty ops12 (i : Int) = ops12[i] := by
  unfold rdOf
  rw [Int.toNat_natCast, List.getD_eq_getElem?_getD, List.getElem?_eq_getElem h]; rfl
theorem eq_bool {a b : V} (ha : isV a) (hb : isV b) (a2 : a.1 ≠ 2) (a3 : a.1 ≠ 3) (b2 : b.1 ≠ 2) (b3 : b.1 ≠ 3) : (vRank a == vRank b) = decide (a = b) := by
  rw [Bool.eq_iff_iff, beq_iff_eq, decide_eq_true_iff]
  exact rank_eq ha hb a2 a3 b2 b3
include ha hb
theorem two_add (a2 : a.1 ≠ 2) (b2 : b.1 ≠ 2) : Ev (fun k => r8_two.j2 k (sb [43]) (decide (a.1 = 3 ∨ b.1 = 3)) a.1 a.2 b.1 b.2) (((vNumbers vAdd) a b).1, ((vNumbers vAdd) a b).2, true) := by
  unfold vNumbers
  by_cases h : a.1 = 3 ∨ b.1 = 3
  · rw [decide_eq_true h, if_pos h]
    refine one_step' fun k => ?_
    simp only [r8_two.j2]
    rw [keyl, if_neg (by decide), if_neg (by decide), if_neg (by decide), if_neg (by decide), if_neg (by decide), if_neg (by decide), if_neg (by decide), if_neg (by decide), if_pos trivial]; rfl
  · rw [decide_eq_false h, if_neg h]
    have q := radd_ev ha hb
    refine Ev.step (f := fun k => (r8_add.f k a.1 a.2 b.1 b.2).bind fun bt => (some (bt.1, bt.2, true))) (fun k => ?_) (Ev.bind (f := fun k bt => (some (bt.1, bt.2, true))) q ⟨0, fun k _ => rfl⟩)
    simp only [r8_two.j2]
    rw [keyl, if_neg (by decide), if_neg (by decide), if_neg (by decide), if_neg (by decide), if_neg (by decide), if_neg (by decide), if_neg (by decide), if_neg (by decide), if_neg (by decide), if_pos rfl]
theorem two_sub (a2 : a.1 ≠ 2) (b2 : b.1 ≠ 2) : Ev (fun k => r8_two.j2 k (sb [45]) (decide (a.1 = 3 ∨ b.1 = 3)) a.1 a.2 b.1 b.2) (((vNumbers vSub) a b).1, ((vNumbers vSub) a b).2, true) := by
  unfold vNumbers
  by_cases h : a.1 = 3 ∨ b.1 = 3
  · rw [decide_eq_true h, if_pos h]
    refine one_step' fun k => ?_
    simp only [r8_two.j2]
    rw [keyl, if_neg (by decide), if_neg (by decide), if_neg (by decide), if_neg (by decide), if_neg (by decide), if_neg (by decide), if_neg (by decide), if_neg (by decide), if_pos trivial]; rfl
  · rw [decide_eq_false h, if_neg h]
    have q := radd_ev ha (isV_turn hb)
    have eS : vAdd a (vTurn b) = vSub a b := by unfold vSub; rw [turn_num hb b2 (fun h' => h (.inr h'))]
    rw [eS] at q
    refine Ev.step (f := fun k => (r8_add.f k a.1 a.2 (vTurn b).1 (vTurn b).2).bind fun bt => (some (bt.1, bt.2, true))) (fun k => ?_) (Ev.bind (f := fun k bt => (some (bt.1, bt.2, true))) q ⟨0, fun k _ => rfl⟩)
    simp only [r8_two.j2]
    rw [keyl, if_neg (by decide), if_neg (by decide), if_neg (by decide), if_neg (by decide), if_neg (by decide), if_neg (by decide), if_neg (by decide), if_neg (by decide), if_neg (by decide), if_neg (by decide), if_pos rfl]
    rw [rturned_is hb]; rfl
theorem two_mul (a2 : a.1 ≠ 2) (b2 : b.1 ≠ 2) : Ev (fun k => r8_two.j2 k (sb [42]) (decide (a.1 = 3 ∨ b.1 = 3)) a.1 a.2 b.1 b.2) (((vNumbers vMul) a b).1, ((vNumbers vMul) a b).2, true) := by
  unfold vNumbers
  by_cases h : a.1 = 3 ∨ b.1 = 3
  · rw [decide_eq_true h, if_pos h]
    refine one_step' fun k => ?_
    simp only [r8_two.j2]
    rw [keyl, if_neg (by decide), if_neg (by decide), if_neg (by decide), if_neg (by decide), if_neg (by decide), if_neg (by decide), if_neg (by decide), if_neg (by decide), if_pos trivial]; rfl
  · rw [decide_eq_false h, if_neg h]
    have q := rtimes_ev ha hb
    refine Ev.step (f := fun k => (r8_times.f k a.1 a.2 b.1 b.2).bind fun bt => (some (bt.1, bt.2, true))) (fun k => ?_) (Ev.bind (f := fun k bt => (some (bt.1, bt.2, true))) q ⟨0, fun k _ => rfl⟩)
    simp only [r8_two.j2]
    rw [keyl, if_neg (by decide), if_neg (by decide), if_neg (by decide), if_neg (by decide), if_neg (by decide), if_neg (by decide), if_neg (by decide), if_neg (by decide), if_neg (by decide), if_neg (by decide), if_neg (by decide), if_pos rfl]
theorem two_div (a2 : a.1 ≠ 2) (b2 : b.1 ≠ 2) : Ev (fun k => r8_two.j2 k (sb [47]) (decide (a.1 = 3 ∨ b.1 = 3)) a.1 a.2 b.1 b.2) (((vNumbers vDiv) a b).1, ((vNumbers vDiv) a b).2, true) := by
  unfold vNumbers
  by_cases h : a.1 = 3 ∨ b.1 = 3
  · rw [decide_eq_true h, if_pos h]
    refine one_step' fun k => ?_
    simp only [r8_two.j2]
    rw [keyl, if_neg (by decide), if_neg (by decide), if_neg (by decide), if_neg (by decide), if_neg (by decide), if_neg (by decide), if_neg (by decide), if_neg (by decide), if_pos trivial]; rfl
  · rw [decide_eq_false h, if_neg h]
    have q := rover_ev ha hb a2 (fun h' => h (.inl h')) b2 (fun h' => h (.inr h'))
    refine Ev.step (f := fun k => (r8_over.f k a.1 a.2 b.1 b.2).bind fun bt => (some (bt.1, bt.2, true))) (fun k => ?_) (Ev.bind (f := fun k bt => (some (bt.1, bt.2, true))) q ⟨0, fun k _ => rfl⟩)
    simp only [r8_two.j2]
    rw [keyl, if_neg (by decide), if_neg (by decide), if_neg (by decide), if_neg (by decide), if_neg (by decide), if_neg (by decide), if_neg (by decide), if_neg (by decide), if_neg (by decide), if_neg (by decide), if_neg (by decide), if_neg (by decide)]
theorem two_eq (a2 : a.1 ≠ 2) (b2 : b.1 ≠ 2) : Ev (fun k => r8_two.j2 k (sb [61, 61]) (decide (a.1 = 3 ∨ b.1 = 3)) a.1 a.2 b.1 b.2) (((vOrder false (fun m n => m == n)) a b).1, ((vOrder false (fun m n => m == n)) a b).2, true) := by
  refine one_step' fun k => ?_
  simp only [r8_two.j2]
  rw [keyl, if_neg (by decide), if_neg (by decide), if_pos rfl]
  unfold vOrder
  by_cases h : a.1 = 3 ∨ b.1 = 3
  · rw [decide_eq_true h, if_pos rfl, if_pos h, rtruth_is]; rfl
  · have e := eq_bool ha hb a2 (fun h' => h (.inl h')) b2 (fun h' => h (.inr h'))
    rw [decide_eq_false h, if_neg (by decide), if_neg h, rtruth_is]
    rw [pair_beq, ← e]; rfl
theorem two_ne (a2 : a.1 ≠ 2) (b2 : b.1 ≠ 2) : Ev (fun k => r8_two.j2 k (sb [33, 61]) (decide (a.1 = 3 ∨ b.1 = 3)) a.1 a.2 b.1 b.2) (((vOrder true (fun m n => m != n)) a b).1, ((vOrder true (fun m n => m != n)) a b).2, true) := by
  refine one_step' fun k => ?_
  simp only [r8_two.j2]
  rw [keyl, if_neg (by decide), if_neg (by decide), if_neg (by decide), if_pos rfl]
  unfold vOrder
  by_cases h : a.1 = 3 ∨ b.1 = 3
  · rw [decide_eq_true h, if_pos rfl, if_pos h, rtruth_is]; rfl
  · have e := eq_bool ha hb a2 (fun h' => h (.inl h')) b2 (fun h' => h (.inr h'))
    rw [decide_eq_false h, if_neg (by decide), if_neg h, rtruth_is]
    have e2 : (!(a.1 == b.1) || (!(a.2 == b.2))) = (vRank a != vRank b) := by
      rw [← Bool.not_and, pair_beq, ← e]; rfl
    rw [e2]; rfl
theorem two_lt (a2 : a.1 ≠ 2) (b2 : b.1 ≠ 2) : Ev (fun k => r8_two.j2 k (sb [60]) (decide (a.1 = 3 ∨ b.1 = 3)) a.1 a.2 b.1 b.2) (((vOrder false (fun m n => decide (m < n))) a b).1, ((vOrder false (fun m n => decide (m < n))) a b).2, true) := by
  unfold vOrder
  by_cases h : a.1 = 3 ∨ b.1 = 3
  · rw [decide_eq_true h, if_pos h]
    refine one_step' fun k => ?_
    simp only [r8_two.j2]
    rw [keyl, if_neg (by decide), if_neg (by decide), if_neg (by decide), if_neg (by decide), if_pos rfl, if_pos trivial, rtruth_is]; rfl
  · rw [decide_eq_false h, if_neg h]
    have q := rless_ev ha hb a2 (fun h' => h (.inl h')) b2 (fun h' => h (.inr h'))
    have e : (decide (vRank a < vRank b)) = decide (vRank a < vRank b) := by
      rfl
    refine Ev.step (f := fun k => (r8_Less.f k a.1 a.2 b.1 b.2).bind fun t => ((r8_Truth.f (t)).bind fun bt => (some (bt.1, bt.2, true)))) (fun k => ?_) (Ev.bind (f := fun k t => ((r8_Truth.f (t)).bind fun bt => (some (bt.1, bt.2, true)))) q ⟨0, fun k _ => ?_⟩)
    · simp only [r8_two.j2]
      rw [keyl, if_neg (by decide), if_neg (by decide), if_neg (by decide), if_neg (by decide), if_pos rfl, if_neg (by decide)]
    · show (r8_Truth.f (decide (vRank a < vRank b))).bind _ = _
      rw [rtruth_is, e]; rfl
theorem two_le (a2 : a.1 ≠ 2) (b2 : b.1 ≠ 2) : Ev (fun k => r8_two.j2 k (sb [60, 61]) (decide (a.1 = 3 ∨ b.1 = 3)) a.1 a.2 b.1 b.2) (((vOrder false (fun m n => decide (m ≤ n))) a b).1, ((vOrder false (fun m n => decide (m ≤ n))) a b).2, true) := by
  unfold vOrder
  by_cases h : a.1 = 3 ∨ b.1 = 3
  · rw [decide_eq_true h, if_pos h]
    refine one_step' fun k => ?_
    simp only [r8_two.j2]
    rw [keyl, if_neg (by decide), if_neg (by decide), if_neg (by decide), if_neg (by decide), if_neg (by decide), if_pos rfl, if_pos trivial, rtruth_is]; rfl
  · rw [decide_eq_false h, if_neg h]
    have q := rless_ev hb ha b2 (fun h' => h (.inr h')) a2 (fun h' => h (.inl h'))
    have e : (!decide (vRank b < vRank a)) = decide (vRank a ≤ vRank b) := by
      rw [← decide_not]; congr 1; rw [Int.not_lt]
    refine Ev.step (f := fun k => (r8_Less.f k b.1 b.2 a.1 a.2).bind fun t => ((r8_Truth.f (!t)).bind fun bt => (some (bt.1, bt.2, true)))) (fun k => ?_) (Ev.bind (f := fun k t => ((r8_Truth.f (!t)).bind fun bt => (some (bt.1, bt.2, true)))) q ⟨0, fun k _ => ?_⟩)
    · simp only [r8_two.j2]
      rw [keyl, if_neg (by decide), if_neg (by decide), if_neg (by decide), if_neg (by decide), if_neg (by decide), if_pos rfl, if_neg (by decide)]
    · show (r8_Truth.f (!decide (vRank b < vRank a))).bind _ = _
      rw [rtruth_is, e]; rfl
theorem two_gt (a2 : a.1 ≠ 2) (b2 : b.1 ≠ 2) : Ev (fun k => r8_two.j2 k (sb [62]) (decide (a.1 = 3 ∨ b.1 = 3)) a.1 a.2 b.1 b.2) (((vOrder false (fun m n => decide (m > n))) a b).1, ((vOrder false (fun m n => decide (m > n))) a b).2, true) := by
  unfold vOrder
  by_cases h : a.1 = 3 ∨ b.1 = 3
  · rw [decide_eq_true h, if_pos h]
    refine one_step' fun k => ?_
    simp only [r8_two.j2]
    rw [keyl, if_neg (by decide), if_neg (by decide), if_neg (by decide), if_neg (by decide), if_neg (by decide), if_neg (by decide), if_pos rfl, if_pos trivial, rtruth_is]; rfl
  · rw [decide_eq_false h, if_neg h]
    have q := rless_ev hb ha b2 (fun h' => h (.inr h')) a2 (fun h' => h (.inl h'))
    have e : (decide (vRank b < vRank a)) = decide (vRank a > vRank b) := by
      rfl
    refine Ev.step (f := fun k => (r8_Less.f k b.1 b.2 a.1 a.2).bind fun t => ((r8_Truth.f (t)).bind fun bt => (some (bt.1, bt.2, true)))) (fun k => ?_) (Ev.bind (f := fun k t => ((r8_Truth.f (t)).bind fun bt => (some (bt.1, bt.2, true)))) q ⟨0, fun k _ => ?_⟩)
    · simp only [r8_two.j2]
      rw [keyl, if_neg (by decide), if_neg (by decide), if_neg (by decide), if_neg (by decide), if_neg (by decide), if_neg (by decide), if_pos rfl, if_neg (by decide)]
    · show (r8_Truth.f (decide (vRank b < vRank a))).bind _ = _
      rw [rtruth_is, e]; rfl
theorem two_ge (a2 : a.1 ≠ 2) (b2 : b.1 ≠ 2) : Ev (fun k => r8_two.j2 k (sb [62, 61]) (decide (a.1 = 3 ∨ b.1 = 3)) a.1 a.2 b.1 b.2) (((vOrder false (fun m n => decide (m ≥ n))) a b).1, ((vOrder false (fun m n => decide (m ≥ n))) a b).2, true) := by
  unfold vOrder
  by_cases h : a.1 = 3 ∨ b.1 = 3
  · rw [decide_eq_true h, if_pos h]
    refine one_step' fun k => ?_
    simp only [r8_two.j2]
    rw [keyl, if_neg (by decide), if_neg (by decide), if_neg (by decide), if_neg (by decide), if_neg (by decide), if_neg (by decide), if_neg (by decide), if_pos rfl, if_pos trivial, rtruth_is]; rfl
  · rw [decide_eq_false h, if_neg h]
    have q := rless_ev ha hb a2 (fun h' => h (.inl h')) b2 (fun h' => h (.inr h'))
    have e : (!decide (vRank a < vRank b)) = decide (vRank a ≥ vRank b) := by
      rw [← decide_not]; congr 1; rw [Int.not_lt]
    refine Ev.step (f := fun k => (r8_Less.f k a.1 a.2 b.1 b.2).bind fun t => ((r8_Truth.f (!t)).bind fun bt => (some (bt.1, bt.2, true)))) (fun k => ?_) (Ev.bind (f := fun k t => ((r8_Truth.f (!t)).bind fun bt => (some (bt.1, bt.2, true)))) q ⟨0, fun k _ => ?_⟩)
    · simp only [r8_two.j2]
      rw [keyl, if_neg (by decide), if_neg (by decide), if_neg (by decide), if_neg (by decide), if_neg (by decide), if_neg (by decide), if_neg (by decide), if_pos rfl, if_neg (by decide)]
    · show (r8_Truth.f (!decide (vRank a < vRank b))).bind _ = _
      rw [rtruth_is, e]; rfl
theorem two_and (a2 : a.1 ≠ 2) (b2 : b.1 ≠ 2) : Ev (fun k => r8_two.j2 k (sb [38, 38]) (decide (a.1 = 3 ∨ b.1 = 3)) a.1 a.2 b.1 b.2) ((vAnd a b).1, (vAnd a b).2, true) := by
  refine one_step' fun k => ?_
  simp only [r8_two.j2]
  rw [keyl, if_pos rfl, rtrue_is ha]
  simp only [Option.bind_some]
  unfold vAnd
  by_cases h : vTrue a = true
  · rw [if_pos h, rtrue_is hb]; simp only [Option.bind_some, rtruth_is]; rw [h]; rfl
  · rw [if_neg h, rtruth_is, Bool.eq_false_iff.2 h]; rfl
theorem two_or (a2 : a.1 ≠ 2) (b2 : b.1 ≠ 2) : Ev (fun k => r8_two.j2 k (sb [124, 124]) (decide (a.1 = 3 ∨ b.1 = 3)) a.1 a.2 b.1 b.2) ((vOr a b).1, (vOr a b).2, true) := by
  refine one_step' fun k => ?_
  simp only [r8_two.j2]
  rw [keyl, if_neg (by decide), if_pos rfl, rtrue_is ha]
  simp only [Option.bind_some]
  unfold vOr
  by_cases h : vTrue a = true
  · rw [if_pos h, rtruth_is, h]; rfl
  · rw [if_neg h, rtrue_is hb]; simp only [Option.bind_some, rtruth_is]; rw [Bool.eq_false_iff.2 h]; rfl
omit ha hb in
theorem two_j1 (op : ByteArray) {F : V → V → V} (ht : tab2.lookup op = some F) (h : a.1 ≠ 2 → b.1 ≠ 2 → Ev (fun k => r8_two.j2 k op (decide (a.1 = 3 ∨ b.1 = 3)) a.1 a.2 b.1 b.2) ((F a b).1, (F a b).2, true)) : Ev (fun k => r8_two.j1 k op (decide (a.1 = 2 ∨ b.1 = 2)) a.1 a.2 b.1 b.2) (two3 op a b) := by
  rw [two_at ht]
  unfold vTwo
  by_cases hn : a.1 = 2 ∨ b.1 = 2
  · rw [decide_eq_true hn, if_pos hn]
    exact one_step' fun k => by simp only [r8_two.j1, if_true]; rfl
  · rw [decide_eq_false hn, if_neg hn]
    refine Ev.step (fun k => ?_) (h (fun h' => hn (.inl h')) (fun h' => hn (.inr h')))
    simp only [r8_two.j1]
    rw [if_neg (by decide)]
    by_cases h3 : a.1 = 3
    · rw [if_pos h3, decide_eq_true (show a.1 = 3 ∨ b.1 = 3 from .inl h3)]
    · rw [if_neg h3]
      by_cases g3 : b.1 = 3
      · rw [g3, decide_eq_true (show a.1 = 3 ∨ (3 : Int) = 3 from .inr rfl)]; rfl
      · rw [beq_false_of_ne g3, decide_eq_false (fun h' => h'.elim h3 g3)]
theorem two_known (op : ByteArray) (hk : op ∈ ops12) : Ev (fun k => r8_two.j1 k op (decide (a.1 = 2 ∨ b.1 = 2)) a.1 a.2 b.1 b.2) (two3 op a b) := by
  simp only [ops12, List.mem_cons, List.mem_nil_iff, or_false] at hk
  rcases hk with rfl | rfl | rfl | rfl | rfl | rfl | rfl | rfl | rfl | rfl | rfl | rfl
  · exact two_j1 _ op2_add (two_add ha hb)
  · exact two_j1 _ op2_sub (two_sub ha hb)
  · exact two_j1 _ op2_mul (two_mul ha hb)
  · exact two_j1 _ op2_div (two_div ha hb)
  · exact two_j1 _ op2_eq (two_eq ha hb)
  · exact two_j1 _ op2_ne (two_ne ha hb)
  · exact two_j1 _ op2_lt (two_lt ha hb)
  · exact two_j1 _ op2_le (two_le ha hb)
  · exact two_j1 _ op2_gt (two_gt ha hb)
  · exact two_j1 _ op2_ge (two_ge ha hb)
  · exact two_j1 _ op2_and (two_and ha hb)
  · exact two_j1 _ op2_or (two_or ha hb)
omit ha hb in
theorem two_unknown (op : ByteArray) (hk : op ∉ ops12) : tab2.lookup op = none := by
  simp only [ops12, List.mem_cons, List.mem_nil_iff, or_false, not_or] at hk
  obtain ⟨c0, c1, c2, c3, c4, c5, c6, c7, c8, c9, c10, c11⟩ := hk
  unfold tab2
  simp only [List.lookup, ba_ne c0, ba_ne c1, ba_ne c2, ba_ne c3, ba_ne c4, ba_ne c5, ba_ne c6, ba_ne c7, ba_ne c8, ba_ne c9, ba_ne c10, ba_ne c11]
theorem two_loop (op : ByteArray) : ∀ (d i : Nat) (kn : Bool), i + d = 12 → (kn = true → op ∈ ops12) → (kn = false → ∀ x ∈ ops12.take i, x ≠ op) → Ev (fun k => r8_two.l0 k op kn ops12 (i : Int) a.1 a.2 b.1 b.2) (two3 op a b)
  | 0, i, kn, hd, hk, hn => by
    have hi : i = 12 := by omega
    subst hi
    cases kn with
    | true =>
      refine Ev.step (fun k => ?_) (two_known ha hb op (hk rfl))
      simp only [r8_two.l0]
      rw [if_neg (by decide), if_pos trivial]
      by_cases h2 : a.1 = 2
      · rw [if_pos h2, decide_eq_true (show a.1 = 2 ∨ b.1 = 2 from .inl h2)]
      · rw [if_neg h2]
        by_cases g2 : b.1 = 2
        · rw [g2, decide_eq_true (show a.1 = 2 ∨ (2 : Int) = 2 from .inr rfl)]; rfl
        · rw [beq_false_of_ne g2, decide_eq_false (fun h' => h'.elim h2 g2)]
    | false =>
      have hne : op ∉ ops12 := fun hm => hn rfl op (by rw [List.take_of_length_le (by decide)]; exact hm) rfl
      have e : two3 op a b = (0, 0, false) := by unfold two3; rw [two_unknown op hne]
      rw [e]
      refine one_step' fun k => ?_
      simp only [r8_two.l0]
      rw [if_neg (by decide), if_neg (by decide)]
  | d + 1, i, kn, hd, hk, hn => by
    have hl : ops12.length = 12 := rfl
    have hi : i < ops12.length := by omega
    have e1 : wrap64 ((i : Int) + 1) = ((i + 1 : Nat) : Int) := by rw [wrap_id (by omega) (by omega)]; omega
    cases kn with
    | true =>
      refine Ev.step (fun k => ?_) (two_loop op d (i + 1) true (by omega) hk (fun h => by cases h))
      simp only [r8_two.l0, if_true]
      rw [if_pos (by omega), e1]
    | false =>
      by_cases he : ops12[i] = op
      · refine Ev.step (fun k => ?_) (two_loop op d (i + 1) true (by omega) (fun _ => by rw [← he]; exact List.getElem_mem hi) (fun h => by cases h))
        simp only [r8_two.l0]
        rw [if_pos (by omega), if_neg (by decide), if_pos (by omega), rdOf_at hi, e1, he, beq_self_eq_true]
      · refine Ev.step (fun k => ?_) (two_loop op d (i + 1) false (by omega) (fun h => by cases h) (fun _ x hx => ?_))
        · simp only [r8_two.l0]
          rw [if_pos (by omega), if_neg (by decide), if_pos (by omega), rdOf_at hi, e1, beq_false_of_ne (fun h => he (sb_inj.1 h))]
        · rw [List.take_succ_eq_append_getElem hi] at hx
          rcases List.mem_append.1 hx with hx | hx
          · exact hn rfl x hx
          · obtain rfl := List.mem_singleton.1 hx
            exact he
theorem two_ev (op : ByteArray) : Ev (fun k => r8_two.f k op a.1 a.2 b.1 b.2) (two3 op a b) :=
  two_loop ha hb op 12 0 false (by omega) (fun h => by cases h) (fun _ x hx => by simp at hx)
end
/-- The document's Do of a list of values. -/
theorem rdo_ev (op : ByteArray) (l : List S25) (hm : l.length ≤ 4611686018427387904) : Ev (fun k => r8_Do.f k op l) ((vDo op (l.map sv)).1.1, (vDo op (l.map sv)).1.2, (vDo op (l.map sv)).2) := by
  unfold r8_Do.f
  refine Ev.bind (f := fun k t388 => (if t388 = 0 then (if (l.length : Int) = 1 then (if 0 < (l.length : Int) then ((r8_one.f k op ((rd_T25 l 0).f0) ((rd_T25 l 0).f1)).bind fun bt391 => (r8_Do.j0 k op l bt391.2.2 bt391.1 bt391.2.1)) else (none)) else (r8_Do.j0 k op l false 0 0)) else (some (0, 0, 80)))) (check_ev l hm) ?_
  by_cases hb : l.any badV = true
  · have e : vDo op (l.map sv) = ((0, 0), 80) := by unfold vDo; rw [any_sv, if_pos hb]
    rw [e, if_pos hb]
    exact const_ev fun k => by rw [if_neg (by decide)]
  · rw [if_neg hb]
    refine Ev.congr (f := fun k => (if (l.length : Int) = 1 then (if 0 < (l.length : Int) then ((r8_one.f k op ((rd_T25 l 0).f0) ((rd_T25 l 0).f1)).bind fun bt391 => (r8_Do.j0 k op l bt391.2.2 bt391.1 bt391.2.1)) else (none)) else (r8_Do.j0 k op l false 0 0))) (fun k => by rw [if_pos rfl]) ?_
    have other : l.length ≠ 2 → Ev (fun k => r8_Do.j0 k op l false 0 0) (0, 0, 2) := fun h2 => one_step' fun k => by
      simp only [r8_Do.j0]
      rw [if_neg (by omega), if_neg (by decide)]
    match l, hb, other with
    | [], hb, other =>
      have e : vDo op (([] : List S25).map sv) = ((0, 0), 2) := rfl
      rw [e]
      refine Ev.congr (fun k => ?_) (other (by decide))
      rw [if_neg (by decide)]
    | [x], hb, other =>
      have hv : isV (sv x) := by simpa [badV] using hb
      refine Ev.congr (f := fun k => ((r8_one.f k op (sv x).1 (sv x).2).bind fun bt391 => (r8_Do.j0 k op [x] bt391.2.2 bt391.1 bt391.2.1))) (fun k => by rw [if_pos (by simp), if_pos (by simp)]; rfl) ?_
      refine Ev.bind (f := fun k bt391 => (r8_Do.j0 k op [x] bt391.2.2 bt391.1 bt391.2.1)) (one_ev op hv) ?_
      refine one_step' fun k => ?_
      simp only [r8_Do.j0]
      rw [if_neg (by simp)]
      unfold one3 vDo
      rw [any_sv, if_neg hb]
      simp only [List.map]
      cases ht : tab1.lookup op with
      | none => rfl
      | some F => rfl
    | [x, y], hb, other =>
      have hv : isV (sv x) ∧ isV (sv y) := by simpa [badV] using hb
      refine Ev.congr (f := fun k => r8_Do.j0 k op [x, y] false 0 0) (fun k => by rw [if_neg (by simp)]) ?_
      refine Ev.step (f := fun k => ((r8_two.f k op (sv x).1 (sv x).2 (sv y).1 (sv y).2).bind fun bt396 => (if bt396.2.2 = true then (some (bt396.1, bt396.2.1, 0)) else (some (0, 0, 2))))) (fun k => ?_) ?_
      · simp only [r8_Do.j0]
        rw [if_pos (by simp), if_pos (by simp), if_pos (by simp)]; rfl
      · refine Ev.bind (f := fun k bt396 => (if bt396.2.2 = true then (some ((bt396.1, bt396.2.1, 0) : Int × Int × Int)) else (some (0, 0, 2)))) (two_ev hv.1 hv.2 op) ⟨0, fun k _ => ?_⟩
        unfold two3 vDo
        rw [any_sv, if_neg hb]
        simp only [List.map]
        cases ht : tab2.lookup op with
        | none => rfl
        | some F =>
          unfold vTwo
          by_cases hn : (sv x).1 = 2 ∨ (sv y).1 = 2
          · simp [hn]
          · simp [hn]
    | x :: y :: z :: l, hb, other =>
      have e : vDo op ((x :: y :: z :: l).map sv) = ((0, 0), 2) := by unfold vDo; rw [any_sv, if_neg hb]; rfl
      rw [e]
      refine Ev.congr (fun k => ?_) (other (by simp))
      rw [if_neg (by simp; omega)]
end Go.Proofs.YtcmiehddjgfjaaaGreatDoor.A
namespace Go.Proofs.YtcmiehddjgfjaaaGreatDoor.A
open Go.RowKit Go.Proofs.YtcmiehddjgfjaaaGreatDoorW.PrintWords Go.Proofs.YtcmiehddjgfjaaaGreatDoorW.PrintLast Go.Proofs.YtcmiehddjgfjaaaGreatDoorW.PrintMore
attribute [local go_sem] max2_int min2_int max_two min_two max_three min_three max_four min_four   -- for this text's walks alone
set_option linter.unusedVariables false
set_option linter.unusedSimpArgs false
attribute [local go_sem high] eqA25
mutual
def l8_ValueDoes.j0 : Nat → ByteArray → List (S25) → Int → Bool → Option (Bool)
 | 0, _, _, _, _ => none
 | k + 1, x0, x1, x2, x19 => if x19 = true then ((l8_live.f).bind fun t797 => (some t797)) else ((some (([] : List (S25)) : List (S25))).bind fun y798 => (if y798.length + x1.length < 8796093022208 then ((v_Do.f x0 (y798 ++ x1)).bind fun bt804 => ((r8_Do.f k x0 x1).bind fun bt808 => (l8_ValueDoes.l0 k x1 x2 bt804.2.2 bt808.2.2 0 bt804.1 bt804.2.1 bt808.1 bt808.2.1))) else (none)))
def l8_ValueDoes.l0 : Nat → List (S25) → Int → Int → Int → Int → Int → Int → Int → Int → Option (Bool)
 | 0, _, _, _, _, _, _, _, _, _ => none
 | k + 1, x1, x2, x8, x10, x11, x808000, x808001, x812000, x812001 => if x11 < (x1.length : Int) then (if 0 ≤ x11 then ((r8_Is.f ((rd_T25 x1 x11).f0) ((rd_T25 x1 x11).f1)).bind fun t813 => (if t813 = true then ((v_True.f ((rd_T25 x1 x11).f0) ((rd_T25 x1 x11).f1)).bind fun t815 => ((r8_True.f ((rd_T25 x1 x11).f0) ((rd_T25 x1 x11).f1)).bind fun t817 => (if (t815 != t817) = true then (none) else (l8_ValueDoes.l0 k x1 x2 x8 x10 (wrap64 (x11 + 1)) x808000 x808001 x812000 x812001)))) else (l8_ValueDoes.l0 k x1 x2 x8 x10 (wrap64 (x11 + 1)) x808000 x808001 x812000 x812001))) else (none)) else (if (x808000 == x812000 && (x808001 == x812001)) = true then ((l8_num.f x8).bind fun t818 => (if t818 = x10 then ((some (([] : List (S25)) : List (S25))).bind fun y819 => (if y819.length + x1.length < 8796093022208 then ((v_Check.f (y819 ++ x1)).bind fun t825 => ((l8_num.f t825).bind fun t826 => ((r8_Check.f k x1).bind fun t827 => (if t826 = t827 then ((v_Num.f x2).bind fun bt828 => ((r8_Num.f x2).bind fun bt830 => (if (bt828.1 == bt830.1 && (bt828.2 == bt830.2)) = true then ((v_Truth.f (decide (x2 > 0))).bind fun bt832 => ((r8_Truth.f (decide (x2 > 0))).bind fun bt834 => (if (bt832.1 == bt834.1 && (bt832.2 == bt834.2)) = true then ((v_Null.f).bind fun bt836 => ((r8_Null.f).bind fun bt838 => (if (bt836.1 == bt838.1 && (bt836.2 == bt838.2)) = true then ((v_NaN.f).bind fun bt840 => ((r8_NaN.f).bind fun bt842 => (if (bt840.1 == bt842.1 && (bt840.2 == bt842.2)) = true then ((v_Plus.f).bind fun bt844 => ((r8_Plus.f).bind fun bt846 => (if (bt844.1 == bt846.1 && (bt844.2 == bt846.2)) = true then ((v_Minus.f).bind fun bt848 => ((r8_Minus.f).bind fun bt850 => (if (bt848.1 == bt850.1 && (bt848.2 == bt850.2)) = true then ((l8_live.f).bind fun t852 => (some t852)) else (none)))) else (none)))) else (none)))) else (none)))) else (none)))) else (none)))) else (none))))) else (none))) else (none))) else (none))
end
def l8_ValueDoes.f (k : Nat) (a0 : ByteArray) (l1 : List (S25)) (a2 : Int) : Option (Bool) := if (l1.length : Int) > 100 then (l8_ValueDoes.j0 k a0 l1 a2 true) else (l8_ValueDoes.j0 k a0 l1 a2 (decide ((a0.size : Int) > 20000)))
theorem l8_ValueDoes.mono_l : ∀ k, (∀ y0 y1 y2 y3, LeO (l8_ValueDoes.j0 k y0 y1 y2 y3) (l8_ValueDoes.j0 (k + 1) y0 y1 y2 y3)) ∧ (∀ y0 y1 y2 y3 y4 y5 y6 y7 y8, LeO (l8_ValueDoes.l0 k y0 y1 y2 y3 y4 y5 y6 y7 y8) (l8_ValueDoes.l0 (k + 1) y0 y1 y2 y3 y4 y5 y6 y7 y8))
 | 0 => ⟨fun _ _ _ _ r h => by simp [l8_ValueDoes.j0] at h, fun _ _ _ _ _ _ _ _ _ r h => by simp [l8_ValueDoes.l0] at h⟩
 | k + 1 => by
  obtain ⟨ih0, ih1⟩ := l8_ValueDoes.mono_l k
  refine ⟨?_, ?_⟩
  ·intro y0 y1 y2 y3
   unfold l8_ValueDoes.j0
   repeat' first
   | (with_reducible exact ih0 _ _ _ _)
   | (with_reducible exact ih1 _ _ _ _ _ _ _ _ _)
   | (with_reducible exact r8_Check.mono _ _)
   | (with_reducible exact r8_Do.mono _ _ _)
   | (with_reducible exact LeO.refl _)
   | (with_reducible exact LeO.none _)
   | (with_reducible refine LeO.ite ?_ ?_)
   | (with_reducible refine LeO.bind ?_ (fun _ => ?_))
   | exact ih0 _ _ _ _
   | exact ih1 _ _ _ _ _ _ _ _ _
   | exact r8_Check.mono _ _
   | exact r8_Do.mono _ _ _
   | exact LeO.none _
   | refine LeO.ite ?_ ?_
   | refine LeO.bind ?_ (fun _ => ?_)
  ·intro y0 y1 y2 y3 y4 y5 y6 y7 y8
   unfold l8_ValueDoes.l0
   repeat' first
   | (with_reducible exact ih0 _ _ _ _)
   | (with_reducible exact ih1 _ _ _ _ _ _ _ _ _)
   | (with_reducible exact r8_Check.mono _ _)
   | (with_reducible exact r8_Do.mono _ _ _)
   | (with_reducible exact LeO.refl _)
   | (with_reducible exact LeO.none _)
   | (with_reducible refine LeO.ite ?_ ?_)
   | (with_reducible refine LeO.bind ?_ (fun _ => ?_))
   | exact ih0 _ _ _ _
   | exact ih1 _ _ _ _ _ _ _ _ _
   | exact r8_Check.mono _ _
   | exact r8_Do.mono _ _ _
   | exact LeO.none _
   | refine LeO.ite ?_ ?_
   | refine LeO.bind ?_ (fun _ => ?_)
theorem l8_ValueDoes.mono : ∀ a0 a1 a2 k, LeO (l8_ValueDoes.f k a0 a1 a2) (l8_ValueDoes.f (k + 1) a0 a1 a2) := by
 intro a0 a1 a2 k
 obtain ⟨ih0, ih1⟩ := l8_ValueDoes.mono_l k
 unfold l8_ValueDoes.f
 repeat' first
   | (with_reducible exact ih0 _ _ _ _)
   | (with_reducible exact ih1 _ _ _ _ _ _ _ _ _)
   | (with_reducible exact r8_Check.mono _ _)
   | (with_reducible exact r8_Do.mono _ _ _)
   | (with_reducible exact LeO.refl _)
   | (with_reducible exact LeO.none _)
   | (with_reducible refine LeO.ite ?_ ?_)
   | (with_reducible refine LeO.bind ?_ (fun _ => ?_))
   | exact ih0 _ _ _ _
   | exact ih1 _ _ _ _ _ _ _ _ _
   | exact r8_Check.mono _ _
   | exact r8_Do.mono _ _ _
   | exact LeO.none _
   | refine LeO.ite ?_ ?_
   | refine LeO.bind ?_ (fun _ => ?_)
def l8_ValueDoes.T8 : Bool × List (List Nat × List Nat) := (true, [([], []), ([], []), ([0, 1], [0, 1]), ([2], [2]), ([3], [3]), ([4, 4], [4]), ([5], [5]), ([5], [5]), ([6, 7, 5], [5, 6, 7]), ([8, 5], [5, 8]), ([9, 5, 5], [5, 9]), ([5], [5]), ([5], [5]), ([11, 12, 5], [5, 11, 12]), ([13, 5], [5, 13]), ([14, 10, 5], [5, 14]), ([10, 15, 5], [5, 10, 15]), ([5, 16], [5, 16])])
def l8_ValueDoes.B8 : List Nat := [0, 0, 3, 7, 15, 31, 63, 63, 255, 511, 1023, 63, 63, 6207, 14399, 32767, 65535, 131071]
theorem l8_ValueDoes.tab8 : rtab .any (opsOf Tryz.f3 8) = l8_ValueDoes.T8 := by kernel_rfl
theorem l8_ValueDoes.bits8 : waitsOk l8_ValueDoes.T8.2 l8_ValueDoes.B8 = true := by kernel_rfl
set_option maxHeartbeats 8000000 in
set_option maxRecDepth 100000 in
theorem l8_ValueDoes.calls (k : Nat) (a0 : ByteArray) (A1 : Option Addr) (c1 : Nat) (l1 : List (S25)) (a2 : Int) (r : Bool) (w : World) (hr1 : Kd.C k25 w A1 l1.length l1) (hc1 : l1.length ≤ c1) (h : l8_ValueDoes.f k a0 l1 a2 = some r) (G : Glob w) :
  Calls Tryz.prog 3 #[.string a0, .slice A1 l1.length c1, .int .i64 a2] w fun e w' => e = .returned (.bool r) ∧ Below w.heap.size w w' := by
 have hu25 := Tryz.underlying25
 have HR1 := Sd.mk hr1
 have HC1 := Sd.mk hc1
 clear hr1 hc1
 have HB := Sd.mk (Below.refl w.heap.size w)
 have HG := Sd.mk G
 clear G
 have H : (if (l1.length : Int) > 100 then (l8_ValueDoes.j0 k a0 l1 a2 true) else (l8_ValueDoes.j0 k a0 l1 a2 (decide ((a0.size : Int) > 20000)))) = some r := h
 clear h
 have HC4 := Sd.mk H
 clear H
 go_enter Tryz.func3, Tryz.ntmps3
 go_upto_region 1 with (fail)
 go_cut [19] (fun v19 wc => ∃ (kq : Nat) (x19_3 : Bool), v19 = .bool x19_3 ∧ Sd (l8_ValueDoes.j0 kq a0 l1 a2 x19_3 = some r) ∧ Sd (kq ≤ k) ∧ Sd (Below w.heap.size w wc))
 case first =>
  have H := HC4.out
  clear HC4
  by_cases c5 : (l1.length : Int) > 100
  ·rw [if_pos c5] at H
   have c5b0 : decide (100 < (l1.length : Int)) = true := decide_eq_true c5
   have c5b1 : decide (100 < l1.length) = true := decide_eq_true (by omega)
   clear c5
   (first | rw [c5b0] | (simp only [i64_w, i32_w]; rw [c5b0]) | skip)
   have H' := Sd.mk H
   clear H
   go_wp2
   go_meet
   case rel => exact ⟨_, (true), (by first | rfl | (simp; done) | (simp [*]; done)), H', ⟨by first | omega | exact Nat.le_refl _⟩, ⟨by repeat (first | (with_reducible first | exact HB.out | apply bal | apply pbd | apply bd1) | exact HB.out)⟩⟩
  ·rw [if_neg c5] at H
   have c5b0 : decide (100 < (l1.length : Int)) = false := decide_eq_false c5
   have c5b1 : decide (100 < l1.length) = false := decide_eq_false (by omega)
   clear c5
   (first | rw [c5b0] | (simp only [i64_w, i32_w]; rw [c5b0]) | skip)
   have H' := Sd.mk H
   clear H
   go_wp2
   go_meet
   case rel => exact ⟨_, (decide ((a0.size : Int) > 20000)), (by first | rfl | (simp; done) | (simp [*]; done)), H', ⟨by first | omega | exact Nat.le_refl _⟩, ⟨by repeat (first | (with_reducible first | exact HB.out | apply bal | apply pbd | apply bd1) | exact HB.out)⟩⟩
 case rest =>
  clear HC4
  try clear c1
  try clear p2
  try clear c3
  try clear c5
  try clear c5b0
  try clear c5b1
  obtain ⟨kq, x19_3, rfl, HA, HJ3, HB⟩ := hcut
  cases kq with
  | zero => exact absurd HA.out (by simp [l8_ValueDoes.j0])
  | succ kj3 =>
   have H := HA.out
   clear HA
   simp only [l8_ValueDoes.j0] at H
   by_cases c6 : x19_3 = true
   ·subst c6
    have H1 : ((l8_live.f).bind fun t797 => (some t797)) = some r := by rw [if_pos rfl] at H; exact H
    clear H
    have H := H1
    clear H1
    replace H := Option.bind_eq_some_iff.mp H
    obtain ⟨t797, A70, H⟩ := H
    replace H : (some t797) = some r := H
    have A7 := Sd.mk A70
    clear A70
    obtain rfl := Option.some.inj H
    go_wp2_with (first | ((with_reducible refine gate_callee (f := 10) rfl ?_); refine goesL_ (some 20) rfl rfl Tryz.func10 (by kernel_rfl) rfl #[] rfl (by (try simp only [List.map_toArray, List.map_cons, List.map_nil]); first | done | rfl | (simp only [List.length_drop, List.length_take]; rfl)) ?_; (with_reducible refine (l8_live.calls  t797 _ A7.out (HG.out.below (by exact blwF HB.out))).mono ?_); rintro e w8 ⟨rfl, hb⟩; refine ⟨_, rfl, ?_⟩; have n0_ := Sd.mk (below_step (by exact blwF HB.out) hb); clear HB; have HB := n0_; clear n0_; (try clear hb); (try clear hb2); (try clear hk); (try clear hi)))
    go_ret
    exact ⟨by first | rfl | (simp [errW_none, errW_some] <;> rfl) | (simp [*, errW_none, errW_some] <;> rfl), by repeat (first | (with_reducible first | exact HB.out | apply bal | apply pbd | apply bd1) | exact HB.out)⟩
   ·replace c6 := Bool.eq_false_iff.mpr c6
    subst c6
    have H1 : ((some (([] : List (S25)) : List (S25))).bind fun y798 => (if y798.length + l1.length < 8796093022208 then ((v_Do.f a0 (y798 ++ l1)).bind fun bt804 => ((r8_Do.f kj3 a0 l1).bind fun bt808 => (l8_ValueDoes.l0 kj3 l1 a2 bt804.2.2 bt808.2.2 0 bt804.1 bt804.2.1 bt808.1 bt808.2.1))) else (none))) = some r := by rw [if_neg (show ¬ (false = true) by decide)] at H; exact H
    clear H
    have H := H1
    clear H1
    obtain ⟨y798, hy798⟩ : ∃ y_ : List (S25), y_ = (([] : List (S25))) := ⟨_, rfl⟩
    replace H : (if y798.length + l1.length < 8796093022208 then ((v_Do.f a0 (y798 ++ l1)).bind fun bt804 => ((r8_Do.f kj3 a0 l1).bind fun bt808 => (l8_ValueDoes.l0 kj3 l1 a2 bt804.2.2 bt808.2.2 0 bt804.1 bt804.2.1 bt808.1 bt808.2.1))) else (none)) = some r := by first | (rw [hy798]; with_reducible exact H) | (have H2_ := (Option.bind_some _ _).symm.trans H; rw [hy798]; with_reducible exact H2_) | (have H2_ := (Option.bind_some _ _).symm.trans H; with_reducible exact H2_) | with_reducible exact H | (rw [hy798]; exact H) | exact H
    have Ny798 := Sd.mk hy798
    clear hy798
    by_cases c9 : y798.length + l1.length < 8796093022208
    ·rw [if_pos c9] at H
     have LMc9 := Sd.mk c9
     clear c9
     obtain ⟨y801, hy801⟩ : ∃ y_ : List (S25), y_ = (y798 ++ l1) := ⟨_, rfl⟩
     replace H : ((v_Do.f a0 y801).bind fun bt804 => ((r8_Do.f kj3 a0 l1).bind fun bt808 => (l8_ValueDoes.l0 kj3 l1 a2 bt804.2.2 bt808.2.2 0 bt804.1 bt804.2.1 bt808.1 bt808.2.1))) = some r := by first | (rw [hy801]; with_reducible exact H) | (have H2_ := (Option.bind_some _ _).symm.trans H; rw [hy801]; with_reducible exact H2_) | (have H2_ := (Option.bind_some _ _).symm.trans H; with_reducible exact H2_) | with_reducible exact H | (rw [hy801]; exact H) | exact H
     have Ny801 := Sd.mk hy801
     clear hy801
     replace H := Option.bind_eq_some_iff.mp H
     obtain ⟨⟨t804, t805, t806⟩, A100, H⟩ := H
     replace H : ((r8_Do.f kj3 a0 l1).bind fun bt808 => (l8_ValueDoes.l0 kj3 l1 a2 t806 bt808.2.2 0 t804 t805 bt808.1 bt808.2.1)) = some r := H
     have A10 := Sd.mk A100
     clear A100
     replace H := Option.bind_eq_some_iff.mp H
     obtain ⟨⟨t808, t809, t810⟩, A110, H⟩ := H
     replace H : (l8_ValueDoes.l0 kj3 l1 a2 t806 t810 0 t804 t805 t808 t809) = some r := H
     have A11 := Sd.mk A110
     clear A110
     have H' := Sd.mk H
     clear H
     go_wp2_with (first | ((with_reducible refine gate_dst (N := 23) rfl ?_); (try (refine gate_guard (by rfl) ?_; dsimp only)); refine Kd.R_lit k25 _ 25 ?hg (N := 23) ?hd (xs := ([] : List (S25))) (inner := []) (ok := fun _ => True) (okp := fun _ => True) ?hr ?hp (fun _ hk => hk) trivial (Below.refl _ _) (Nat.le_refl _) (by simp) ?_; (case hd => rfl); (case hg => rfl); (case hr => first | (go_simp; done) | (go_simp; rfl)); (case hp => exact (Reps.none _ _)); intro v799 w12 ho13 hb hg_ hnew_; clear hg_ hnew_; (first | rw [← Ny798.out] at ho13 | (simp only [Int.reduceToNat] at ho13; rw [← Ny798.out] at ho13)); have n0_ := Sd.mk (Kd.R_lower ho13 (below_size (by exact blwF HB.out))); have n1_ := Sd.mk (below_step (by exact blwF HB.out) hb); clear HB; have HO800 := n0_; have HB := n1_; clear n0_ n1_; clear hb ho13) | ((with_reducible refine gate_builtin (b := .append) (xs := #[.tmp 23, .tmp 24]) rfl ?_); (try (refine gate_guard (by rfl) ?_; dsimp only)); at_builtin; refine Kd.R_append_rows k25 (w0 := w) w.heap.size rfl (.tmp 23) (.tmp 24) 22 25 (.agg #[(.int .i64 0), (.int .i64 0)]) 16 rfl Tryz.underlying22 info25 rfl (by decide) (by omega) v799 y798 l1 _ _ _ (fun _ => True) (fun _ => False) rfl rfl ?aO ?aR (fun _ _ h => h) (fun _ h => h.elim) ?aF ?aB ?aS ?aL ?_; (case aR => repeat (first | exact (Kd.C_below HR1.out HB.out) | (with_reducible refine Kd.C_alloc ?_ _) | (with_reducible refine Kd.C_drewN ?_ _) | (with_reducible refine Kd.C_drew ?_))); (case aB => exact (by exact blwF HB.out)); (case aF => exact (fun _ _ => trivial)); (case aO => exact (by (with_reducible repeat (first | apply Kd.R_alloc | apply Kd.R_drewN | apply Kd.R_drew)); exact HO800.out)); (case aS => exact (below_size (by exact blwF HB.out))); (case aL => have := LMc9.out; omega); intro v802 w14 ho hb hg hat; rw [← Ny801.out] at ho; have n0_ := Sd.mk (hb); have n1_ := Sd.mk (ho); clear HB; clear HO800; have HB := n0_; have HO803 := n1_; clear n0_ n1_; clear ho hb hg hat; obtain ⟨Ao15, co15, eo15⟩ := Kd.R_slice HO803.out; subst eo15) | ((with_reducible refine gate_callee (f := 11) rfl ?_); refine goesL_ (some 26) rfl rfl Tryz.func11 (by kernel_rfl) rfl #[.string a0, .slice Ao15 y801.length co15] rfl (by (try simp only [List.map_toArray, List.map_cons, List.map_nil]); first | done | rfl | (simp only [List.length_drop, List.length_take]; rfl)) ?_; (with_reducible refine (v_Do.calls a0 _ _ y801 t804 t805 t806 _ ?side1 ?side2 A10.out).mono ?_); (case side1 => repeat (first | exact (Kd.R_reads' HO803.out).2.2 | (with_reducible refine Kd.C_alloc ?_ _) | (with_reducible refine Kd.C_drewN ?_ _) | (with_reducible refine Kd.C_drew ?_))); (case side2 => exact (Kd.R_reads' HO803.out).2.1); rintro e w16 ⟨rfl, hb⟩; refine ⟨_, rfl, ?_⟩; have n0_ := Sd.mk (Kd.R_below (by (with_reducible repeat (first | apply Kd.R_alloc | apply Kd.R_drewN | apply Kd.R_drew)); exact HO803.out) hb); have n1_ := Sd.mk (below_step (by exact blwF HB.out) hb); clear HO803; clear HB; have HO803 := n0_; have HB := n1_; clear n0_ n1_; (try clear hb); (try clear hb2); (try clear hk); (try clear hi)) | ((with_reducible refine gate_dst (N := 7) rfl ?_); (try (refine gate_guard (by rfl) ?_; dsimp only)); refine box_event ?hg (N := 7) ?hd (cs := #[.int .i64 0, .int .i64 0]) (t := 25) ?hr ?_; (case hd => rfl); (case hg => rfl); (case hr => first | (go_simp; done) | (go_simp; rfl)); intro gb807 hg w17 hbox hb; have n0_ := Sd.mk (Kd.R_below (Kd.R_elderB (by (with_reducible repeat (first | apply Kd.R_alloc | apply Kd.R_drewN | apply Kd.R_drew)); exact HO803.out) gb807 (Nat.le_of_eq hg.symm)) hb); have n1_ := Sd.mk (below_step (by exact blwF HB.out) hb); have n2_ := Sd.mk (hbox); have n3_ := Sd.mk ((by rw [hg]; exact (below_size (by exact blwF HB.out)) : w.heap.size ≤ gb807)); have n4_ := Sd.mk ((by rw [hg]; exact (below_size (by exact blwF HB.out)) : w.heap.size ≤ gb807)); clear HO803; clear HB; have HO803 := n0_; have HB := n1_; have BK807 := n2_; have GW807 := n3_; have GE807 := n4_; clear n0_ n1_ n2_ n3_ n4_; clear hb hbox hg; have hcz18_0 : w17.cell? ⟨gb807, 0, none⟩ = some (.int .i64 0) := (blk_cell BK807.out 0).trans rfl; have hcz18_1 : w17.cell? ⟨gb807, 1, none⟩ = some (.int .i64 0) := (blk_cell BK807.out 1).trans rfl; have hfz18_0 := blk_frozen BK807.out 0; have hfz18_1 := blk_frozen BK807.out 1) | ((with_reducible refine gate_callee (f := 12) rfl ?_); refine goesL_ (some 32) rfl rfl Tryz.func12 (by kernel_rfl) rfl #[.string a0, .slice A1 l1.length c1] rfl (by (try simp only [List.map_toArray, List.map_cons, List.map_nil]); first | done | rfl | (simp only [List.length_drop, List.length_take]; rfl)) ?_; (with_reducible refine (r8_Do.calls kj3 a0 _ _ l1 t808 t809 t810 _ ?side1 ?side2 A11.out).mono ?_); (case side1 => exact Kd.C_below HR1.out (by repeat (first | (with_reducible first | exact HB.out | apply bal | apply pbd | apply bd1 | refine bst ?_ GE807.out) | exact HB.out))); (case side2 => exact HC1.out); rintro e w19 ⟨rfl, hb⟩; refine ⟨_, rfl, ?_⟩; have n0_ := Sd.mk (Kd.R_below (by (with_reducible repeat (first | apply Kd.R_alloc | apply Kd.R_drewN | apply Kd.R_drew)); exact (Kd.R_mono (Kd.R_far (p := ⟨gb807, 1, none⟩) (Kd.R_far (p := ⟨gb807, 0, none⟩) (Kd.R_mono HO803.out (fun k_ hk => (⟨hk, hk.2⟩ : _ ∧ k_ ≠ gb807))) (fun _ hk => hk.2) (.int .i64 t804)) (fun _ hk => hk.2) (.int .i64 t805)) (fun _ h_ => h_.1))) hb); have n1_ := Sd.mk (blk_below (g := gb807) (o := .cells #[.int .i64 t804, .int .i64 t805] 25 (0, 0)) (by (with_reducible repeat (first | refine blk_drewN ?_ _ | refine blk_drew ?_ | refine blk_alloc ?_ _)); refine blk_put (cs := #[.int .i64 t804, .int .i64 0]) ?_ 1 _ rfl; (with_reducible repeat (first | refine blk_drewN ?_ _ | refine blk_drew ?_ | refine blk_alloc ?_ _)); refine blk_put (cs := #[.int .i64 0, .int .i64 0]) ?_ 0 _ rfl; (with_reducible repeat (first | refine blk_drewN ?_ _ | refine blk_drew ?_ | refine blk_alloc ?_ _)); exact BK807.out) hb); have n2_ := Sd.mk (below_step (by repeat (first | (with_reducible first | exact HB.out | apply bal | apply pbd | apply bd1 | refine bst ?_ GE807.out) | exact HB.out)) hb); clear HO803; clear BK807; clear HB; have HO803 := n0_; have BK807 := n1_; have HB := n2_; clear n0_ n1_ n2_; (try clear hb); (try clear hb2); (try clear hk); (try clear hi)) | ((with_reducible refine gate_dst (N := 9) rfl ?_); (try (refine gate_guard (by rfl) ?_; dsimp only)); refine box_event ?hg (N := 9) ?hd (cs := #[.int .i64 0, .int .i64 0]) (t := 25) ?hr ?_; (case hd => rfl); (case hg => rfl); (case hr => first | (go_simp; done) | (go_simp; rfl)); intro gb811 hg w20 hbox hb; have n0_ := Sd.mk (Kd.R_below (Kd.R_elderB (by (with_reducible repeat (first | apply Kd.R_alloc | apply Kd.R_drewN | apply Kd.R_drew)); exact HO803.out) gb811 (Nat.le_of_eq hg.symm)) hb); have n1_ := Sd.mk (blk_below (g := gb807) (o := .cells #[.int .i64 t804, .int .i64 t805] 25 (0, 0)) (by exact blkF BK807.out) hb); have n2_ := Sd.mk (below_step (by repeat (first | (with_reducible first | exact HB.out | apply bal | apply pbd | apply bd1 | refine bst ?_ GE807.out) | exact HB.out)) hb); have n3_ := Sd.mk (hbox); have n4_ := Sd.mk ((by rw [hg]; exact (below_size (by repeat (first | (with_reducible first | exact HB.out | apply bal | apply pbd | apply bd1 | refine bst ?_ GE807.out) | exact HB.out))) : w.heap.size ≤ gb811)); have n5_ := Sd.mk ((by rw [hg]; exact (below_size (by repeat (first | (with_reducible first | exact HB.out | apply bal | apply pbd | apply bd1 | refine bst ?_ GE807.out) | exact HB.out))) : w.heap.size ≤ gb811)); have n6_ := Sd.mk ((by rw [hg]; exact Nat.ne_of_lt (blk_lt (g := gb807) (o := .cells #[.int .i64 t804, .int .i64 t805] 25 (0, 0)) (by exact blkF BK807.out)) : gb807 ≠ gb811)); have n7_ := Sd.mk ((by rw [hg]; exact Nat.ne_of_gt (blk_lt (g := gb807) (o := .cells #[.int .i64 t804, .int .i64 t805] 25 (0, 0)) (by exact blkF BK807.out)) : gb811 ≠ gb807)); clear HO803; clear BK807; clear HB; have HO803 := n0_; have BK807 := n1_; have HB := n2_; have BK811 := n3_; have GW811 := n4_; have GE811 := n5_; have NB807_811 := n6_; have NB811_807 := n7_; clear n0_ n1_ n2_ n3_ n4_ n5_ n6_ n7_; clear hb hbox hg; have hnb21 := NB811_807.out; have hnc21 := NB807_811.out; have hcz22_0 : w20.cell? ⟨gb811, 0, none⟩ = some (.int .i64 0) := (blk_cell BK811.out 0).trans rfl; have hcz22_1 : w20.cell? ⟨gb811, 1, none⟩ = some (.int .i64 0) := (blk_cell BK811.out 1).trans rfl; have hfz22_0 := blk_frozen BK811.out 0; have hfz22_1 := blk_frozen BK811.out 1))
     go_loopg [11] kj3 (fun kq v11 w' => ∃ (x11_2 : Int), v11 = .int .i64 x11_2 ∧ Sd (l8_ValueDoes.l0 kq l1 a2 t806 t810 x11_2 t804 t805 t808 t809 = some r) ∧ Sd (kq ≤ kj3) ∧ Sd (w'.heap[gb807]? = some (.cells #[.int .i64 t804, .int .i64 t805] 25 (0, 0))) ∧ Sd (w'.heap[gb811]? = some (.cells #[.int .i64 t808, .int .i64 t809] 25 (0, 0))) ∧ Sd (Below w.heap.size w w'))
     case atStart => exact ⟨(0), (by first | rfl | (simp; done) | (simp [*]; done)), H', ⟨Nat.le_refl _⟩, ⟨by (with_reducible repeat (first | refine blk_drewN ?_ _ | refine blk_drew ?_ | refine blk_alloc ?_ _)); refine blk_far ?_ NB807_811.out _; (with_reducible repeat (first | refine blk_drewN ?_ _ | refine blk_drew ?_ | refine blk_alloc ?_ _)); refine blk_far ?_ NB807_811.out _; (with_reducible repeat (first | refine blk_drewN ?_ _ | refine blk_drew ?_ | refine blk_alloc ?_ _)); exact BK807.out⟩, ⟨by (with_reducible repeat (first | refine blk_drewN ?_ _ | refine blk_drew ?_ | refine blk_alloc ?_ _)); refine blk_put (cs := #[.int .i64 t808, .int .i64 0]) ?_ 1 _ rfl; (with_reducible repeat (first | refine blk_drewN ?_ _ | refine blk_drew ?_ | refine blk_alloc ?_ _)); refine blk_put (cs := #[.int .i64 0, .int .i64 0]) ?_ 0 _ rfl; (with_reducible repeat (first | refine blk_drewN ?_ _ | refine blk_drew ?_ | refine blk_alloc ?_ _)); exact BK811.out⟩, ⟨by repeat (first | (with_reducible first | exact HB.out | apply bal | apply pbd | apply bd1 | refine bst ?_ GE807.out | refine bst ?_ GE811.out) | exact HB.out)⟩⟩
     case round =>
      clear H'
      try clear c1
      try clear c2
      try clear p2
      try clear c3
      try clear c5
      try clear c5b0
      try clear c5b1
      try clear c6
      try clear c9
      try clear c10
      try clear c11
      try clear c12
      try clear c21
      try clear hcz18_0
      try clear hcz18_1
      try clear hcz22_0
      try clear hcz22_1
      try clear hfz18_0
      try clear hfz18_1
      try clear hfz22_0
      try clear hfz22_1
      try clear p2
      obtain ⟨x11_2, rfl, HA, HK2, BK807, BK811, HB⟩ := hrel
      cases gk with
      | zero => exact absurd HA.out (by simp [l8_ValueDoes.l0])
      | succ k2 =>
       have H := HA.out
       clear HA
       simp only [l8_ValueDoes.l0] at H
       by_cases c23 : x11_2 < (l1.length : Int)
       ·rw [if_pos c23] at H
        have c23b0 : decide (x11_2 < (l1.length : Int)) = true := decide_eq_true c23
        clear c23
        by_cases c24 : 0 ≤ x11_2
        ·rw [if_pos c24] at H
         have c24b0 : decide (0 ≤ x11_2) = true := decide_eq_true c24
         clear c24
         replace H := Option.bind_eq_some_iff.mp H
         obtain ⟨t813, A250, H⟩ := H
         replace H : (if t813 = true then ((v_True.f ((rd_T25 l1 x11_2).f0) ((rd_T25 l1 x11_2).f1)).bind fun t815 => ((r8_True.f ((rd_T25 l1 x11_2).f0) ((rd_T25 l1 x11_2).f1)).bind fun t817 => (if (t815 != t817) = true then (none) else (l8_ValueDoes.l0 k2 l1 a2 t806 t810 (wrap64 (x11_2 + 1)) t804 t805 t808 t809)))) else (l8_ValueDoes.l0 k2 l1 a2 t806 t810 (wrap64 (x11_2 + 1)) t804 t805 t808 t809)) = some r := H
         have A25 := Sd.mk A250
         clear A250
         by_cases c26 : t813 = true
         ·subst c26
          have H1 : ((v_True.f ((rd_T25 l1 x11_2).f0) ((rd_T25 l1 x11_2).f1)).bind fun t815 => ((r8_True.f ((rd_T25 l1 x11_2).f0) ((rd_T25 l1 x11_2).f1)).bind fun t817 => (if (t815 != t817) = true then (none) else (l8_ValueDoes.l0 k2 l1 a2 t806 t810 (wrap64 (x11_2 + 1)) t804 t805 t808 t809)))) = some r := by rw [if_pos rfl] at H; exact H
          clear H
          have H := H1
          clear H1
          replace H := Option.bind_eq_some_iff.mp H
          obtain ⟨t815, A270, H⟩ := H
          replace H : ((r8_True.f ((rd_T25 l1 x11_2).f0) ((rd_T25 l1 x11_2).f1)).bind fun t817 => (if (t815 != t817) = true then (none) else (l8_ValueDoes.l0 k2 l1 a2 t806 t810 (wrap64 (x11_2 + 1)) t804 t805 t808 t809))) = some r := H
          have A27 := Sd.mk A270
          clear A270
          replace H := Option.bind_eq_some_iff.mp H
          obtain ⟨t817, A280, H⟩ := H
          replace H : (if (t815 != t817) = true then (none) else (l8_ValueDoes.l0 k2 l1 a2 t806 t810 (wrap64 (x11_2 + 1)) t804 t805 t808 t809)) = some r := H
          have A28 := Sd.mk A280
          clear A280
          by_cases c29 : (t815 != t817) = true
          ·rw [if_pos c29] at H; cases H
          ·rw [if_neg c29] at H
           have c29b0 : (t815 != t817) = false := by simpa using c29
           (try (have c29b1 : decide (t815 = t817) = true := by simpa using c29))
           (try (have c29b2 : (t815 == t817) = true := by simpa using c29))
           clear c29
           have H' := Sd.mk H
           clear H
           try go_wp2
           have n0_ := Sd.mk (blk_drew BK807.out)
           have n1_ := Sd.mk (blk_drew BK811.out)
           have n2_ := Sd.mk (bd1 HB.out)
           clear BK807
           clear BK811
           clear HB
           have BK807 := n0_
           have BK811 := n1_
           have HB := n2_
           clear n0_ n1_ n2_
           have p812 : 0 ≤ (x11_2 : Int) := of_decide_eq_true (by first | (with_reducible assumption) | assumption)
           have q812 : x11_2 < (l1.length : Int) := of_decide_eq_true (by first | (with_reducible assumption) | assumption)
           obtain ⟨ad812, e812, hx812_0, hx812_1⟩ := at_T25 HR1.out x11_2 p812 q812
           have hw812_1 := hx812_1
           have hw812_0 := hx812_0
           cases e812
           replace hx812_0 := (HB.out.cell (World.block_lt_of_cell? w _ hx812_0)).trans hx812_0
           replace hx812_1 := (HB.out.cell (World.block_lt_of_cell? w _ hx812_1)).trans hx812_1
           replace p812 := eq_true p812
           replace q812 := eq_true q812
           have p814 : 0 ≤ (x11_2 : Int) := of_decide_eq_true (by first | (with_reducible assumption) | assumption)
           have q814 : x11_2 < (l1.length : Int) := of_decide_eq_true (by first | (with_reducible assumption) | assumption)
           obtain ⟨ad814, e814, hx814_0, hx814_1⟩ := at_T25 HR1.out x11_2 p814 q814
           have hw814_1 := hx814_1
           have hw814_0 := hx814_0
           obtain rfl : ad812 = ad814 := (by injection e814)
           replace hx814_0 := (HB.out.cell (World.block_lt_of_cell? w _ hx814_0)).trans hx814_0
           replace hx814_1 := (HB.out.cell (World.block_lt_of_cell? w _ hx814_1)).trans hx814_1
           replace p814 := eq_true p814
           replace q814 := eq_true q814
           have p816 : 0 ≤ (x11_2 : Int) := of_decide_eq_true (by first | (with_reducible assumption) | assumption)
           have q816 : x11_2 < (l1.length : Int) := of_decide_eq_true (by first | (with_reducible assumption) | assumption)
           obtain ⟨ad816, e816, hx816_0, hx816_1⟩ := at_T25 HR1.out x11_2 p816 q816
           have hw816_1 := hx816_1
           have hw816_0 := hx816_0
           obtain rfl : ad812 = ad816 := (by injection e816)
           replace hx816_0 := (HB.out.cell (World.block_lt_of_cell? w _ hx816_0)).trans hx816_0
           replace hx816_1 := (HB.out.cell (World.block_lt_of_cell? w _ hx816_1)).trans hx816_1
           replace p816 := eq_true p816
           replace q816 := eq_true q816
           refine start_ (n := 18) (S := fun w' => w'.cell? (ad812.add ((x11_2).toNat * 2)) = some (.int .i64 ((rd_T25 l1 x11_2).f0)) ∧ w'.cell? ⟨(ad812.add ((x11_2).toNat * 2)).block, (ad812.add ((x11_2).toNat * 2)).off + 1, none⟩ = some (.int .i64 ((rd_T25 l1 x11_2).f1)) ∧ w'.cell? (ad812.add ((x11_2).toNat * 2)) = some (.int .i64 ((rd_T25 l1 x11_2).f0)) ∧ w'.cell? ⟨(ad812.add ((x11_2).toNat * 2)).block, (ad812.add ((x11_2).toNat * 2)).off + 1, none⟩ = some (.int .i64 ((rd_T25 l1 x11_2).f1)) ∧ w'.cell? (ad812.add ((x11_2).toNat * 2)) = some (.int .i64 ((rd_T25 l1 x11_2).f0)) ∧ w'.cell? ⟨(ad812.add ((x11_2).toNat * 2)).block, (ad812.add ((x11_2).toNat * 2)).off + 1, none⟩ = some (.int .i64 ((rd_T25 l1 x11_2).f1))) (ds := []) #[false, false, false, false, false, false, false, false, false, false, false, false, false, false, false, false, false, false] (by kernel_rfl) rfl rfl ⟨((HB.out.cell (World.block_lt_of_cell? w _ hw812_0)).trans hw812_0), ((HB.out.cell (World.block_lt_of_cell? w _ hw812_1)).trans hw812_1), ((HB.out.cell (World.block_lt_of_cell? w _ hw814_0)).trans hw814_0), ((HB.out.cell (World.block_lt_of_cell? w _ hw814_1)).trans hw814_1), ((HB.out.cell (World.block_lt_of_cell? w _ hw816_0)).trans hw816_0), ((HB.out.cell (World.block_lt_of_cell? w _ hw816_1)).trans hw816_1)⟩ (fun hHeld => ?_); refine with_tabW l8_ValueDoes.tab8 l8_ValueDoes.bits8 (fun HT_ HW_ => ?_)
           generalize wr.drew = w34 at BK807 BK811 HB hx812_0 hx812_1 hx814_0 hx814_1 hx816_0 hx816_1 hHeld ⊢
           refine pure_ (i := 0) (N := some 41) (v := ?_) (a' := ?_) #[true, false, false, false, false, false, false, false, false, false, false, false, false, false, false, false, false, false] rfl rfl (any_of HT_.out (by kernel_rfl)) (fun _ _ _ h => h) (Or.inl ⟨by rfl, ?_⟩) ?_ ?_
           rotate_left
           ·intro w'
            go_simp
            with_reducible rfl
           rotate_left
           ·simp only [Act.put, List.setIfInBounds_toArray, List.set_cons_zero, List.set_cons_succ, i64_w, i32_w]
            rfl
           refine pure_ (i := 1) (N := some 42) (v := ?_) (a' := ?_) #[true, true, false, false, false, false, false, false, false, false, false, false, false, false, false, false, false, false] rfl rfl (any_of HT_.out (by kernel_rfl)) (fun _ _ _ h => h) (Or.inl ⟨by rfl, ?_⟩) ?_ ?_
           rotate_left
           ·intro w'
            go_simp
            with_reducible rfl
           rotate_left
           ·simp only [Act.put, List.setIfInBounds_toArray, List.set_cons_zero, List.set_cons_succ, i64_w, i32_w]
            rfl
           refine pure_ (i := 2) (N := some 43) (v := ?_) (a' := ?_) #[true, true, true, false, false, false, false, false, false, false, false, false, false, false, false, false, false, false] rfl rfl (any_of HT_.out (by kernel_rfl)) (fun _ _ _ h => h) (Or.inl ⟨by rfl, ?_⟩) ?_ ?_
           rotate_left
           ·intro w'
            go_simp
            with_reducible rfl
           rotate_left
           ·simp only [Act.put, List.setIfInBounds_toArray, List.set_cons_zero, List.set_cons_succ, i64_w, i32_w]
            rfl
           refine take_ (i := 3) (N := some 44) (v := ?_) (a' := ?_) #[true, true, true, true, false, false, false, false, false, false, false, false, false, false, false, false, false, false] rfl rfl (take_ofW HT_.out HW_.out (by kernel_rfl)) (fun _ _ _ h => h) (Or.inl ⟨by rfl, ?_⟩) hHeld ?_ ?_
           rotate_left
           ·rintro w' ⟨s0, s1, s2, s3, s4, s5⟩
            go_simp
            with_reducible rfl
           rotate_left
           ·simp only [Act.put, List.setIfInBounds_toArray, List.set_cons_zero, List.set_cons_succ, i64_w, i32_w]
            rfl
           refine one_ (i := 4) (N := some 45) #[true, true, true, true, true, false, false, false, false, false, false, false, false, false, false, false, false, false] rfl rfl (one_of HT_.out (by kernel_rfl)) (by decide) (fun K hK => ?_)
           refine goes_ Tryz.func13 (by kernel_rfl) rfl #[.agg #[.int .i64 ((rd_T25 l1 x11_2).f0), .int .i64 ((rd_T25 l1 x11_2).f1)]] (by rfl) rfl rfl (by (try simp only [List.map_toArray, List.map_cons, List.map_nil]); first | done | rfl | (simp only [List.length_drop, List.length_take]; rfl)) ?_
           with_reducible refine (r8_Is.calls ((rd_T25 l1 x11_2).f0) ((rd_T25 l1 x11_2).f1) true _ A25.out).mono ?_
           rintro e w35 ⟨rfl, hb⟩
           refine ⟨_, rfl, ?_⟩
           have n0_ := Sd.mk (blk_below (g := gb807) (o := .cells #[.int .i64 t804, .int .i64 t805] 25 (0, 0)) (by exact blkF BK807.out) hb)
           have n1_ := Sd.mk (blk_below (g := gb811) (o := .cells #[.int .i64 t808, .int .i64 t809] 25 (0, 0)) (by exact blkF BK811.out) hb)
           have n2_ := Sd.mk (below_step (by repeat (first | (with_reducible first | exact HB.out | apply bal | apply pbd | apply bd1 | refine bst ?_ GE807.out | refine bst ?_ GE811.out) | exact HB.out)) hb)
           clear BK807
           clear BK811
           clear HB
           have BK807 := n0_
           have BK811 := n1_
           have HB := n2_
           clear n0_ n1_ n2_
           (try clear hb)
           (try clear hb2)
           (try clear hk)
           (try clear hi)
           refine hK.out _ _ ⟨((HB.out.cell (World.block_lt_of_cell? w _ hw812_0)).trans hw812_0), ((HB.out.cell (World.block_lt_of_cell? w _ hw812_1)).trans hw812_1), ((HB.out.cell (World.block_lt_of_cell? w _ hw814_0)).trans hw814_0), ((HB.out.cell (World.block_lt_of_cell? w _ hw814_1)).trans hw814_1), ((HB.out.cell (World.block_lt_of_cell? w _ hw816_0)).trans hw816_0), ((HB.out.cell (World.block_lt_of_cell? w _ hw816_1)).trans hw816_1)⟩ (fun hHeld => ?_)
           clear hK K
           refine norm_ (a' := ?_) ?_ ?_
           rotate_left
           ·show Act.put _ (some 45) _ = _
            simp only [Act.put, List.setIfInBounds_toArray, List.set_cons_zero, List.set_cons_succ, i64_w, i32_w]
            rfl
           refine pure_ (i := 5) (N := some 46) (v := ?_) (a' := ?_) #[true, true, true, true, true, true, false, false, false, false, false, false, false, false, false, false, false, false] rfl rfl (any_of HT_.out (by kernel_rfl)) (fun _ _ _ h => h) (Or.inl ⟨by rfl, ?_⟩) ?_ ?_
           rotate_left
           ·intro w'
            go_simp
            with_reducible rfl
           rotate_left
           ·simp only [Act.put, List.setIfInBounds_toArray, List.set_cons_zero, List.set_cons_succ, i64_w, i32_w]
            rfl
           refine pure_ (i := 6) (N := some 47) (v := ?_) (a' := ?_) #[true, true, true, true, true, true, true, false, false, false, false, false, false, false, false, false, false, false] rfl rfl (any_of HT_.out (by kernel_rfl)) (fun _ _ _ h => h) (Or.inl ⟨by rfl, ?_⟩) ?_ ?_
           rotate_left
           ·intro w'
            go_simp
            with_reducible rfl
           rotate_left
           ·simp only [Act.put, List.setIfInBounds_toArray, List.set_cons_zero, List.set_cons_succ, i64_w, i32_w]
            rfl
           refine pure_ (i := 7) (N := some 48) (v := ?_) (a' := ?_) #[true, true, true, true, true, true, true, true, false, false, false, false, false, false, false, false, false, false] rfl rfl (any_of HT_.out (by kernel_rfl)) (fun _ _ _ h => h) (Or.inl ⟨by rfl, ?_⟩) ?_ ?_
           rotate_left
           ·intro w'
            go_simp
            with_reducible rfl
           rotate_left
           ·simp only [Act.put, List.setIfInBounds_toArray, List.set_cons_zero, List.set_cons_succ, i64_w, i32_w]
            rfl
           refine pure_ (i := 8) (N := some 49) (v := ?_) (a' := ?_) #[true, true, true, true, true, true, true, true, true, false, false, false, false, false, false, false, false, false] rfl rfl (any_of HT_.out (by kernel_rfl)) (fun _ _ _ h => h) (Or.inl ⟨by rfl, ?_⟩) ?_ ?_
           rotate_left
           ·intro w'
            go_simp
            with_reducible rfl
           rotate_left
           ·simp only [Act.put, List.setIfInBounds_toArray, List.set_cons_zero, List.set_cons_succ, i64_w, i32_w]
            rfl
           refine pure_ (i := 11) (N := some 52) (v := ?_) (a' := ?_) #[true, true, true, true, true, true, true, true, true, false, false, true, false, false, false, false, false, false] rfl rfl (any_of HT_.out (by kernel_rfl)) (fun _ _ _ h => h) (Or.inl ⟨by rfl, ?_⟩) ?_ ?_
           rotate_left
           ·intro w'
            go_simp
            with_reducible rfl
           rotate_left
           ·simp only [Act.put, List.setIfInBounds_toArray, List.set_cons_zero, List.set_cons_succ, i64_w, i32_w]
            rfl
           refine pure_ (i := 12) (N := some 53) (v := ?_) (a' := ?_) #[true, true, true, true, true, true, true, true, true, false, false, true, true, false, false, false, false, false] rfl rfl (any_of HT_.out (by kernel_rfl)) (fun _ _ _ h => h) (Or.inl ⟨by rfl, ?_⟩) ?_ ?_
           rotate_left
           ·intro w'
            go_simp
            with_reducible rfl
           rotate_left
           ·simp only [Act.put, List.setIfInBounds_toArray, List.set_cons_zero, List.set_cons_succ, i64_w, i32_w]
            rfl
           refine pure_ (i := 13) (N := some 54) (v := ?_) (a' := ?_) #[true, true, true, true, true, true, true, true, true, false, false, true, true, true, false, false, false, false] rfl rfl (any_of HT_.out (by kernel_rfl)) (fun _ _ _ h => h) (Or.inl ⟨by rfl, ?_⟩) ?_ ?_
           rotate_left
           ·intro w'
            go_simp
            with_reducible rfl
           rotate_left
           ·simp only [Act.put, List.setIfInBounds_toArray, List.set_cons_zero, List.set_cons_succ, i64_w, i32_w]
            rfl
           refine take_ (i := 9) (N := some 50) (v := ?_) (a' := ?_) #[true, true, true, true, true, true, true, true, true, true, false, true, true, true, false, false, false, false] rfl rfl (take_ofW HT_.out HW_.out (by kernel_rfl)) (fun _ _ _ h => h) (Or.inl ⟨by rfl, ?_⟩) hHeld ?_ ?_
           rotate_left
           ·rintro w' ⟨s0, s1, s2, s3, s4, s5⟩
            go_simp
            with_reducible rfl
           rotate_left
           ·simp only [Act.put, List.setIfInBounds_toArray, List.set_cons_zero, List.set_cons_succ, i64_w, i32_w]
            rfl
           refine take_ (i := 14) (N := some 55) (v := ?_) (a' := ?_) #[true, true, true, true, true, true, true, true, true, true, false, true, true, true, true, false, false, false] rfl rfl (take_ofW HT_.out HW_.out (by kernel_rfl)) (fun _ _ _ h => h) (Or.inl ⟨by rfl, ?_⟩) hHeld ?_ ?_
           rotate_left
           ·rintro w' ⟨s0, s1, s2, s3, s4, s5⟩
            go_simp
            with_reducible rfl
           rotate_left
           ·simp only [Act.put, List.setIfInBounds_toArray, List.set_cons_zero, List.set_cons_succ, i64_w, i32_w]
            rfl
           refine one_ (i := 10) (N := some 51) #[true, true, true, true, true, true, true, true, true, true, true, true, true, true, true, false, false, false] rfl rfl (one_of HT_.out (by kernel_rfl)) (by decide) (fun K hK => ?_)
           refine goes_ Tryz.func14 (by kernel_rfl) rfl #[.agg #[.int .i64 ((rd_T25 l1 x11_2).f0), .int .i64 ((rd_T25 l1 x11_2).f1)]] (by rfl) rfl rfl (by (try simp only [List.map_toArray, List.map_cons, List.map_nil]); first | done | rfl | (simp only [List.length_drop, List.length_take]; rfl)) ?_
           with_reducible refine (v_True.calls ((rd_T25 l1 x11_2).f0) ((rd_T25 l1 x11_2).f1) t815 _ A27.out).mono ?_
           rintro e w36 ⟨rfl, hb⟩
           refine ⟨_, rfl, ?_⟩
           have n0_ := Sd.mk (blk_below (g := gb807) (o := .cells #[.int .i64 t804, .int .i64 t805] 25 (0, 0)) (by exact blkF BK807.out) hb)
           have n1_ := Sd.mk (blk_below (g := gb811) (o := .cells #[.int .i64 t808, .int .i64 t809] 25 (0, 0)) (by exact blkF BK811.out) hb)
           have n2_ := Sd.mk (below_step (by repeat (first | (with_reducible first | exact HB.out | apply bal | apply pbd | apply bd1 | refine bst ?_ GE807.out | refine bst ?_ GE811.out) | exact HB.out)) hb)
           clear BK807
           clear BK811
           clear HB
           have BK807 := n0_
           have BK811 := n1_
           have HB := n2_
           clear n0_ n1_ n2_
           (try clear hb)
           (try clear hb2)
           (try clear hk)
           (try clear hi)
           refine hK.out _ _ ⟨((HB.out.cell (World.block_lt_of_cell? w _ hw812_0)).trans hw812_0), ((HB.out.cell (World.block_lt_of_cell? w _ hw812_1)).trans hw812_1), ((HB.out.cell (World.block_lt_of_cell? w _ hw814_0)).trans hw814_0), ((HB.out.cell (World.block_lt_of_cell? w _ hw814_1)).trans hw814_1), ((HB.out.cell (World.block_lt_of_cell? w _ hw816_0)).trans hw816_0), ((HB.out.cell (World.block_lt_of_cell? w _ hw816_1)).trans hw816_1)⟩ (fun hHeld => ?_)
           clear hK K
           refine norm_ (a' := ?_) ?_ ?_
           rotate_left
           ·show Act.put _ (some 51) _ = _
            simp only [Act.put, List.setIfInBounds_toArray, List.set_cons_zero, List.set_cons_succ, i64_w, i32_w]
            rfl
           refine one_ (i := 15) (N := some 56) #[true, true, true, true, true, true, true, true, true, true, true, true, true, true, true, true, false, false] rfl rfl (one_of HT_.out (by kernel_rfl)) (by decide) (fun K hK => ?_)
           refine goes_ Tryz.func15 (by kernel_rfl) rfl #[.agg #[.int .i64 ((rd_T25 l1 x11_2).f0), .int .i64 ((rd_T25 l1 x11_2).f1)]] (by rfl) rfl rfl (by (try simp only [List.map_toArray, List.map_cons, List.map_nil]); first | done | rfl | (simp only [List.length_drop, List.length_take]; rfl)) ?_
           with_reducible refine (r8_True.calls ((rd_T25 l1 x11_2).f0) ((rd_T25 l1 x11_2).f1) t817 _ A28.out).mono ?_
           rintro e w37 ⟨rfl, hb⟩
           refine ⟨_, rfl, ?_⟩
           have n0_ := Sd.mk (blk_below (g := gb807) (o := .cells #[.int .i64 t804, .int .i64 t805] 25 (0, 0)) (by exact blkF BK807.out) hb)
           have n1_ := Sd.mk (blk_below (g := gb811) (o := .cells #[.int .i64 t808, .int .i64 t809] 25 (0, 0)) (by exact blkF BK811.out) hb)
           have n2_ := Sd.mk (below_step (by repeat (first | (with_reducible first | exact HB.out | apply bal | apply pbd | apply bd1 | refine bst ?_ GE807.out | refine bst ?_ GE811.out) | exact HB.out)) hb)
           clear BK807
           clear BK811
           clear HB
           have BK807 := n0_
           have BK811 := n1_
           have HB := n2_
           clear n0_ n1_ n2_
           (try clear hb)
           (try clear hb2)
           (try clear hk)
           (try clear hi)
           refine hK.out _ _ ⟨((HB.out.cell (World.block_lt_of_cell? w _ hw812_0)).trans hw812_0), ((HB.out.cell (World.block_lt_of_cell? w _ hw812_1)).trans hw812_1), ((HB.out.cell (World.block_lt_of_cell? w _ hw814_0)).trans hw814_0), ((HB.out.cell (World.block_lt_of_cell? w _ hw814_1)).trans hw814_1), ((HB.out.cell (World.block_lt_of_cell? w _ hw816_0)).trans hw816_0), ((HB.out.cell (World.block_lt_of_cell? w _ hw816_1)).trans hw816_1)⟩ (fun hHeld => ?_)
           clear hK K
           refine norm_ (a' := ?_) ?_ ?_
           rotate_left
           ·show Act.put _ (some 56) _ = _
            simp only [Act.put, List.setIfInBounds_toArray, List.set_cons_zero, List.set_cons_succ, i64_w, i32_w]
            rfl
           refine pure_ (i := 16) (N := some 57) (v := ?_) (a' := ?_) #[true, true, true, true, true, true, true, true, true, true, true, true, true, true, true, true, true, false] rfl rfl (any_of HT_.out (by kernel_rfl)) (fun _ _ _ h => h) (Or.inl ⟨by rfl, ?_⟩) ?_ ?_
           rotate_left
           ·intro w'
            go_simp
            with_reducible rfl
           rotate_left
           ·simp only [Act.put, List.setIfInBounds_toArray, List.set_cons_zero, List.set_cons_succ, i64_w, i32_w]
            rfl
           refine pure_ (i := 17) (N := some 58) (v := ?_) (a' := ?_) #[true, true, true, true, true, true, true, true, true, true, true, true, true, true, true, true, true, true] rfl rfl (any_of HT_.out (by kernel_rfl)) (fun _ _ _ h => h) (Or.inl ⟨by rfl, ?_⟩) ?_ ?_
           rotate_left
           ·intro w'
            go_simp
            with_reducible rfl
           rotate_left
           ·simp only [Act.put, List.setIfInBounds_toArray, List.set_cons_zero, List.set_cons_succ, i64_w, i32_w]
            rfl
           refine done_ (done_of HT_.out (by kernel_rfl)) ?_
           try go_wp2
           go_roundg k2
           case measure => have := HJ3.out; have := HK2.out; omega
           case rel => exact ⟨(wrap64 (x11_2 + 1)), (by first | rfl | (simp; done) | (simp [*]; done)), H', ⟨by have := HJ3.out; have := HK2.out; omega⟩, ⟨by (with_reducible repeat (first | refine blk_drewN ?_ _ | refine blk_drew ?_ | refine blk_alloc ?_ _)); exact BK807.out⟩, ⟨by (with_reducible repeat (first | refine blk_drewN ?_ _ | refine blk_drew ?_ | refine blk_alloc ?_ _)); exact BK811.out⟩, ⟨by repeat (first | (with_reducible first | exact HB.out | apply bal | apply pbd | apply bd1 | refine bst ?_ GE807.out | refine bst ?_ GE811.out) | exact HB.out)⟩⟩
         ·replace c26 := Bool.eq_false_iff.mpr c26
          subst c26
          have H1 : (l8_ValueDoes.l0 k2 l1 a2 t806 t810 (wrap64 (x11_2 + 1)) t804 t805 t808 t809) = some r := by rw [if_neg (show ¬ (false = true) by decide)] at H; exact H
          clear H
          have H := H1
          clear H1
          have H' := Sd.mk H
          clear H
          try go_wp2
          have n0_ := Sd.mk (blk_drew BK807.out)
          have n1_ := Sd.mk (blk_drew BK811.out)
          have n2_ := Sd.mk (bd1 HB.out)
          clear BK807
          clear BK811
          clear HB
          have BK807 := n0_
          have BK811 := n1_
          have HB := n2_
          clear n0_ n1_ n2_
          have p812 : 0 ≤ (x11_2 : Int) := of_decide_eq_true (by first | (with_reducible assumption) | assumption)
          have q812 : x11_2 < (l1.length : Int) := of_decide_eq_true (by first | (with_reducible assumption) | assumption)
          obtain ⟨ad812, e812, hx812_0, hx812_1⟩ := at_T25 HR1.out x11_2 p812 q812
          have hw812_1 := hx812_1
          have hw812_0 := hx812_0
          cases e812
          replace hx812_0 := (HB.out.cell (World.block_lt_of_cell? w _ hx812_0)).trans hx812_0
          replace hx812_1 := (HB.out.cell (World.block_lt_of_cell? w _ hx812_1)).trans hx812_1
          replace p812 := eq_true p812
          replace q812 := eq_true q812
          refine start_ (n := 18) (S := fun w' => w'.cell? (ad812.add ((x11_2).toNat * 2)) = some (.int .i64 ((rd_T25 l1 x11_2).f0)) ∧ w'.cell? ⟨(ad812.add ((x11_2).toNat * 2)).block, (ad812.add ((x11_2).toNat * 2)).off + 1, none⟩ = some (.int .i64 ((rd_T25 l1 x11_2).f1))) (ds := []) #[false, false, false, false, false, false, false, false, false, false, false, false, false, false, false, false, false, false] (by kernel_rfl) rfl rfl ⟨((HB.out.cell (World.block_lt_of_cell? w _ hw812_0)).trans hw812_0), ((HB.out.cell (World.block_lt_of_cell? w _ hw812_1)).trans hw812_1)⟩ (fun hHeld => ?_); refine with_tabW l8_ValueDoes.tab8 l8_ValueDoes.bits8 (fun HT_ HW_ => ?_)
          generalize wr.drew = w38 at BK807 BK811 HB hx812_0 hx812_1 hHeld ⊢
          refine pure_ (i := 0) (N := some 41) (v := ?_) (a' := ?_) #[true, false, false, false, false, false, false, false, false, false, false, false, false, false, false, false, false, false] rfl rfl (any_of HT_.out (by kernel_rfl)) (fun _ _ _ h => h) (Or.inl ⟨by rfl, ?_⟩) ?_ ?_
          rotate_left
          ·intro w'
           go_simp
           with_reducible rfl
          rotate_left
          ·simp only [Act.put, List.setIfInBounds_toArray, List.set_cons_zero, List.set_cons_succ, i64_w, i32_w]
           rfl
          refine pure_ (i := 1) (N := some 42) (v := ?_) (a' := ?_) #[true, true, false, false, false, false, false, false, false, false, false, false, false, false, false, false, false, false] rfl rfl (any_of HT_.out (by kernel_rfl)) (fun _ _ _ h => h) (Or.inl ⟨by rfl, ?_⟩) ?_ ?_
          rotate_left
          ·intro w'
           go_simp
           with_reducible rfl
          rotate_left
          ·simp only [Act.put, List.setIfInBounds_toArray, List.set_cons_zero, List.set_cons_succ, i64_w, i32_w]
           rfl
          refine pure_ (i := 2) (N := some 43) (v := ?_) (a' := ?_) #[true, true, true, false, false, false, false, false, false, false, false, false, false, false, false, false, false, false] rfl rfl (any_of HT_.out (by kernel_rfl)) (fun _ _ _ h => h) (Or.inl ⟨by rfl, ?_⟩) ?_ ?_
          rotate_left
          ·intro w'
           go_simp
           with_reducible rfl
          rotate_left
          ·simp only [Act.put, List.setIfInBounds_toArray, List.set_cons_zero, List.set_cons_succ, i64_w, i32_w]
           rfl
          refine take_ (i := 3) (N := some 44) (v := ?_) (a' := ?_) #[true, true, true, true, false, false, false, false, false, false, false, false, false, false, false, false, false, false] rfl rfl (take_ofW HT_.out HW_.out (by kernel_rfl)) (fun _ _ _ h => h) (Or.inl ⟨by rfl, ?_⟩) hHeld ?_ ?_
          rotate_left
          ·rintro w' ⟨s0, s1⟩
           go_simp
           with_reducible rfl
          rotate_left
          ·simp only [Act.put, List.setIfInBounds_toArray, List.set_cons_zero, List.set_cons_succ, i64_w, i32_w]
           rfl
          refine one_ (i := 4) (N := some 45) #[true, true, true, true, true, false, false, false, false, false, false, false, false, false, false, false, false, false] rfl rfl (one_of HT_.out (by kernel_rfl)) (by decide) (fun K hK => ?_)
          refine goes_ Tryz.func13 (by kernel_rfl) rfl #[.agg #[.int .i64 ((rd_T25 l1 x11_2).f0), .int .i64 ((rd_T25 l1 x11_2).f1)]] (by rfl) rfl rfl (by (try simp only [List.map_toArray, List.map_cons, List.map_nil]); first | done | rfl | (simp only [List.length_drop, List.length_take]; rfl)) ?_
          with_reducible refine (r8_Is.calls ((rd_T25 l1 x11_2).f0) ((rd_T25 l1 x11_2).f1) false _ A25.out).mono ?_
          rintro e w39 ⟨rfl, hb⟩
          refine ⟨_, rfl, ?_⟩
          have n0_ := Sd.mk (blk_below (g := gb807) (o := .cells #[.int .i64 t804, .int .i64 t805] 25 (0, 0)) (by exact blkF BK807.out) hb)
          have n1_ := Sd.mk (blk_below (g := gb811) (o := .cells #[.int .i64 t808, .int .i64 t809] 25 (0, 0)) (by exact blkF BK811.out) hb)
          have n2_ := Sd.mk (below_step (by repeat (first | (with_reducible first | exact HB.out | apply bal | apply pbd | apply bd1 | refine bst ?_ GE807.out | refine bst ?_ GE811.out) | exact HB.out)) hb)
          clear BK807
          clear BK811
          clear HB
          have BK807 := n0_
          have BK811 := n1_
          have HB := n2_
          clear n0_ n1_ n2_
          (try clear hb)
          (try clear hb2)
          (try clear hk)
          (try clear hi)
          refine hK.out _ _ ⟨((HB.out.cell (World.block_lt_of_cell? w _ hw812_0)).trans hw812_0), ((HB.out.cell (World.block_lt_of_cell? w _ hw812_1)).trans hw812_1)⟩ (fun hHeld => ?_)
          clear hK K
          refine norm_ (a' := ?_) ?_ ?_
          rotate_left
          ·show Act.put _ (some 45) _ = _
           simp only [Act.put, List.setIfInBounds_toArray, List.set_cons_zero, List.set_cons_succ, i64_w, i32_w]
           rfl
          refine pure_ (i := 5) (N := some 46) (v := ?_) (a' := ?_) #[true, true, true, true, true, true, false, false, false, false, false, false, false, false, false, false, false, false] rfl rfl (any_of HT_.out (by kernel_rfl)) (fun _ _ _ h => h) (Or.inl ⟨by rfl, ?_⟩) ?_ ?_
          rotate_left
          ·intro w'
           go_simp
           with_reducible rfl
          rotate_left
          ·simp only [Act.put, List.setIfInBounds_toArray, List.set_cons_zero, List.set_cons_succ, i64_w, i32_w]
           rfl
          refine pure_ (i := 6) (N := some 47) (v := undef) (a' := ?_) #[true, true, true, true, true, true, true, false, false, false, false, false, false, false, false, false, false, false] rfl rfl (any_of HT_.out (by kernel_rfl)) (fun _ _ _ h => h) (Or.inr ⟨by rfl, rfl⟩) ?_ ?_
          rotate_left
          ·simp only [Act.put, List.setIfInBounds_toArray, List.set_cons_zero, List.set_cons_succ, i64_w, i32_w]
           rfl
          refine pure_ (i := 7) (N := some 48) (v := undef) (a' := ?_) #[true, true, true, true, true, true, true, true, false, false, false, false, false, false, false, false, false, false] rfl rfl (any_of HT_.out (by kernel_rfl)) (fun _ _ _ h => h) (Or.inr ⟨by rfl, rfl⟩) ?_ ?_
          rotate_left
          ·simp only [Act.put, List.setIfInBounds_toArray, List.set_cons_zero, List.set_cons_succ, i64_w, i32_w]
           rfl
          refine pure_ (i := 8) (N := some 49) (v := undef) (a' := ?_) #[true, true, true, true, true, true, true, true, true, false, false, false, false, false, false, false, false, false] rfl rfl (any_of HT_.out (by kernel_rfl)) (fun _ _ _ h => h) (Or.inr ⟨by rfl, rfl⟩) ?_ ?_
          rotate_left
          ·simp only [Act.put, List.setIfInBounds_toArray, List.set_cons_zero, List.set_cons_succ, i64_w, i32_w]
           rfl
          refine pure_ (i := 9) (N := some 50) (v := undef) (a' := ?_) #[true, true, true, true, true, true, true, true, true, true, false, false, false, false, false, false, false, false] rfl rfl (any_of HT_.out (by kernel_rfl)) (fun _ _ _ h => h) (Or.inr ⟨by rfl, rfl⟩) ?_ ?_
          rotate_left
          ·simp only [Act.put, List.setIfInBounds_toArray, List.set_cons_zero, List.set_cons_succ, i64_w, i32_w]
           rfl
          refine pure_ (i := 10) (N := some 51) (v := undef) (a' := ?_) #[true, true, true, true, true, true, true, true, true, true, true, false, false, false, false, false, false, false] rfl rfl (any_of HT_.out (by kernel_rfl)) (fun _ _ _ h => h) (Or.inr ⟨by rfl, rfl⟩) ?_ ?_
          rotate_left
          ·simp only [Act.put, List.setIfInBounds_toArray, List.set_cons_zero, List.set_cons_succ, i64_w, i32_w]
           rfl
          refine pure_ (i := 11) (N := some 52) (v := undef) (a' := ?_) #[true, true, true, true, true, true, true, true, true, true, true, true, false, false, false, false, false, false] rfl rfl (any_of HT_.out (by kernel_rfl)) (fun _ _ _ h => h) (Or.inr ⟨by rfl, rfl⟩) ?_ ?_
          rotate_left
          ·simp only [Act.put, List.setIfInBounds_toArray, List.set_cons_zero, List.set_cons_succ, i64_w, i32_w]
           rfl
          refine pure_ (i := 12) (N := some 53) (v := undef) (a' := ?_) #[true, true, true, true, true, true, true, true, true, true, true, true, true, false, false, false, false, false] rfl rfl (any_of HT_.out (by kernel_rfl)) (fun _ _ _ h => h) (Or.inr ⟨by rfl, rfl⟩) ?_ ?_
          rotate_left
          ·simp only [Act.put, List.setIfInBounds_toArray, List.set_cons_zero, List.set_cons_succ, i64_w, i32_w]
           rfl
          refine pure_ (i := 13) (N := some 54) (v := undef) (a' := ?_) #[true, true, true, true, true, true, true, true, true, true, true, true, true, true, false, false, false, false] rfl rfl (any_of HT_.out (by kernel_rfl)) (fun _ _ _ h => h) (Or.inr ⟨by rfl, rfl⟩) ?_ ?_
          rotate_left
          ·simp only [Act.put, List.setIfInBounds_toArray, List.set_cons_zero, List.set_cons_succ, i64_w, i32_w]
           rfl
          refine pure_ (i := 14) (N := some 55) (v := undef) (a' := ?_) #[true, true, true, true, true, true, true, true, true, true, true, true, true, true, true, false, false, false] rfl rfl (any_of HT_.out (by kernel_rfl)) (fun _ _ _ h => h) (Or.inr ⟨by rfl, rfl⟩) ?_ ?_
          rotate_left
          ·simp only [Act.put, List.setIfInBounds_toArray, List.set_cons_zero, List.set_cons_succ, i64_w, i32_w]
           rfl
          refine pure_ (i := 15) (N := some 56) (v := undef) (a' := ?_) #[true, true, true, true, true, true, true, true, true, true, true, true, true, true, true, true, false, false] rfl rfl (any_of HT_.out (by kernel_rfl)) (fun _ _ _ h => h) (Or.inr ⟨by rfl, rfl⟩) ?_ ?_
          rotate_left
          ·simp only [Act.put, List.setIfInBounds_toArray, List.set_cons_zero, List.set_cons_succ, i64_w, i32_w]
           rfl
          refine pure_ (i := 16) (N := some 57) (v := undef) (a' := ?_) #[true, true, true, true, true, true, true, true, true, true, true, true, true, true, true, true, true, false] rfl rfl (any_of HT_.out (by kernel_rfl)) (fun _ _ _ h => h) (Or.inr ⟨by rfl, rfl⟩) ?_ ?_
          rotate_left
          ·simp only [Act.put, List.setIfInBounds_toArray, List.set_cons_zero, List.set_cons_succ, i64_w, i32_w]
           rfl
          refine pure_ (i := 17) (N := some 58) (v := ?_) (a' := ?_) #[true, true, true, true, true, true, true, true, true, true, true, true, true, true, true, true, true, true] rfl rfl (any_of HT_.out (by kernel_rfl)) (fun _ _ _ h => h) (Or.inl ⟨by rfl, ?_⟩) ?_ ?_
          rotate_left
          ·intro w'
           go_simp
           with_reducible rfl
          rotate_left
          ·simp only [Act.put, List.setIfInBounds_toArray, List.set_cons_zero, List.set_cons_succ, i64_w, i32_w]
           rfl
          refine done_ (done_of HT_.out (by kernel_rfl)) ?_
          try go_wp2
          go_roundg k2
          case measure => have := HJ3.out; have := HK2.out; omega
          case rel => exact ⟨(wrap64 (x11_2 + 1)), (by first | rfl | (simp; done) | (simp [*]; done)), H', ⟨by have := HJ3.out; have := HK2.out; omega⟩, ⟨by (with_reducible repeat (first | refine blk_drewN ?_ _ | refine blk_drew ?_ | refine blk_alloc ?_ _)); exact BK807.out⟩, ⟨by (with_reducible repeat (first | refine blk_drewN ?_ _ | refine blk_drew ?_ | refine blk_alloc ?_ _)); exact BK811.out⟩, ⟨by repeat (first | (with_reducible first | exact HB.out | apply bal | apply pbd | apply bd1 | refine bst ?_ GE807.out | refine bst ?_ GE811.out) | exact HB.out)⟩⟩
        ·rw [if_neg c24] at H
         exact absurd H (by simp)
       ·rw [if_neg c23] at H
        have c23b0 : decide (x11_2 < (l1.length : Int)) = false := decide_eq_false c23
        clear c23
        by_cases c40 : (t804 == t808 && (t805 == t809)) = true
        ·rw [if_pos c40] at H
         have c40b0 : (t804 == t808 && (t805 == t809)) = true := c40
         (try (have c40b1 : decide (t804 = t808 && (t805 == t809)) = true := by simpa using c40))
         (try (have c40b2 : (t804 == t808 && (t805 == t809)) = true := by simpa using c40))
         clear c40
         replace H := Option.bind_eq_some_iff.mp H
         obtain ⟨t818, A410, H⟩ := H
         replace H : (if t818 = t810 then ((some (([] : List (S25)) : List (S25))).bind fun y819 => (if y819.length + l1.length < 8796093022208 then ((v_Check.f (y819 ++ l1)).bind fun t825 => ((l8_num.f t825).bind fun t826 => ((r8_Check.f k2 l1).bind fun t827 => (if t826 = t827 then ((v_Num.f a2).bind fun bt828 => ((r8_Num.f a2).bind fun bt830 => (if (bt828.1 == bt830.1 && (bt828.2 == bt830.2)) = true then ((v_Truth.f (decide (a2 > 0))).bind fun bt832 => ((r8_Truth.f (decide (a2 > 0))).bind fun bt834 => (if (bt832.1 == bt834.1 && (bt832.2 == bt834.2)) = true then ((v_Null.f).bind fun bt836 => ((r8_Null.f).bind fun bt838 => (if (bt836.1 == bt838.1 && (bt836.2 == bt838.2)) = true then ((v_NaN.f).bind fun bt840 => ((r8_NaN.f).bind fun bt842 => (if (bt840.1 == bt842.1 && (bt840.2 == bt842.2)) = true then ((v_Plus.f).bind fun bt844 => ((r8_Plus.f).bind fun bt846 => (if (bt844.1 == bt846.1 && (bt844.2 == bt846.2)) = true then ((v_Minus.f).bind fun bt848 => ((r8_Minus.f).bind fun bt850 => (if (bt848.1 == bt850.1 && (bt848.2 == bt850.2)) = true then ((l8_live.f).bind fun t852 => (some t852)) else (none)))) else (none)))) else (none)))) else (none)))) else (none)))) else (none)))) else (none))))) else (none))) else (none)) = some r := H
         have A41 := Sd.mk A410
         clear A410
         by_cases c42 : t818 = t810
         ·rw [if_pos c42] at H
          have c42b0 : (t818 == t810) = true := beq_iff_eq.mpr c42
          have c42b1 : (t818 != t810) = false := bne_eq_false_iff_eq.mpr c42
          clear c42
          obtain ⟨y819, hy819⟩ : ∃ y_ : List (S25), y_ = (([] : List (S25))) := ⟨_, rfl⟩
          replace H : (if y819.length + l1.length < 8796093022208 then ((v_Check.f (y819 ++ l1)).bind fun t825 => ((l8_num.f t825).bind fun t826 => ((r8_Check.f k2 l1).bind fun t827 => (if t826 = t827 then ((v_Num.f a2).bind fun bt828 => ((r8_Num.f a2).bind fun bt830 => (if (bt828.1 == bt830.1 && (bt828.2 == bt830.2)) = true then ((v_Truth.f (decide (a2 > 0))).bind fun bt832 => ((r8_Truth.f (decide (a2 > 0))).bind fun bt834 => (if (bt832.1 == bt834.1 && (bt832.2 == bt834.2)) = true then ((v_Null.f).bind fun bt836 => ((r8_Null.f).bind fun bt838 => (if (bt836.1 == bt838.1 && (bt836.2 == bt838.2)) = true then ((v_NaN.f).bind fun bt840 => ((r8_NaN.f).bind fun bt842 => (if (bt840.1 == bt842.1 && (bt840.2 == bt842.2)) = true then ((v_Plus.f).bind fun bt844 => ((r8_Plus.f).bind fun bt846 => (if (bt844.1 == bt846.1 && (bt844.2 == bt846.2)) = true then ((v_Minus.f).bind fun bt848 => ((r8_Minus.f).bind fun bt850 => (if (bt848.1 == bt850.1 && (bt848.2 == bt850.2)) = true then ((l8_live.f).bind fun t852 => (some t852)) else (none)))) else (none)))) else (none)))) else (none)))) else (none)))) else (none)))) else (none))))) else (none)) = some r := by first | (rw [hy819]; with_reducible exact H) | (have H2_ := (Option.bind_some _ _).symm.trans H; rw [hy819]; with_reducible exact H2_) | (have H2_ := (Option.bind_some _ _).symm.trans H; with_reducible exact H2_) | with_reducible exact H | (rw [hy819]; exact H) | exact H
          have Ny819 := Sd.mk hy819
          clear hy819
          by_cases c43 : y819.length + l1.length < 8796093022208
          ·rw [if_pos c43] at H
           have LMc43 := Sd.mk c43
           clear c43
           obtain ⟨y822, hy822⟩ : ∃ y_ : List (S25), y_ = (y819 ++ l1) := ⟨_, rfl⟩
           replace H : ((v_Check.f y822).bind fun t825 => ((l8_num.f t825).bind fun t826 => ((r8_Check.f k2 l1).bind fun t827 => (if t826 = t827 then ((v_Num.f a2).bind fun bt828 => ((r8_Num.f a2).bind fun bt830 => (if (bt828.1 == bt830.1 && (bt828.2 == bt830.2)) = true then ((v_Truth.f (decide (a2 > 0))).bind fun bt832 => ((r8_Truth.f (decide (a2 > 0))).bind fun bt834 => (if (bt832.1 == bt834.1 && (bt832.2 == bt834.2)) = true then ((v_Null.f).bind fun bt836 => ((r8_Null.f).bind fun bt838 => (if (bt836.1 == bt838.1 && (bt836.2 == bt838.2)) = true then ((v_NaN.f).bind fun bt840 => ((r8_NaN.f).bind fun bt842 => (if (bt840.1 == bt842.1 && (bt840.2 == bt842.2)) = true then ((v_Plus.f).bind fun bt844 => ((r8_Plus.f).bind fun bt846 => (if (bt844.1 == bt846.1 && (bt844.2 == bt846.2)) = true then ((v_Minus.f).bind fun bt848 => ((r8_Minus.f).bind fun bt850 => (if (bt848.1 == bt850.1 && (bt848.2 == bt850.2)) = true then ((l8_live.f).bind fun t852 => (some t852)) else (none)))) else (none)))) else (none)))) else (none)))) else (none)))) else (none)))) else (none))))) = some r := by first | (rw [hy822]; with_reducible exact H) | (have H2_ := (Option.bind_some _ _).symm.trans H; rw [hy822]; with_reducible exact H2_) | (have H2_ := (Option.bind_some _ _).symm.trans H; with_reducible exact H2_) | with_reducible exact H | (rw [hy822]; exact H) | exact H
           have Ny822 := Sd.mk hy822
           clear hy822
           replace H := Option.bind_eq_some_iff.mp H
           obtain ⟨t825, A440, H⟩ := H
           replace H : ((l8_num.f t825).bind fun t826 => ((r8_Check.f k2 l1).bind fun t827 => (if t826 = t827 then ((v_Num.f a2).bind fun bt828 => ((r8_Num.f a2).bind fun bt830 => (if (bt828.1 == bt830.1 && (bt828.2 == bt830.2)) = true then ((v_Truth.f (decide (a2 > 0))).bind fun bt832 => ((r8_Truth.f (decide (a2 > 0))).bind fun bt834 => (if (bt832.1 == bt834.1 && (bt832.2 == bt834.2)) = true then ((v_Null.f).bind fun bt836 => ((r8_Null.f).bind fun bt838 => (if (bt836.1 == bt838.1 && (bt836.2 == bt838.2)) = true then ((v_NaN.f).bind fun bt840 => ((r8_NaN.f).bind fun bt842 => (if (bt840.1 == bt842.1 && (bt840.2 == bt842.2)) = true then ((v_Plus.f).bind fun bt844 => ((r8_Plus.f).bind fun bt846 => (if (bt844.1 == bt846.1 && (bt844.2 == bt846.2)) = true then ((v_Minus.f).bind fun bt848 => ((r8_Minus.f).bind fun bt850 => (if (bt848.1 == bt850.1 && (bt848.2 == bt850.2)) = true then ((l8_live.f).bind fun t852 => (some t852)) else (none)))) else (none)))) else (none)))) else (none)))) else (none)))) else (none)))) else (none)))) = some r := H
           have A44 := Sd.mk A440
           clear A440
           replace H := Option.bind_eq_some_iff.mp H
           obtain ⟨t826, A450, H⟩ := H
           replace H : ((r8_Check.f k2 l1).bind fun t827 => (if t826 = t827 then ((v_Num.f a2).bind fun bt828 => ((r8_Num.f a2).bind fun bt830 => (if (bt828.1 == bt830.1 && (bt828.2 == bt830.2)) = true then ((v_Truth.f (decide (a2 > 0))).bind fun bt832 => ((r8_Truth.f (decide (a2 > 0))).bind fun bt834 => (if (bt832.1 == bt834.1 && (bt832.2 == bt834.2)) = true then ((v_Null.f).bind fun bt836 => ((r8_Null.f).bind fun bt838 => (if (bt836.1 == bt838.1 && (bt836.2 == bt838.2)) = true then ((v_NaN.f).bind fun bt840 => ((r8_NaN.f).bind fun bt842 => (if (bt840.1 == bt842.1 && (bt840.2 == bt842.2)) = true then ((v_Plus.f).bind fun bt844 => ((r8_Plus.f).bind fun bt846 => (if (bt844.1 == bt846.1 && (bt844.2 == bt846.2)) = true then ((v_Minus.f).bind fun bt848 => ((r8_Minus.f).bind fun bt850 => (if (bt848.1 == bt850.1 && (bt848.2 == bt850.2)) = true then ((l8_live.f).bind fun t852 => (some t852)) else (none)))) else (none)))) else (none)))) else (none)))) else (none)))) else (none)))) else (none))) = some r := H
           have A45 := Sd.mk A450
           clear A450
           replace H := Option.bind_eq_some_iff.mp H
           obtain ⟨t827, A460, H⟩ := H
           replace H : (if t826 = t827 then ((v_Num.f a2).bind fun bt828 => ((r8_Num.f a2).bind fun bt830 => (if (bt828.1 == bt830.1 && (bt828.2 == bt830.2)) = true then ((v_Truth.f (decide (a2 > 0))).bind fun bt832 => ((r8_Truth.f (decide (a2 > 0))).bind fun bt834 => (if (bt832.1 == bt834.1 && (bt832.2 == bt834.2)) = true then ((v_Null.f).bind fun bt836 => ((r8_Null.f).bind fun bt838 => (if (bt836.1 == bt838.1 && (bt836.2 == bt838.2)) = true then ((v_NaN.f).bind fun bt840 => ((r8_NaN.f).bind fun bt842 => (if (bt840.1 == bt842.1 && (bt840.2 == bt842.2)) = true then ((v_Plus.f).bind fun bt844 => ((r8_Plus.f).bind fun bt846 => (if (bt844.1 == bt846.1 && (bt844.2 == bt846.2)) = true then ((v_Minus.f).bind fun bt848 => ((r8_Minus.f).bind fun bt850 => (if (bt848.1 == bt850.1 && (bt848.2 == bt850.2)) = true then ((l8_live.f).bind fun t852 => (some t852)) else (none)))) else (none)))) else (none)))) else (none)))) else (none)))) else (none)))) else (none)) = some r := H
           have A46 := Sd.mk A460
           clear A460
           by_cases c47 : t826 = t827
           ·rw [if_pos c47] at H
            have c47b0 : (t826 == t827) = true := beq_iff_eq.mpr c47
            have c47b1 : (t826 != t827) = false := bne_eq_false_iff_eq.mpr c47
            clear c47
            replace H := Option.bind_eq_some_iff.mp H
            obtain ⟨⟨t828, t829⟩, A480, H⟩ := H
            replace H : ((r8_Num.f a2).bind fun bt830 => (if (t828 == bt830.1 && (t829 == bt830.2)) = true then ((v_Truth.f (decide (a2 > 0))).bind fun bt832 => ((r8_Truth.f (decide (a2 > 0))).bind fun bt834 => (if (bt832.1 == bt834.1 && (bt832.2 == bt834.2)) = true then ((v_Null.f).bind fun bt836 => ((r8_Null.f).bind fun bt838 => (if (bt836.1 == bt838.1 && (bt836.2 == bt838.2)) = true then ((v_NaN.f).bind fun bt840 => ((r8_NaN.f).bind fun bt842 => (if (bt840.1 == bt842.1 && (bt840.2 == bt842.2)) = true then ((v_Plus.f).bind fun bt844 => ((r8_Plus.f).bind fun bt846 => (if (bt844.1 == bt846.1 && (bt844.2 == bt846.2)) = true then ((v_Minus.f).bind fun bt848 => ((r8_Minus.f).bind fun bt850 => (if (bt848.1 == bt850.1 && (bt848.2 == bt850.2)) = true then ((l8_live.f).bind fun t852 => (some t852)) else (none)))) else (none)))) else (none)))) else (none)))) else (none)))) else (none))) = some r := H
            have A48 := Sd.mk A480
            clear A480
            replace H := Option.bind_eq_some_iff.mp H
            obtain ⟨⟨t830, t831⟩, A490, H⟩ := H
            replace H : (if (t828 == t830 && (t829 == t831)) = true then ((v_Truth.f (decide (a2 > 0))).bind fun bt832 => ((r8_Truth.f (decide (a2 > 0))).bind fun bt834 => (if (bt832.1 == bt834.1 && (bt832.2 == bt834.2)) = true then ((v_Null.f).bind fun bt836 => ((r8_Null.f).bind fun bt838 => (if (bt836.1 == bt838.1 && (bt836.2 == bt838.2)) = true then ((v_NaN.f).bind fun bt840 => ((r8_NaN.f).bind fun bt842 => (if (bt840.1 == bt842.1 && (bt840.2 == bt842.2)) = true then ((v_Plus.f).bind fun bt844 => ((r8_Plus.f).bind fun bt846 => (if (bt844.1 == bt846.1 && (bt844.2 == bt846.2)) = true then ((v_Minus.f).bind fun bt848 => ((r8_Minus.f).bind fun bt850 => (if (bt848.1 == bt850.1 && (bt848.2 == bt850.2)) = true then ((l8_live.f).bind fun t852 => (some t852)) else (none)))) else (none)))) else (none)))) else (none)))) else (none)))) else (none)) = some r := H
            have A49 := Sd.mk A490
            clear A490
            by_cases c50 : (t828 == t830 && (t829 == t831)) = true
            ·rw [if_pos c50] at H
             have c50b0 : (t828 == t830 && (t829 == t831)) = true := c50
             (try (have c50b1 : decide (t828 = t830 && (t829 == t831)) = true := by simpa using c50))
             (try (have c50b2 : (t828 == t830 && (t829 == t831)) = true := by simpa using c50))
             clear c50
             replace H := Option.bind_eq_some_iff.mp H
             obtain ⟨⟨t832, t833⟩, A510, H⟩ := H
             replace H : ((r8_Truth.f (decide (a2 > 0))).bind fun bt834 => (if (t832 == bt834.1 && (t833 == bt834.2)) = true then ((v_Null.f).bind fun bt836 => ((r8_Null.f).bind fun bt838 => (if (bt836.1 == bt838.1 && (bt836.2 == bt838.2)) = true then ((v_NaN.f).bind fun bt840 => ((r8_NaN.f).bind fun bt842 => (if (bt840.1 == bt842.1 && (bt840.2 == bt842.2)) = true then ((v_Plus.f).bind fun bt844 => ((r8_Plus.f).bind fun bt846 => (if (bt844.1 == bt846.1 && (bt844.2 == bt846.2)) = true then ((v_Minus.f).bind fun bt848 => ((r8_Minus.f).bind fun bt850 => (if (bt848.1 == bt850.1 && (bt848.2 == bt850.2)) = true then ((l8_live.f).bind fun t852 => (some t852)) else (none)))) else (none)))) else (none)))) else (none)))) else (none))) = some r := H
             have A51 := Sd.mk A510
             clear A510
             replace H := Option.bind_eq_some_iff.mp H
             obtain ⟨⟨t834, t835⟩, A520, H⟩ := H
             replace H : (if (t832 == t834 && (t833 == t835)) = true then ((v_Null.f).bind fun bt836 => ((r8_Null.f).bind fun bt838 => (if (bt836.1 == bt838.1 && (bt836.2 == bt838.2)) = true then ((v_NaN.f).bind fun bt840 => ((r8_NaN.f).bind fun bt842 => (if (bt840.1 == bt842.1 && (bt840.2 == bt842.2)) = true then ((v_Plus.f).bind fun bt844 => ((r8_Plus.f).bind fun bt846 => (if (bt844.1 == bt846.1 && (bt844.2 == bt846.2)) = true then ((v_Minus.f).bind fun bt848 => ((r8_Minus.f).bind fun bt850 => (if (bt848.1 == bt850.1 && (bt848.2 == bt850.2)) = true then ((l8_live.f).bind fun t852 => (some t852)) else (none)))) else (none)))) else (none)))) else (none)))) else (none)) = some r := H
             have A52 := Sd.mk A520
             clear A520
             by_cases c53 : (t832 == t834 && (t833 == t835)) = true
             ·rw [if_pos c53] at H
              have c53b0 : (t832 == t834 && (t833 == t835)) = true := c53
              (try (have c53b1 : decide (t832 = t834 && (t833 == t835)) = true := by simpa using c53))
              (try (have c53b2 : (t832 == t834 && (t833 == t835)) = true := by simpa using c53))
              clear c53
              replace H := Option.bind_eq_some_iff.mp H
              obtain ⟨⟨t836, t837⟩, A540, H⟩ := H
              replace H : ((r8_Null.f).bind fun bt838 => (if (t836 == bt838.1 && (t837 == bt838.2)) = true then ((v_NaN.f).bind fun bt840 => ((r8_NaN.f).bind fun bt842 => (if (bt840.1 == bt842.1 && (bt840.2 == bt842.2)) = true then ((v_Plus.f).bind fun bt844 => ((r8_Plus.f).bind fun bt846 => (if (bt844.1 == bt846.1 && (bt844.2 == bt846.2)) = true then ((v_Minus.f).bind fun bt848 => ((r8_Minus.f).bind fun bt850 => (if (bt848.1 == bt850.1 && (bt848.2 == bt850.2)) = true then ((l8_live.f).bind fun t852 => (some t852)) else (none)))) else (none)))) else (none)))) else (none))) = some r := H
              have A54 := Sd.mk A540
              clear A540
              replace H := Option.bind_eq_some_iff.mp H
              obtain ⟨⟨t838, t839⟩, A550, H⟩ := H
              replace H : (if (t836 == t838 && (t837 == t839)) = true then ((v_NaN.f).bind fun bt840 => ((r8_NaN.f).bind fun bt842 => (if (bt840.1 == bt842.1 && (bt840.2 == bt842.2)) = true then ((v_Plus.f).bind fun bt844 => ((r8_Plus.f).bind fun bt846 => (if (bt844.1 == bt846.1 && (bt844.2 == bt846.2)) = true then ((v_Minus.f).bind fun bt848 => ((r8_Minus.f).bind fun bt850 => (if (bt848.1 == bt850.1 && (bt848.2 == bt850.2)) = true then ((l8_live.f).bind fun t852 => (some t852)) else (none)))) else (none)))) else (none)))) else (none)) = some r := H
              have A55 := Sd.mk A550
              clear A550
              by_cases c56 : (t836 == t838 && (t837 == t839)) = true
              ·rw [if_pos c56] at H
               have c56b0 : (t836 == t838 && (t837 == t839)) = true := c56
               (try (have c56b1 : decide (t836 = t838 && (t837 == t839)) = true := by simpa using c56))
               (try (have c56b2 : (t836 == t838 && (t837 == t839)) = true := by simpa using c56))
               clear c56
               replace H := Option.bind_eq_some_iff.mp H
               obtain ⟨⟨t840, t841⟩, A570, H⟩ := H
               replace H : ((r8_NaN.f).bind fun bt842 => (if (t840 == bt842.1 && (t841 == bt842.2)) = true then ((v_Plus.f).bind fun bt844 => ((r8_Plus.f).bind fun bt846 => (if (bt844.1 == bt846.1 && (bt844.2 == bt846.2)) = true then ((v_Minus.f).bind fun bt848 => ((r8_Minus.f).bind fun bt850 => (if (bt848.1 == bt850.1 && (bt848.2 == bt850.2)) = true then ((l8_live.f).bind fun t852 => (some t852)) else (none)))) else (none)))) else (none))) = some r := H
               have A57 := Sd.mk A570
               clear A570
               replace H := Option.bind_eq_some_iff.mp H
               obtain ⟨⟨t842, t843⟩, A580, H⟩ := H
               replace H : (if (t840 == t842 && (t841 == t843)) = true then ((v_Plus.f).bind fun bt844 => ((r8_Plus.f).bind fun bt846 => (if (bt844.1 == bt846.1 && (bt844.2 == bt846.2)) = true then ((v_Minus.f).bind fun bt848 => ((r8_Minus.f).bind fun bt850 => (if (bt848.1 == bt850.1 && (bt848.2 == bt850.2)) = true then ((l8_live.f).bind fun t852 => (some t852)) else (none)))) else (none)))) else (none)) = some r := H
               have A58 := Sd.mk A580
               clear A580
               by_cases c59 : (t840 == t842 && (t841 == t843)) = true
               ·rw [if_pos c59] at H
                have c59b0 : (t840 == t842 && (t841 == t843)) = true := c59
                (try (have c59b1 : decide (t840 = t842 && (t841 == t843)) = true := by simpa using c59))
                (try (have c59b2 : (t840 == t842 && (t841 == t843)) = true := by simpa using c59))
                clear c59
                replace H := Option.bind_eq_some_iff.mp H
                obtain ⟨⟨t844, t845⟩, A600, H⟩ := H
                replace H : ((r8_Plus.f).bind fun bt846 => (if (t844 == bt846.1 && (t845 == bt846.2)) = true then ((v_Minus.f).bind fun bt848 => ((r8_Minus.f).bind fun bt850 => (if (bt848.1 == bt850.1 && (bt848.2 == bt850.2)) = true then ((l8_live.f).bind fun t852 => (some t852)) else (none)))) else (none))) = some r := H
                have A60 := Sd.mk A600
                clear A600
                replace H := Option.bind_eq_some_iff.mp H
                obtain ⟨⟨t846, t847⟩, A610, H⟩ := H
                replace H : (if (t844 == t846 && (t845 == t847)) = true then ((v_Minus.f).bind fun bt848 => ((r8_Minus.f).bind fun bt850 => (if (bt848.1 == bt850.1 && (bt848.2 == bt850.2)) = true then ((l8_live.f).bind fun t852 => (some t852)) else (none)))) else (none)) = some r := H
                have A61 := Sd.mk A610
                clear A610
                by_cases c62 : (t844 == t846 && (t845 == t847)) = true
                ·rw [if_pos c62] at H
                 have c62b0 : (t844 == t846 && (t845 == t847)) = true := c62
                 (try (have c62b1 : decide (t844 = t846 && (t845 == t847)) = true := by simpa using c62))
                 (try (have c62b2 : (t844 == t846 && (t845 == t847)) = true := by simpa using c62))
                 clear c62
                 replace H := Option.bind_eq_some_iff.mp H
                 obtain ⟨⟨t848, t849⟩, A630, H⟩ := H
                 replace H : ((r8_Minus.f).bind fun bt850 => (if (t848 == bt850.1 && (t849 == bt850.2)) = true then ((l8_live.f).bind fun t852 => (some t852)) else (none))) = some r := H
                 have A63 := Sd.mk A630
                 clear A630
                 replace H := Option.bind_eq_some_iff.mp H
                 obtain ⟨⟨t850, t851⟩, A640, H⟩ := H
                 replace H : (if (t848 == t850 && (t849 == t851)) = true then ((l8_live.f).bind fun t852 => (some t852)) else (none)) = some r := H
                 have A64 := Sd.mk A640
                 clear A640
                 by_cases c65 : (t848 == t850 && (t849 == t851)) = true
                 ·rw [if_pos c65] at H
                  have c65b0 : (t848 == t850 && (t849 == t851)) = true := c65
                  (try (have c65b1 : decide (t848 = t850 && (t849 == t851)) = true := by simpa using c65))
                  (try (have c65b2 : (t848 == t850 && (t849 == t851)) = true := by simpa using c65))
                  clear c65
                  replace H := Option.bind_eq_some_iff.mp H
                  obtain ⟨t852, A660, H⟩ := H
                  replace H : (some t852) = some r := H
                  have A66 := Sd.mk A660
                  clear A660
                  obtain rfl := Option.some.inj H
                  have hnb67 := NB807_811.out
                  have hnc67 := NB811_807.out
                  have hcz68_0 : wr.cell? ⟨gb807, 0, none⟩ = some (.int .i64 t804) := (blk_cell BK807.out 0).trans rfl
                  have hcz68_1 : wr.cell? ⟨gb807, 1, none⟩ = some (.int .i64 t805) := (blk_cell BK807.out 1).trans rfl
                  have hfz68_0 := blk_frozen BK807.out 0
                  have hfz68_1 := blk_frozen BK807.out 1
                  have hcz69_0 : wr.cell? ⟨gb811, 0, none⟩ = some (.int .i64 t808) := (blk_cell BK811.out 0).trans rfl
                  have hcz69_1 : wr.cell? ⟨gb811, 1, none⟩ = some (.int .i64 t809) := (blk_cell BK811.out 1).trans rfl
                  have hfz69_0 := blk_frozen BK811.out 0
                  have hfz69_1 := blk_frozen BK811.out 1
                  go_wp2_with (first | (go_at_call 16; (with_reducible refine (l8_num.calls t806 t818 _ A41.out).mono ?_); rintro e w' ⟨rfl, ⟨nd, rfl⟩⟩) | ((with_reducible refine gate_dst (N := 69) rfl ?_); (try (refine gate_guard (by rfl) ?_; dsimp only)); refine Kd.R_lit k25 _ 25 ?hg (N := 69) ?hd (xs := ([] : List (S25))) (inner := []) (ok := fun _ => True) (okp := fun _ => True) ?hr ?hp (fun _ hk => hk) trivial (Below.refl _ _) (Nat.le_refl _) (by simp) ?_; (case hd => rfl); (case hg => rfl); (case hr => first | (go_simp; done) | (go_simp; rfl)); (case hp => exact (Reps.none _ _)); intro v820 w70 ho71 hb hg_ hnew_; clear hg_ hnew_; (first | rw [← Ny819.out] at ho71 | (simp only [Int.reduceToNat] at ho71; rw [← Ny819.out] at ho71)); have n0_ := Sd.mk (Kd.R_lower (Kd.R_newB (Kd.R_newB ho71 (g := gb807) (o := .cells #[.int .i64 t804, .int .i64 t805] 25 (0, 0)) (by exact blkF BK807.out)) (g := gb811) (o := .cells #[.int .i64 t808, .int .i64 t809] 25 (0, 0)) (by exact blkF BK811.out)) (below_size (by repeat (first | (with_reducible first | exact HB.out | apply bal | apply pbd | apply bd1 | refine bst ?_ GE807.out | refine bst ?_ GE811.out) | exact HB.out)))); have n1_ := Sd.mk (blk_below (g := gb807) (o := .cells #[.int .i64 t804, .int .i64 t805] 25 (0, 0)) (by exact blkF BK807.out) hb); have n2_ := Sd.mk (blk_below (g := gb811) (o := .cells #[.int .i64 t808, .int .i64 t809] 25 (0, 0)) (by exact blkF BK811.out) hb); have n3_ := Sd.mk (below_step (by repeat (first | (with_reducible first | exact HB.out | apply bal | apply pbd | apply bd1 | refine bst ?_ GE807.out | refine bst ?_ GE811.out) | exact HB.out)) hb); clear BK807; clear BK811; clear HB; have HO821 := n0_; have BK807 := n1_; have BK811 := n2_; have HB := n3_; clear n0_ n1_ n2_ n3_; clear hb ho71) | ((with_reducible refine gate_builtin (b := .append) (xs := #[.tmp 69, .tmp 70]) rfl ?_); (try (refine gate_guard (by rfl) ?_; dsimp only)); at_builtin; refine Kd.R_append_rows k25 (w0 := w) w.heap.size rfl (.tmp 69) (.tmp 70) 22 25 (.agg #[(.int .i64 0), (.int .i64 0)]) 16 rfl Tryz.underlying22 info25 rfl (by decide) (by omega) v820 y819 l1 _ _ _ (fun k_ => k_ ≠ gb807 ∧ k_ ≠ gb811) (fun _ => False) rfl rfl ?aO ?aR (fun _ _ h => h) (fun _ h => h.elim) ?aF ?aB ?aS ?aL ?_; (case aR => repeat (first | exact (Kd.C_below HR1.out HB.out) | (with_reducible refine Kd.C_alloc ?_ _) | (with_reducible refine Kd.C_drewN ?_ _) | (with_reducible refine Kd.C_drew ?_))); (case aB => exact (by repeat (first | (with_reducible first | exact HB.out | apply bal | apply pbd | apply bd1 | refine bst ?_ GE807.out | refine bst ?_ GE811.out) | exact HB.out))); (case aF => exact (fun k_ hk => ⟨Kd.freshB (g := gb807) (o := .cells #[.int .i64 t804, .int .i64 t805] 25 (0, 0)) (by exact blkF BK807.out) k_ hk, Kd.freshB (g := gb811) (o := .cells #[.int .i64 t808, .int .i64 t809] 25 (0, 0)) (by exact blkF BK811.out) k_ hk⟩)); (case aO => exact (by (with_reducible repeat (first | apply Kd.R_alloc | apply Kd.R_drewN | apply Kd.R_drew)); exact Kd.R_mono HO821.out (fun _ hk => ⟨hk.1.2, hk.2⟩))); (case aS => exact (below_size (by repeat (first | (with_reducible first | exact HB.out | apply bal | apply pbd | apply bd1 | refine bst ?_ GE807.out | refine bst ?_ GE811.out) | exact HB.out)))); (case aL => have := LMc43.out; omega); intro v823 w72 ho hb hg hat; rw [← Ny822.out] at ho; have n0_ := Sd.mk (blk_grown (g := gb807) (o := .cells #[.int .i64 t804, .int .i64 t805] 25 (0, 0)) (by exact blkF BK807.out) hg (Kd.R_away HO821.out (fun _ hk => hk.1.2))); have n1_ := Sd.mk (blk_grown (g := gb811) (o := .cells #[.int .i64 t808, .int .i64 t809] 25 (0, 0)) (by exact blkF BK811.out) hg (Kd.R_away HO821.out (fun _ hk => hk.2))); have n2_ := Sd.mk (hb); have n3_ := Sd.mk (ho); clear BK807; clear BK811; clear HB; clear HO821; have BK807 := n0_; have BK811 := n1_; have HB := n2_; have HO824 := n3_; clear n0_ n1_ n2_ n3_; clear ho hb hg hat; obtain ⟨Ao73, co73, eo73⟩ := Kd.R_slice HO824.out; subst eo73) | (go_at_call 17; (with_reducible refine (v_Check.calls _ _ y822 t825 _ ?side1 ?side2 A44.out).mono ?_); (case side1 => repeat (first | exact (Kd.R_reads' HO824.out).2.2 | (with_reducible refine Kd.C_alloc ?_ _) | (with_reducible refine Kd.C_drewN ?_ _) | (with_reducible refine Kd.C_drew ?_))); (case side2 => exact (Kd.R_reads' HO824.out).2.1); rintro e w74 ⟨rfl, hb⟩; have n0_ := Sd.mk (Kd.R_below (by (with_reducible repeat (first | apply Kd.R_alloc | apply Kd.R_drewN | apply Kd.R_drew)); exact HO824.out) hb); have n1_ := Sd.mk (blk_below (g := gb807) (o := .cells #[.int .i64 t804, .int .i64 t805] 25 (0, 0)) (by exact blkF BK807.out) hb); have n2_ := Sd.mk (blk_below (g := gb811) (o := .cells #[.int .i64 t808, .int .i64 t809] 25 (0, 0)) (by exact blkF BK811.out) hb); have n3_ := Sd.mk (below_step (by repeat (first | (with_reducible first | exact HB.out | apply bal | apply pbd | apply bd1 | refine bst ?_ GE807.out | refine bst ?_ GE811.out) | exact HB.out)) hb); clear HO824; clear BK807; clear BK811; clear HB; have HO824 := n0_; have BK807 := n1_; have BK811 := n2_; have HB := n3_; clear n0_ n1_ n2_ n3_; (try clear hb); (try clear hb2); (try clear hk); (try clear hi)) | (go_at_call 16; (with_reducible refine (l8_num.calls t825 t826 _ A45.out).mono ?_); rintro e w' ⟨rfl, ⟨nd, rfl⟩⟩) | (go_at_call 18; (with_reducible refine (r8_Check.calls k2 _ _ l1 t827 _ ?side1 ?side2 A46.out).mono ?_); (case side1 => repeat (first | exact (Kd.C_below HR1.out (by repeat (first | (with_reducible first | exact HB.out | apply bal | apply pbd | apply bd1 | refine bst ?_ GE807.out | refine bst ?_ GE811.out) | exact HB.out))) | (with_reducible refine Kd.C_alloc ?_ _) | (with_reducible refine Kd.C_drewN ?_ _) | (with_reducible refine Kd.C_drew ?_))); (case side2 => exact HC1.out); rintro e w75 ⟨rfl, hb⟩; have n0_ := Sd.mk (Kd.R_below (by (with_reducible repeat (first | apply Kd.R_alloc | apply Kd.R_drewN | apply Kd.R_drew)); exact HO824.out) hb); have n1_ := Sd.mk (blk_below (g := gb807) (o := .cells #[.int .i64 t804, .int .i64 t805] 25 (0, 0)) (by exact blkF BK807.out) hb); have n2_ := Sd.mk (blk_below (g := gb811) (o := .cells #[.int .i64 t808, .int .i64 t809] 25 (0, 0)) (by exact blkF BK811.out) hb); have n3_ := Sd.mk (below_step (by repeat (first | (with_reducible first | exact HB.out | apply bal | apply pbd | apply bd1 | refine bst ?_ GE807.out | refine bst ?_ GE811.out) | exact HB.out)) hb); clear HO824; clear BK807; clear BK811; clear HB; have HO824 := n0_; have BK807 := n1_; have BK811 := n2_; have HB := n3_; clear n0_ n1_ n2_ n3_; (try clear hb); (try clear hb2); (try clear hk); (try clear hi)) | (go_at_call 19; (with_reducible refine (v_Num.calls a2 t828 t829 _ A48.out).mono ?_); rintro e w76 ⟨rfl, hb⟩; have n0_ := Sd.mk (Kd.R_below (by (with_reducible repeat (first | apply Kd.R_alloc | apply Kd.R_drewN | apply Kd.R_drew)); exact HO824.out) hb); have n1_ := Sd.mk (blk_below (g := gb807) (o := .cells #[.int .i64 t804, .int .i64 t805] 25 (0, 0)) (by exact blkF BK807.out) hb); have n2_ := Sd.mk (blk_below (g := gb811) (o := .cells #[.int .i64 t808, .int .i64 t809] 25 (0, 0)) (by exact blkF BK811.out) hb); have n3_ := Sd.mk (below_step (by repeat (first | (with_reducible first | exact HB.out | apply bal | apply pbd | apply bd1 | refine bst ?_ GE807.out | refine bst ?_ GE811.out) | exact HB.out)) hb); clear HO824; clear BK807; clear BK811; clear HB; have HO824 := n0_; have BK807 := n1_; have BK811 := n2_; have HB := n3_; clear n0_ n1_ n2_ n3_; (try clear hb); (try clear hb2); (try clear hk); (try clear hi)) | (go_at_call 20; (with_reducible refine (r8_Num.calls a2 t830 t831 _ A49.out).mono ?_); rintro e w77 ⟨rfl, hb⟩; have n0_ := Sd.mk (Kd.R_below (by (with_reducible repeat (first | apply Kd.R_alloc | apply Kd.R_drewN | apply Kd.R_drew)); exact HO824.out) hb); have n1_ := Sd.mk (blk_below (g := gb807) (o := .cells #[.int .i64 t804, .int .i64 t805] 25 (0, 0)) (by exact blkF BK807.out) hb); have n2_ := Sd.mk (blk_below (g := gb811) (o := .cells #[.int .i64 t808, .int .i64 t809] 25 (0, 0)) (by exact blkF BK811.out) hb); have n3_ := Sd.mk (below_step (by repeat (first | (with_reducible first | exact HB.out | apply bal | apply pbd | apply bd1 | refine bst ?_ GE807.out | refine bst ?_ GE811.out) | exact HB.out)) hb); clear HO824; clear BK807; clear BK811; clear HB; have HO824 := n0_; have BK807 := n1_; have BK811 := n2_; have HB := n3_; clear n0_ n1_ n2_ n3_; (try clear hb); (try clear hb2); (try clear hk); (try clear hi)) | (go_at_call 21; (with_reducible refine (v_Truth.calls (decide (a2 > 0)) t832 t833 _ A51.out).mono ?_); rintro e w78 ⟨rfl, hb⟩; have n0_ := Sd.mk (Kd.R_below (by (with_reducible repeat (first | apply Kd.R_alloc | apply Kd.R_drewN | apply Kd.R_drew)); exact HO824.out) hb); have n1_ := Sd.mk (blk_below (g := gb807) (o := .cells #[.int .i64 t804, .int .i64 t805] 25 (0, 0)) (by exact blkF BK807.out) hb); have n2_ := Sd.mk (blk_below (g := gb811) (o := .cells #[.int .i64 t808, .int .i64 t809] 25 (0, 0)) (by exact blkF BK811.out) hb); have n3_ := Sd.mk (below_step (by repeat (first | (with_reducible first | exact HB.out | apply bal | apply pbd | apply bd1 | refine bst ?_ GE807.out | refine bst ?_ GE811.out) | exact HB.out)) hb); clear HO824; clear BK807; clear BK811; clear HB; have HO824 := n0_; have BK807 := n1_; have BK811 := n2_; have HB := n3_; clear n0_ n1_ n2_ n3_; (try clear hb); (try clear hb2); (try clear hk); (try clear hi)) | (go_at_call 22; (with_reducible refine (r8_Truth.calls (decide (a2 > 0)) t834 t835 _ A52.out).mono ?_); rintro e w79 ⟨rfl, hb⟩; have n0_ := Sd.mk (Kd.R_below (by (with_reducible repeat (first | apply Kd.R_alloc | apply Kd.R_drewN | apply Kd.R_drew)); exact HO824.out) hb); have n1_ := Sd.mk (blk_below (g := gb807) (o := .cells #[.int .i64 t804, .int .i64 t805] 25 (0, 0)) (by exact blkF BK807.out) hb); have n2_ := Sd.mk (blk_below (g := gb811) (o := .cells #[.int .i64 t808, .int .i64 t809] 25 (0, 0)) (by exact blkF BK811.out) hb); have n3_ := Sd.mk (below_step (by repeat (first | (with_reducible first | exact HB.out | apply bal | apply pbd | apply bd1 | refine bst ?_ GE807.out | refine bst ?_ GE811.out) | exact HB.out)) hb); clear HO824; clear BK807; clear BK811; clear HB; have HO824 := n0_; have BK807 := n1_; have BK811 := n2_; have HB := n3_; clear n0_ n1_ n2_ n3_; (try clear hb); (try clear hb2); (try clear hk); (try clear hi)) | (go_at_call 23; (with_reducible refine (v_Null.calls  t836 t837 _ A54.out).mono ?_); rintro e w80 ⟨rfl, hb⟩; have n0_ := Sd.mk (Kd.R_below (by (with_reducible repeat (first | apply Kd.R_alloc | apply Kd.R_drewN | apply Kd.R_drew)); exact HO824.out) hb); have n1_ := Sd.mk (blk_below (g := gb807) (o := .cells #[.int .i64 t804, .int .i64 t805] 25 (0, 0)) (by exact blkF BK807.out) hb); have n2_ := Sd.mk (blk_below (g := gb811) (o := .cells #[.int .i64 t808, .int .i64 t809] 25 (0, 0)) (by exact blkF BK811.out) hb); have n3_ := Sd.mk (below_step (by repeat (first | (with_reducible first | exact HB.out | apply bal | apply pbd | apply bd1 | refine bst ?_ GE807.out | refine bst ?_ GE811.out) | exact HB.out)) hb); clear HO824; clear BK807; clear BK811; clear HB; have HO824 := n0_; have BK807 := n1_; have BK811 := n2_; have HB := n3_; clear n0_ n1_ n2_ n3_; (try clear hb); (try clear hb2); (try clear hk); (try clear hi)) | (go_at_call 24; (with_reducible refine (r8_Null.calls  t838 t839 _ A55.out).mono ?_); rintro e w81 ⟨rfl, hb⟩; have n0_ := Sd.mk (Kd.R_below (by (with_reducible repeat (first | apply Kd.R_alloc | apply Kd.R_drewN | apply Kd.R_drew)); exact HO824.out) hb); have n1_ := Sd.mk (blk_below (g := gb807) (o := .cells #[.int .i64 t804, .int .i64 t805] 25 (0, 0)) (by exact blkF BK807.out) hb); have n2_ := Sd.mk (blk_below (g := gb811) (o := .cells #[.int .i64 t808, .int .i64 t809] 25 (0, 0)) (by exact blkF BK811.out) hb); have n3_ := Sd.mk (below_step (by repeat (first | (with_reducible first | exact HB.out | apply bal | apply pbd | apply bd1 | refine bst ?_ GE807.out | refine bst ?_ GE811.out) | exact HB.out)) hb); clear HO824; clear BK807; clear BK811; clear HB; have HO824 := n0_; have BK807 := n1_; have BK811 := n2_; have HB := n3_; clear n0_ n1_ n2_ n3_; (try clear hb); (try clear hb2); (try clear hk); (try clear hi)) | (go_at_call 25; (with_reducible refine (v_NaN.calls  t840 t841 _ A57.out).mono ?_); rintro e w82 ⟨rfl, hb⟩; have n0_ := Sd.mk (Kd.R_below (by (with_reducible repeat (first | apply Kd.R_alloc | apply Kd.R_drewN | apply Kd.R_drew)); exact HO824.out) hb); have n1_ := Sd.mk (blk_below (g := gb807) (o := .cells #[.int .i64 t804, .int .i64 t805] 25 (0, 0)) (by exact blkF BK807.out) hb); have n2_ := Sd.mk (blk_below (g := gb811) (o := .cells #[.int .i64 t808, .int .i64 t809] 25 (0, 0)) (by exact blkF BK811.out) hb); have n3_ := Sd.mk (below_step (by repeat (first | (with_reducible first | exact HB.out | apply bal | apply pbd | apply bd1 | refine bst ?_ GE807.out | refine bst ?_ GE811.out) | exact HB.out)) hb); clear HO824; clear BK807; clear BK811; clear HB; have HO824 := n0_; have BK807 := n1_; have BK811 := n2_; have HB := n3_; clear n0_ n1_ n2_ n3_; (try clear hb); (try clear hb2); (try clear hk); (try clear hi)) | (go_at_call 26; (with_reducible refine (r8_NaN.calls  t842 t843 _ A58.out).mono ?_); rintro e w83 ⟨rfl, hb⟩; have n0_ := Sd.mk (Kd.R_below (by (with_reducible repeat (first | apply Kd.R_alloc | apply Kd.R_drewN | apply Kd.R_drew)); exact HO824.out) hb); have n1_ := Sd.mk (blk_below (g := gb807) (o := .cells #[.int .i64 t804, .int .i64 t805] 25 (0, 0)) (by exact blkF BK807.out) hb); have n2_ := Sd.mk (blk_below (g := gb811) (o := .cells #[.int .i64 t808, .int .i64 t809] 25 (0, 0)) (by exact blkF BK811.out) hb); have n3_ := Sd.mk (below_step (by repeat (first | (with_reducible first | exact HB.out | apply bal | apply pbd | apply bd1 | refine bst ?_ GE807.out | refine bst ?_ GE811.out) | exact HB.out)) hb); clear HO824; clear BK807; clear BK811; clear HB; have HO824 := n0_; have BK807 := n1_; have BK811 := n2_; have HB := n3_; clear n0_ n1_ n2_ n3_; (try clear hb); (try clear hb2); (try clear hk); (try clear hi)) | (go_at_call 27; (with_reducible refine (v_Plus.calls  t844 t845 _ A60.out).mono ?_); rintro e w84 ⟨rfl, hb⟩; have n0_ := Sd.mk (Kd.R_below (by (with_reducible repeat (first | apply Kd.R_alloc | apply Kd.R_drewN | apply Kd.R_drew)); exact HO824.out) hb); have n1_ := Sd.mk (blk_below (g := gb807) (o := .cells #[.int .i64 t804, .int .i64 t805] 25 (0, 0)) (by exact blkF BK807.out) hb); have n2_ := Sd.mk (blk_below (g := gb811) (o := .cells #[.int .i64 t808, .int .i64 t809] 25 (0, 0)) (by exact blkF BK811.out) hb); have n3_ := Sd.mk (below_step (by repeat (first | (with_reducible first | exact HB.out | apply bal | apply pbd | apply bd1 | refine bst ?_ GE807.out | refine bst ?_ GE811.out) | exact HB.out)) hb); clear HO824; clear BK807; clear BK811; clear HB; have HO824 := n0_; have BK807 := n1_; have BK811 := n2_; have HB := n3_; clear n0_ n1_ n2_ n3_; (try clear hb); (try clear hb2); (try clear hk); (try clear hi)) | (go_at_call 28; (with_reducible refine (r8_Plus.calls  t846 t847 _ A61.out).mono ?_); rintro e w85 ⟨rfl, hb⟩; have n0_ := Sd.mk (Kd.R_below (by (with_reducible repeat (first | apply Kd.R_alloc | apply Kd.R_drewN | apply Kd.R_drew)); exact HO824.out) hb); have n1_ := Sd.mk (blk_below (g := gb807) (o := .cells #[.int .i64 t804, .int .i64 t805] 25 (0, 0)) (by exact blkF BK807.out) hb); have n2_ := Sd.mk (blk_below (g := gb811) (o := .cells #[.int .i64 t808, .int .i64 t809] 25 (0, 0)) (by exact blkF BK811.out) hb); have n3_ := Sd.mk (below_step (by repeat (first | (with_reducible first | exact HB.out | apply bal | apply pbd | apply bd1 | refine bst ?_ GE807.out | refine bst ?_ GE811.out) | exact HB.out)) hb); clear HO824; clear BK807; clear BK811; clear HB; have HO824 := n0_; have BK807 := n1_; have BK811 := n2_; have HB := n3_; clear n0_ n1_ n2_ n3_; (try clear hb); (try clear hb2); (try clear hk); (try clear hi)) | (go_at_call 29; (with_reducible refine (v_Minus.calls  t848 t849 _ A63.out).mono ?_); rintro e w86 ⟨rfl, hb⟩; have n0_ := Sd.mk (Kd.R_below (by (with_reducible repeat (first | apply Kd.R_alloc | apply Kd.R_drewN | apply Kd.R_drew)); exact HO824.out) hb); have n1_ := Sd.mk (blk_below (g := gb807) (o := .cells #[.int .i64 t804, .int .i64 t805] 25 (0, 0)) (by exact blkF BK807.out) hb); have n2_ := Sd.mk (blk_below (g := gb811) (o := .cells #[.int .i64 t808, .int .i64 t809] 25 (0, 0)) (by exact blkF BK811.out) hb); have n3_ := Sd.mk (below_step (by repeat (first | (with_reducible first | exact HB.out | apply bal | apply pbd | apply bd1 | refine bst ?_ GE807.out | refine bst ?_ GE811.out) | exact HB.out)) hb); clear HO824; clear BK807; clear BK811; clear HB; have HO824 := n0_; have BK807 := n1_; have BK811 := n2_; have HB := n3_; clear n0_ n1_ n2_ n3_; (try clear hb); (try clear hb2); (try clear hk); (try clear hi)) | (go_at_call 30; (with_reducible refine (r8_Minus.calls  t850 t851 _ A64.out).mono ?_); rintro e w87 ⟨rfl, hb⟩; have n0_ := Sd.mk (Kd.R_below (by (with_reducible repeat (first | apply Kd.R_alloc | apply Kd.R_drewN | apply Kd.R_drew)); exact HO824.out) hb); have n1_ := Sd.mk (blk_below (g := gb807) (o := .cells #[.int .i64 t804, .int .i64 t805] 25 (0, 0)) (by exact blkF BK807.out) hb); have n2_ := Sd.mk (blk_below (g := gb811) (o := .cells #[.int .i64 t808, .int .i64 t809] 25 (0, 0)) (by exact blkF BK811.out) hb); have n3_ := Sd.mk (below_step (by repeat (first | (with_reducible first | exact HB.out | apply bal | apply pbd | apply bd1 | refine bst ?_ GE807.out | refine bst ?_ GE811.out) | exact HB.out)) hb); clear HO824; clear BK807; clear BK811; clear HB; have HO824 := n0_; have BK807 := n1_; have BK811 := n2_; have HB := n3_; clear n0_ n1_ n2_ n3_; (try clear hb); (try clear hb2); (try clear hk); (try clear hi)) | (go_at_call 10; (with_reducible refine (l8_live.calls  t852 _ A66.out (HG.out.below (by repeat (first | (with_reducible first | exact HB.out | apply bal | apply pbd | apply bd1 | refine bst ?_ GE807.out | refine bst ?_ GE811.out) | exact HB.out)))).mono ?_); rintro e w88 ⟨rfl, hb⟩; have n0_ := Sd.mk (Kd.R_below (by (with_reducible repeat (first | apply Kd.R_alloc | apply Kd.R_drewN | apply Kd.R_drew)); exact HO824.out) hb); have n1_ := Sd.mk (blk_below (g := gb807) (o := .cells #[.int .i64 t804, .int .i64 t805] 25 (0, 0)) (by exact blkF BK807.out) hb); have n2_ := Sd.mk (blk_below (g := gb811) (o := .cells #[.int .i64 t808, .int .i64 t809] 25 (0, 0)) (by exact blkF BK811.out) hb); have n3_ := Sd.mk (below_step (by repeat (first | (with_reducible first | exact HB.out | apply bal | apply pbd | apply bd1 | refine bst ?_ GE807.out | refine bst ?_ GE811.out) | exact HB.out)) hb); clear HO824; clear BK807; clear BK811; clear HB; have HO824 := n0_; have BK807 := n1_; have BK811 := n2_; have HB := n3_; clear n0_ n1_ n2_ n3_; (try clear hb); (try clear hb2); (try clear hk); (try clear hi)))
                  go_ret
                  exact ⟨by first | rfl | (simp [errW_none, errW_some] <;> rfl) | (simp [*, errW_none, errW_some] <;> rfl), by repeat (first | (with_reducible first | exact HB.out | apply bal | apply pbd | apply bd1 | refine bst ?_ GE807.out | refine bst ?_ GE811.out) | exact HB.out)⟩
                 ·rw [if_neg c65] at H; cases H
                ·rw [if_neg c62] at H; cases H
               ·rw [if_neg c59] at H; cases H
              ·rw [if_neg c56] at H; cases H
             ·rw [if_neg c53] at H; cases H
            ·rw [if_neg c50] at H; cases H
           ·rw [if_neg c47] at H; cases H
          ·rw [if_neg c43] at H
           exact absurd H (by simp)
         ·rw [if_neg c42] at H; cases H
        ·rw [if_neg c40] at H; cases H
    ·rw [if_neg c9] at H
     exact absurd H (by simp)
end Go.Proofs.YtcmiehddjgfjaaaGreatDoor.A
namespace Go.Proofs.YtcmiehddjgfjaaaGreatDoor.A
open Go.RowKit Go.Proofs.YtcmiehddjgfjaaaGreatDoorW.PrintWords Go.Proofs.YtcmiehddjgfjaaaGreatDoorW.PrintLast Go.Proofs.YtcmiehddjgfjaaaGreatDoorW.PrintMore
set_option linter.unusedVariables false
set_option linter.unusedSimpArgs false
theorem vCheck_is (l : List S25) : v_Check.f l = some (if l.any badV then 80 else 0) := rfl
theorem does_end (l : List S25) (hm : l.length ≤ 100) (n e v0 v1 : Int) : Ev (fun k => l8_ValueDoes.l0 k l n e e (l.length : Int) v0 v1 v0 v1) true := by
 have hnum : ∀ n : Int, l8_num.f n = some n := fun _ => rfl
 have hc := check_ev l (by omega)
 refine Ev.step (f := fun k => (r8_Check.f k l).bind fun t827 => (if (if l.any badV then (80 : Int) else 0) = t827 then (some true) else (none))) (fun k => ?_) (Ev.bind (f := fun k t827 => (if (if l.any badV then (80 : Int) else 0) = t827 then (some true) else (none))) hc ⟨0, fun k _ => ?_⟩)
 ·simp only [l8_ValueDoes.l0]
  rw [if_neg (by omega)]
  have e1 : (v0 == v0 && (v1 == v1)) = true := by simp
  rw [e1]
  simp only [if_true, Option.bind_some, hnum]
  rw [if_pos (by simp; omega)]
  rw [show ([] ++ l : List S25) = l from rfl, vCheck_is, num_is, rnum_is, truth_is, rtruth_is, live_is]
  have h1 : v_Null.f = some (2, 0) := rfl
  have h2 : r8_Null.f = some (2, 0) := rfl
  have h3 : v_NaN.f = some (3, 0) := rfl
  have h4 : r8_NaN.f = some (3, 0) := rfl
  have h5 : v_Plus.f = some (4, 0) := rfl
  have h6 : r8_Plus.f = some (4, 0) := rfl
  have h7 : v_Minus.f = some (5, 0) := rfl
  have h8 : r8_Minus.f = some (5, 0) := rfl
  simp only [Option.bind_some, h1, h2, h3, h4, h5, h6, h7, h8, beq_self_eq_true, Bool.and_self, if_true]
 ·show (if _ = _ then _ else _) = _
  rw [if_pos rfl]
theorem does_loop (l : List S25) (hm : l.length ≤ 100) (n e v0 v1 : Int) : ∀ (d i : Nat), i + d = l.length → Ev (fun k => l8_ValueDoes.l0 k l n e e (i : Int) v0 v1 v0 v1) true
 | 0, i, hd => by
  have hi : i = l.length := by omega
  rw [hi]
  exact does_end l hm n e v0 v1
 | d + 1, i, hd => by
  have hi : i < l.length := by omega
  have e1 : wrap64 ((i : Int) + 1) = ((i + 1 : Nat) : Int) := by rw [wrap_id (by omega) (by omega)]; omega
  refine Ev.step (fun k => ?_) (does_loop l hm n e v0 v1 d (i + 1) (by omega))
  simp only [l8_ValueDoes.l0]
  rw [if_pos (by omega), if_pos (by omega), rd_at hi, ris_is, e1]
  simp only [Option.bind_some]
  by_cases hv : isV (l[i].f0, l[i].f1)
  ·have t1 := true_is (l[i].f0, l[i].f1)
   have t2 := rtrue_is hv
   simp only at t1 t2
   rw [decide_eq_true hv, if_pos rfl, t1, t2]
   simp
  ·rw [decide_eq_false hv, if_neg (by decide)]
theorem does_law (op : ByteArray) (l : List S25) (n : Int) : Ev (fun k => l8_ValueDoes.f k op l n) true := by
 have hj : Ev (fun k => l8_ValueDoes.j0 k op l n true) true := Ev.step (fun k => by simp only [l8_ValueDoes.j0, if_true]) live_ev
 by_cases hm : (l.length : Int) > 100
 ·refine Ev.congr (fun k => ?_) hj
  unfold l8_ValueDoes.f
  rw [if_pos hm]
 ·by_cases hs : (op.size : Int) > 20000
  ·refine Ev.congr (fun k => ?_) hj
   unfold l8_ValueDoes.f
   rw [if_neg hm, decide_eq_true hs]
  ·refine Ev.congr (f := fun k => l8_ValueDoes.j0 k op l n false) (fun k => ?_) ?_
   ·unfold l8_ValueDoes.f
    rw [if_neg hm, decide_eq_false hs]
   ·have hd : v_Do.f op l = some ((vDo op (l.map sv)).1.1, (vDo op (l.map sv)).1.2, (vDo op (l.map sv)).2) := rfl
    have hr := rdo_ev op l (by omega)
    generalize (vDo op (l.map sv)).1.1 = r1 at hd hr
    generalize (vDo op (l.map sv)).1.2 = r2 at hd hr
    generalize (vDo op (l.map sv)).2 = r3 at hd hr
    refine Ev.step (f := fun k => (r8_Do.f k op l).bind fun bt808 => (l8_ValueDoes.l0 k l n r3 bt808.2.2 0 r1 r2 bt808.1 bt808.2.1)) (fun k => ?_) (Ev.bind (f := fun k bt808 => (l8_ValueDoes.l0 k l n r3 bt808.2.2 0 r1 r2 bt808.1 bt808.2.1)) hr (does_loop l (by omega) n r3 r1 r2 l.length 0 (by omega)))
    simp only [l8_ValueDoes.j0]
    rw [if_neg (by decide)]
    simp only [Option.bind_some]
    rw [if_pos (by simp; omega), show ([] ++ l : List S25) = l from rfl, hd]
    rfl
end Go.Proofs.YtcmiehddjgfjaaaGreatDoor.A
