/- A part of the proof of LawValueDoes: contracts and plain laws, put together by a program of this session. -/
import Derived.Test.YtcmiehddjgfjaaaGreatDoorCDoe1
import Derived.Shelf.SlicesQ.IndexFunc
import Derived.Test.YtcmiehddjgfjaaaGreatDoorProg
import Derived.Lib.ItoaNum
import Derived.Lib.TrimByte
import Derived.Lib.IndexMore
import Derived.Lib.Repeat
import Derived.Lib.Strings
import Derived.Lib.ConvBytes
import Derived.Lib.Hide
import Derived.Laws.Strings3
import Derived.WalkKit
import Derived.BigCall
import Derived.BigGuard
import Derived.Maps.OwnOps
import Derived.Laws.EntriesVeiled
import Derived.Shelf.Abstract
import Derived.Outline
import Derived.Shelf.SlicesE.Index
import Derived.Carry
namespace Go.Proofs.YtcmiehddjgfjaaaGreatDoor.A
open Go.RowKit Go.Proofs.YtcmiehddjgfjaaaGreatDoorW.PrintWords Go.Proofs.YtcmiehddjgfjaaaGreatDoorW.PrintLast Go.Proofs.YtcmiehddjgfjaaaGreatDoorW.PrintMore
attribute [local go_sem] max2_int min2_int max_two min_two max_three min_three max_four min_four   -- for this text's walks alone
set_option linter.unusedVariables false
set_option linter.unusedSimpArgs false
def v_ones_1.f (a0 : Int) : Option (Int) := some (wrap64 (-a0))
set_option maxHeartbeats 8000000 in
set_option maxRecDepth 100000 in
theorem v_ones_1.calls (a0 : Int) (r : Int) (w : World) (h : v_ones_1.f a0 = some r) :
  Calls Tryz.prog 53 #[.int .i64 a0] w fun e w' => e = .returned (.int .i64 r) ∧ Drawn0 w w' := by
 have H : (some (wrap64 (-a0))) = some r := h
 clear h
 obtain rfl := Option.some.inj H
 go_enter Tryz.func53, Tryz.ntmps53
 go_wp2
 go_ret
 exact ⟨by first | rfl | (simp; done) | (simp [*]; done), by repeat (first | exact Drawn0.refl _ | apply Drawn0.step)⟩
def v_ones_2.f (a0 : Int) : Option (Int) := some (mx a0 (wrap64 (-a0)))
set_option maxHeartbeats 8000000 in
set_option maxRecDepth 100000 in
theorem v_ones_2.calls (a0 : Int) (r : Int) (w : World) (h : v_ones_2.f a0 = some r) :
  Calls Tryz.prog 54 #[.int .i64 a0] w fun e w' => e = .returned (.int .i64 r) ∧ Below w.heap.size w w' := by
 have HB := Sd.mk (Below.refl w.heap.size w)
 have H : (some (mx a0 (wrap64 (-a0)))) = some r := h
 clear h
 obtain ⟨ji2, hji2⟩ : ∃ j_ : Int, (mx a0 (wrap64 (-a0))) = j_ := ⟨_, rfl⟩
 replace H : (some ji2) = some r := by first | (rw [hji2] at H; exact H) | (simp only [hji2] at H ⊢; exact H)
 have hji2_ : (if a0 < (wrap64 (-a0)) then (wrap64 (-a0)) else a0) = ji2 := hji2
 obtain rfl := Option.some.inj H
 go_enter Tryz.func54, Tryz.ntmps54
 go_wp2
 go_ret
 exact ⟨by first | rfl | (simp [errW_none, errW_some] <;> rfl) | (simp only [← hji2]; first | rfl | (simp [errW_none, errW_some] <;> rfl)) | (simp [*, errW_none, errW_some] <;> rfl), by repeat (first | (with_reducible first | exact HB.out | apply bal | apply pbd | apply bd1) | exact HB.out)⟩
def v_ones_3.f (a0_0 : Int) (a0_1 : Int) : Option (Int × Int) := (v_finite.f a0_0 a0_1).bind fun t176 => (if t176 = true then ((v_Num.f (wrap64 (a0_1 - (Int.tmod (wrap64 ((Int.tmod a0_1 1000) + 1000)) 1000)))).bind fun bt177 => (some (bt177.1, bt177.2))) else (some (a0_0, a0_1)))
set_option maxHeartbeats 8000000 in
set_option maxRecDepth 100000 in
theorem v_ones_3.calls (a0_0 : Int) (a0_1 : Int) (r1 : Int) (r2 : Int) (w : World) (h : v_ones_3.f a0_0 a0_1 = some (r1, r2)) :
  Calls Tryz.prog 55 #[.agg #[.int .i64 a0_0, .int .i64 a0_1]] w fun e w' => e = .returned (.agg #[.int .i64 r1, .int .i64 r2]) ∧ Below w.heap.size w w' := by
 have hu25 := Tryz.underlying25
 have HB := Sd.mk (Below.refl w.heap.size w)
 have H : ((v_finite.f a0_0 a0_1).bind fun t176 => (if t176 = true then ((v_Num.f (wrap64 (a0_1 - (Int.tmod (wrap64 ((Int.tmod a0_1 1000) + 1000)) 1000)))).bind fun bt177 => (some (bt177.1, bt177.2))) else (some (a0_0, a0_1)))) = some (r1, r2) := h
 clear h
 replace H := Option.bind_eq_some_iff.mp H
 obtain ⟨t176, A20, H⟩ := H
 replace H : (if t176 = true then ((v_Num.f (wrap64 (a0_1 - (Int.tmod (wrap64 ((Int.tmod a0_1 1000) + 1000)) 1000)))).bind fun bt177 => (some (bt177.1, bt177.2))) else (some (a0_0, a0_1))) = some (r1, r2) := H
 have A2 := Sd.mk A20
 clear A20
 by_cases c3 : t176 = true
 ·subst c3
  have H1 : ((v_Num.f (wrap64 (a0_1 - (Int.tmod (wrap64 ((Int.tmod a0_1 1000) + 1000)) 1000)))).bind fun bt177 => (some (bt177.1, bt177.2))) = some (r1, r2) := by rw [if_pos rfl] at H; exact H
  clear H
  have H := H1
  clear H1
  replace H := Option.bind_eq_some_iff.mp H
  obtain ⟨⟨t177, t178⟩, A40, H⟩ := H
  replace H : (some (t177, t178)) = some (r1, r2) := H
  have A4 := Sd.mk A40
  clear A40
  simp only [Option.some.injEq, Prod.mk.injEq] at H
  obtain ⟨rfl, rfl⟩ := H
  go_enter Tryz.func55, Tryz.ntmps55
  go_wp2_with (first | ((with_reducible refine gate_dst (N := 1) rfl ?_); refine box_event ?hg (N := 1) ?hd (cs := #[.int .i64 a0_0, .int .i64 a0_1]) (t := 25) ?hr ?_; (case hd => rfl); (case hg => rfl); (case hr => first | (go_simp; done) | (go_simp; rfl)); intro gb174 hg w5 hbox hb; have n0_ := Sd.mk (below_step (by exact blwF HB.out) hb); have n1_ := Sd.mk (hbox); have n2_ := Sd.mk ((by rw [hg]; exact (below_size (by exact blwF HB.out)) : w.heap.size ≤ gb174)); have n3_ := Sd.mk ((by rw [hg]; exact (below_size (by exact blwF HB.out)) : w.heap.size ≤ gb174)); clear HB; have HB := n0_; have BK174 := n1_; have GW174 := n2_; have GE174 := n3_; clear n0_ n1_ n2_ n3_; clear hb hbox hg) | ((with_reducible refine gate_dst (N := 2) rfl ?_); refine box_event ?hg (N := 2) ?hd (cs := #[.int .i64 0, .int .i64 0]) (t := 25) ?hr ?_; (case hd => rfl); (case hg => rfl); (case hr => first | (go_simp; done) | (go_simp; rfl)); intro gb175 hg w6 hbox hb; have n0_ := Sd.mk (blk_below (g := gb174) (o := .cells #[.int .i64 a0_0, .int .i64 a0_1] 25 (0, 0)) (by exact blkF BK174.out) hb); have n1_ := Sd.mk (below_step (by repeat (first | (with_reducible first | exact HB.out | apply bal | apply pbd | apply bd1 | refine bst ?_ GE174.out) | exact HB.out)) hb); have n2_ := Sd.mk (hbox); have n3_ := Sd.mk ((by rw [hg]; exact (below_size (by repeat (first | (with_reducible first | exact HB.out | apply bal | apply pbd | apply bd1 | refine bst ?_ GE174.out) | exact HB.out))) : w.heap.size ≤ gb175)); have n4_ := Sd.mk ((by rw [hg]; exact (below_size (by repeat (first | (with_reducible first | exact HB.out | apply bal | apply pbd | apply bd1 | refine bst ?_ GE174.out) | exact HB.out))) : w.heap.size ≤ gb175)); have n5_ := Sd.mk ((by rw [hg]; exact Nat.ne_of_lt (blk_lt (g := gb174) (o := .cells #[.int .i64 a0_0, .int .i64 a0_1] 25 (0, 0)) (by exact blkF BK174.out)) : gb174 ≠ gb175)); have n6_ := Sd.mk ((by rw [hg]; exact Nat.ne_of_gt (blk_lt (g := gb174) (o := .cells #[.int .i64 a0_0, .int .i64 a0_1] 25 (0, 0)) (by exact blkF BK174.out)) : gb175 ≠ gb174)); clear BK174; clear HB; have BK174 := n0_; have HB := n1_; have BK175 := n2_; have GW175 := n3_; have GE175 := n4_; have NB174_175 := n5_; have NB175_174 := n6_; clear n0_ n1_ n2_ n3_ n4_ n5_ n6_; clear hb hbox hg; have hnb7 := NB174_175.out; have hnc7 := NB175_174.out; have hcz8_0 : w6.cell? ⟨gb174, 0, none⟩ = some (.int .i64 a0_0) := (blk_cell BK174.out 0).trans rfl; have hcz8_1 : w6.cell? ⟨gb174, 1, none⟩ = some (.int .i64 a0_1) := (blk_cell BK174.out 1).trans rfl; have hfz8_0 := blk_frozen BK174.out 0; have hfz8_1 := blk_frozen BK174.out 1) | ((with_reducible refine gate_callee (f := 56) rfl ?_); refine goesL_ (some 4) rfl rfl Tryz.func56 (by kernel_rfl) rfl #[.agg #[.int .i64 a0_0, .int .i64 a0_1]] rfl (by (try simp only [List.map_toArray, List.map_cons, List.map_nil]); first | done | rfl | (simp only [List.length_drop, List.length_take]; rfl)) ?_; (with_reducible refine (v_finite.calls a0_0 a0_1 true _ A2.out).mono ?_); rintro e w9 ⟨rfl, hb⟩; refine ⟨_, rfl, ?_⟩; have n0_ := Sd.mk (blk_below (g := gb174) (o := .cells #[.int .i64 a0_0, .int .i64 a0_1] 25 (0, 0)) (by exact blkF BK174.out) hb); have n1_ := Sd.mk (blk_below (g := gb175) (o := .cells #[.int .i64 0, .int .i64 0] 25 (0, 0)) (by exact blkF BK175.out) hb); have n2_ := Sd.mk (below_step (by repeat (first | (with_reducible first | exact HB.out | apply bal | apply pbd | apply bd1 | refine bst ?_ GE174.out | refine bst ?_ GE175.out) | exact HB.out)) hb); clear BK174; clear BK175; clear HB; have BK174 := n0_; have BK175 := n1_; have HB := n2_; clear n0_ n1_ n2_; (try clear hb); (try clear hb2); (try clear hk); (try clear hi); have hcz10_0 : w9.cell? ⟨gb174, 0, none⟩ = some (.int .i64 a0_0) := (blk_cell BK174.out 0).trans rfl; have hcz10_1 : w9.cell? ⟨gb174, 1, none⟩ = some (.int .i64 a0_1) := (blk_cell BK174.out 1).trans rfl; have hfz10_0 := blk_frozen BK174.out 0; have hfz10_1 := blk_frozen BK174.out 1) | ((with_reducible refine gate_callee (f := 19) rfl ?_); refine goesL_ (some 13) rfl rfl Tryz.func19 (by kernel_rfl) rfl #[.int .i64 (wrap64 (a0_1 - (Int.tmod (wrap64 ((Int.tmod a0_1 1000) + 1000)) 1000)))] rfl (by (try simp only [List.map_toArray, List.map_cons, List.map_nil]); first | done | rfl | (simp only [List.length_drop, List.length_take]; rfl)) ?_; (with_reducible refine (v_Num.calls (wrap64 (a0_1 - (Int.tmod (wrap64 ((Int.tmod a0_1 1000) + 1000)) 1000))) t177 t178 _ A4.out).mono ?_); rintro e w11 ⟨rfl, hb⟩; refine ⟨_, rfl, ?_⟩; have n0_ := Sd.mk (blk_below (g := gb174) (o := .cells #[.int .i64 a0_0, .int .i64 a0_1] 25 (0, 0)) (by exact blkF BK174.out) hb); have n1_ := Sd.mk (blk_below (g := gb175) (o := .cells #[.int .i64 0, .int .i64 0] 25 (0, 0)) (by exact blkF BK175.out) hb); have n2_ := Sd.mk (below_step (by repeat (first | (with_reducible first | exact HB.out | apply bal | apply pbd | apply bd1 | refine bst ?_ GE174.out | refine bst ?_ GE175.out) | exact HB.out)) hb); clear BK174; clear BK175; clear HB; have BK174 := n0_; have BK175 := n1_; have HB := n2_; clear n0_ n1_ n2_; (try clear hb); (try clear hb2); (try clear hk); (try clear hi); have hcz12_0 : w11.cell? ⟨gb175, 0, none⟩ = some (.int .i64 0) := (blk_cell BK175.out 0).trans rfl; have hcz12_1 : w11.cell? ⟨gb175, 1, none⟩ = some (.int .i64 0) := (blk_cell BK175.out 1).trans rfl; have hfz12_0 := blk_frozen BK175.out 0; have hfz12_1 := blk_frozen BK175.out 1))
  refine bodyPost_ret (results_cell_row rfl _ _ gb175 25 #[.int .i64 t177, .int .i64 t178] (0, 0) _ rfl (by (with_reducible repeat (first | refine blk_drewN ?_ _ | refine blk_drew ?_ | refine blk_alloc ?_ _)); refine blk_put (cs := #[.int .i64 t177, .int .i64 0]) ?_ 1 _ rfl; (with_reducible repeat (first | refine blk_drewN ?_ _ | refine blk_drew ?_ | refine blk_alloc ?_ _)); refine blk_put (cs := #[.int .i64 0, .int .i64 0]) ?_ 0 _ rfl; (with_reducible repeat (first | refine blk_drewN ?_ _ | refine blk_drew ?_ | refine blk_alloc ?_ _)); exact BK175.out) Tryz.underlying25 rfl (by kernel_rfl)) rfl ?_
  exact ⟨by first | rfl | (simp [errW_none, errW_some] <;> rfl) | (simp [*, errW_none, errW_some] <;> rfl), by repeat (first | (with_reducible first | exact HB.out | apply bal | apply pbd | apply bd1 | refine bst ?_ GE174.out | refine bst ?_ GE175.out) | exact HB.out)⟩
 ·replace c3 := Bool.eq_false_iff.mpr c3
  subst c3
  have H1 : (some (a0_0, a0_1)) = some (r1, r2) := by rw [if_neg (show ¬ (false = true) by decide)] at H; exact H
  clear H
  have H := H1
  clear H1
  simp only [Option.some.injEq, Prod.mk.injEq] at H
  obtain ⟨rfl, rfl⟩ := H
  go_enter Tryz.func55, Tryz.ntmps55
  go_wp2_with (first | ((with_reducible refine gate_dst (N := 1) rfl ?_); refine box_event ?hg (N := 1) ?hd (cs := #[.int .i64 a0_0, .int .i64 a0_1]) (t := 25) ?hr ?_; (case hd => rfl); (case hg => rfl); (case hr => first | (go_simp; done) | (go_simp; rfl)); intro gb174 hg w13 hbox hb; have n0_ := Sd.mk (below_step (by exact blwF HB.out) hb); have n1_ := Sd.mk (hbox); have n2_ := Sd.mk ((by rw [hg]; exact (below_size (by exact blwF HB.out)) : w.heap.size ≤ gb174)); have n3_ := Sd.mk ((by rw [hg]; exact (below_size (by exact blwF HB.out)) : w.heap.size ≤ gb174)); clear HB; have HB := n0_; have BK174 := n1_; have GW174 := n2_; have GE174 := n3_; clear n0_ n1_ n2_ n3_; clear hb hbox hg) | ((with_reducible refine gate_dst (N := 2) rfl ?_); refine box_event ?hg (N := 2) ?hd (cs := #[.int .i64 0, .int .i64 0]) (t := 25) ?hr ?_; (case hd => rfl); (case hg => rfl); (case hr => first | (go_simp; done) | (go_simp; rfl)); intro gb175 hg w14 hbox hb; have n0_ := Sd.mk (blk_below (g := gb174) (o := .cells #[.int .i64 a0_0, .int .i64 a0_1] 25 (0, 0)) (by exact blkF BK174.out) hb); have n1_ := Sd.mk (below_step (by repeat (first | (with_reducible first | exact HB.out | apply bal | apply pbd | apply bd1 | refine bst ?_ GE174.out) | exact HB.out)) hb); have n2_ := Sd.mk (hbox); have n3_ := Sd.mk ((by rw [hg]; exact (below_size (by repeat (first | (with_reducible first | exact HB.out | apply bal | apply pbd | apply bd1 | refine bst ?_ GE174.out) | exact HB.out))) : w.heap.size ≤ gb175)); have n4_ := Sd.mk ((by rw [hg]; exact (below_size (by repeat (first | (with_reducible first | exact HB.out | apply bal | apply pbd | apply bd1 | refine bst ?_ GE174.out) | exact HB.out))) : w.heap.size ≤ gb175)); have n5_ := Sd.mk ((by rw [hg]; exact Nat.ne_of_lt (blk_lt (g := gb174) (o := .cells #[.int .i64 a0_0, .int .i64 a0_1] 25 (0, 0)) (by exact blkF BK174.out)) : gb174 ≠ gb175)); have n6_ := Sd.mk ((by rw [hg]; exact Nat.ne_of_gt (blk_lt (g := gb174) (o := .cells #[.int .i64 a0_0, .int .i64 a0_1] 25 (0, 0)) (by exact blkF BK174.out)) : gb175 ≠ gb174)); clear BK174; clear HB; have BK174 := n0_; have HB := n1_; have BK175 := n2_; have GW175 := n3_; have GE175 := n4_; have NB174_175 := n5_; have NB175_174 := n6_; clear n0_ n1_ n2_ n3_ n4_ n5_ n6_; clear hb hbox hg; have hnb15 := NB174_175.out; have hnc15 := NB175_174.out; have hcz16_0 : w14.cell? ⟨gb174, 0, none⟩ = some (.int .i64 a0_0) := (blk_cell BK174.out 0).trans rfl; have hcz16_1 : w14.cell? ⟨gb174, 1, none⟩ = some (.int .i64 a0_1) := (blk_cell BK174.out 1).trans rfl; have hfz16_0 := blk_frozen BK174.out 0; have hfz16_1 := blk_frozen BK174.out 1) | ((with_reducible refine gate_callee (f := 56) rfl ?_); refine goesL_ (some 4) rfl rfl Tryz.func56 (by kernel_rfl) rfl #[.agg #[.int .i64 a0_0, .int .i64 a0_1]] rfl (by (try simp only [List.map_toArray, List.map_cons, List.map_nil]); first | done | rfl | (simp only [List.length_drop, List.length_take]; rfl)) ?_; (with_reducible refine (v_finite.calls a0_0 a0_1 false _ A2.out).mono ?_); rintro e w17 ⟨rfl, hb⟩; refine ⟨_, rfl, ?_⟩; have n0_ := Sd.mk (blk_below (g := gb174) (o := .cells #[.int .i64 a0_0, .int .i64 a0_1] 25 (0, 0)) (by exact blkF BK174.out) hb); have n1_ := Sd.mk (blk_below (g := gb175) (o := .cells #[.int .i64 0, .int .i64 0] 25 (0, 0)) (by exact blkF BK175.out) hb); have n2_ := Sd.mk (below_step (by repeat (first | (with_reducible first | exact HB.out | apply bal | apply pbd | apply bd1 | refine bst ?_ GE174.out | refine bst ?_ GE175.out) | exact HB.out)) hb); clear BK174; clear BK175; clear HB; have BK174 := n0_; have BK175 := n1_; have HB := n2_; clear n0_ n1_ n2_; (try clear hb); (try clear hb2); (try clear hk); (try clear hi); have hcz18_0 : w17.cell? ⟨gb174, 0, none⟩ = some (.int .i64 a0_0) := (blk_cell BK174.out 0).trans rfl; have hcz18_1 : w17.cell? ⟨gb174, 1, none⟩ = some (.int .i64 a0_1) := (blk_cell BK174.out 1).trans rfl; have hfz18_0 := blk_frozen BK174.out 0; have hfz18_1 := blk_frozen BK174.out 1; have hcz19_0 : w17.cell? ⟨gb175, 0, none⟩ = some (.int .i64 0) := (blk_cell BK175.out 0).trans rfl; have hcz19_1 : w17.cell? ⟨gb175, 1, none⟩ = some (.int .i64 0) := (blk_cell BK175.out 1).trans rfl; have hfz19_0 := blk_frozen BK175.out 0; have hfz19_1 := blk_frozen BK175.out 1))
  refine bodyPost_ret (results_cell_row rfl _ _ gb175 25 #[.int .i64 a0_0, .int .i64 a0_1] (0, 0) _ rfl (by (with_reducible repeat (first | refine blk_drewN ?_ _ | refine blk_drew ?_ | refine blk_alloc ?_ _)); refine blk_put (cs := #[.int .i64 a0_0, .int .i64 0]) ?_ 1 _ rfl; (with_reducible repeat (first | refine blk_drewN ?_ _ | refine blk_drew ?_ | refine blk_alloc ?_ _)); refine blk_put (cs := #[.int .i64 0, .int .i64 0]) ?_ 0 _ rfl; (with_reducible repeat (first | refine blk_drewN ?_ _ | refine blk_drew ?_ | refine blk_alloc ?_ _)); exact BK175.out) Tryz.underlying25 rfl (by kernel_rfl)) rfl ?_
  exact ⟨by first | rfl | (simp [errW_none, errW_some] <;> rfl) | (simp [*, errW_none, errW_some] <;> rfl), by repeat (first | (with_reducible first | exact HB.out | apply bal | apply pbd | apply bd1 | refine bst ?_ GE174.out | refine bst ?_ GE175.out) | exact HB.out)⟩
def v_Truth.f (a0 : Bool) : Option (Int × Int) := if a0 = true then ((v_Num.f 1000).bind fun bt180 => (some (bt180.1, bt180.2))) else ((v_Num.f 0).bind fun bt182 => (some (bt182.1, bt182.2)))
set_option maxHeartbeats 8000000 in
set_option maxRecDepth 100000 in
theorem v_Truth.calls (a0 : Bool) (r1 : Int) (r2 : Int) (w : World) (h : v_Truth.f a0 = some (r1, r2)) :
  Calls Tryz.prog 21 #[.bool a0] w fun e w' => e = .returned (.agg #[.int .i64 r1, .int .i64 r2]) ∧ Below w.heap.size w w' := by
 have hu25 := Tryz.underlying25
 have HB := Sd.mk (Below.refl w.heap.size w)
 have H : (if a0 = true then ((v_Num.f 1000).bind fun bt180 => (some (bt180.1, bt180.2))) else ((v_Num.f 0).bind fun bt182 => (some (bt182.1, bt182.2)))) = some (r1, r2) := h
 clear h
 by_cases c2 : a0 = true
 ·subst c2
  have H1 : ((v_Num.f 1000).bind fun bt180 => (some (bt180.1, bt180.2))) = some (r1, r2) := by rw [if_pos rfl] at H; exact H
  clear H
  have H := H1
  clear H1
  replace H := Option.bind_eq_some_iff.mp H
  obtain ⟨⟨t180, t181⟩, A30, H⟩ := H
  replace H : (some (t180, t181)) = some (r1, r2) := H
  have A3 := Sd.mk A30
  clear A30
  simp only [Option.some.injEq, Prod.mk.injEq] at H
  obtain ⟨rfl, rfl⟩ := H
  go_enter Tryz.func21, Tryz.ntmps21
  go_wp2_with (first | ((with_reducible refine gate_dst (N := 2) rfl ?_); refine box_event ?hg (N := 2) ?hd (cs := #[.int .i64 0, .int .i64 0]) (t := 25) ?hr ?_; (case hd => rfl); (case hg => rfl); (case hr => first | (go_simp; done) | (go_simp; rfl)); intro gb179 hg w4 hbox hb; have n0_ := Sd.mk (below_step (by exact blwF HB.out) hb); have n1_ := Sd.mk (hbox); have n2_ := Sd.mk ((by rw [hg]; exact (below_size (by exact blwF HB.out)) : w.heap.size ≤ gb179)); have n3_ := Sd.mk ((by rw [hg]; exact (below_size (by exact blwF HB.out)) : w.heap.size ≤ gb179)); clear HB; have HB := n0_; have BK179 := n1_; have GW179 := n2_; have GE179 := n3_; clear n0_ n1_ n2_ n3_; clear hb hbox hg) | ((with_reducible refine gate_callee (f := 19) rfl ?_); refine goesL_ (some 4) rfl rfl Tryz.func19 (by kernel_rfl) rfl #[.int .i64 1000] rfl (by (try simp only [List.map_toArray, List.map_cons, List.map_nil]); first | done | rfl | (simp only [List.length_drop, List.length_take]; rfl)) ?_; (with_reducible refine (v_Num.calls 1000 t180 t181 _ A3.out).mono ?_); rintro e w5 ⟨rfl, hb⟩; refine ⟨_, rfl, ?_⟩; have n0_ := Sd.mk (blk_below (g := gb179) (o := .cells #[.int .i64 0, .int .i64 0] 25 (0, 0)) (by exact blkF BK179.out) hb); have n1_ := Sd.mk (below_step (by repeat (first | (with_reducible first | exact HB.out | apply bal | apply pbd | apply bd1 | refine bst ?_ GE179.out) | exact HB.out)) hb); clear BK179; clear HB; have BK179 := n0_; have HB := n1_; clear n0_ n1_; (try clear hb); (try clear hb2); (try clear hk); (try clear hi); have hcz6_0 : w5.cell? ⟨gb179, 0, none⟩ = some (.int .i64 0) := (blk_cell BK179.out 0).trans rfl; have hcz6_1 : w5.cell? ⟨gb179, 1, none⟩ = some (.int .i64 0) := (blk_cell BK179.out 1).trans rfl; have hfz6_0 := blk_frozen BK179.out 0; have hfz6_1 := blk_frozen BK179.out 1))
  refine bodyPost_ret (results_cell_row rfl _ _ gb179 25 #[.int .i64 t180, .int .i64 t181] (0, 0) _ rfl (by (with_reducible repeat (first | refine blk_drewN ?_ _ | refine blk_drew ?_ | refine blk_alloc ?_ _)); refine blk_put (cs := #[.int .i64 t180, .int .i64 0]) ?_ 1 _ rfl; (with_reducible repeat (first | refine blk_drewN ?_ _ | refine blk_drew ?_ | refine blk_alloc ?_ _)); refine blk_put (cs := #[.int .i64 0, .int .i64 0]) ?_ 0 _ rfl; (with_reducible repeat (first | refine blk_drewN ?_ _ | refine blk_drew ?_ | refine blk_alloc ?_ _)); exact BK179.out) Tryz.underlying25 rfl (by kernel_rfl)) rfl ?_
  exact ⟨by first | rfl | (simp [errW_none, errW_some] <;> rfl) | (simp [*, errW_none, errW_some] <;> rfl), by repeat (first | (with_reducible first | exact HB.out | apply bal | apply pbd | apply bd1 | refine bst ?_ GE179.out) | exact HB.out)⟩
 ·replace c2 := Bool.eq_false_iff.mpr c2
  subst c2
  have H1 : ((v_Num.f 0).bind fun bt182 => (some (bt182.1, bt182.2))) = some (r1, r2) := by rw [if_neg (show ¬ (false = true) by decide)] at H; exact H
  clear H
  have H := H1
  clear H1
  replace H := Option.bind_eq_some_iff.mp H
  obtain ⟨⟨t182, t183⟩, A70, H⟩ := H
  replace H : (some (t182, t183)) = some (r1, r2) := H
  have A7 := Sd.mk A70
  clear A70
  simp only [Option.some.injEq, Prod.mk.injEq] at H
  obtain ⟨rfl, rfl⟩ := H
  go_enter Tryz.func21, Tryz.ntmps21
  go_wp2_with (first | ((with_reducible refine gate_dst (N := 2) rfl ?_); refine box_event ?hg (N := 2) ?hd (cs := #[.int .i64 0, .int .i64 0]) (t := 25) ?hr ?_; (case hd => rfl); (case hg => rfl); (case hr => first | (go_simp; done) | (go_simp; rfl)); intro gb179 hg w8 hbox hb; have n0_ := Sd.mk (below_step (by exact blwF HB.out) hb); have n1_ := Sd.mk (hbox); have n2_ := Sd.mk ((by rw [hg]; exact (below_size (by exact blwF HB.out)) : w.heap.size ≤ gb179)); have n3_ := Sd.mk ((by rw [hg]; exact (below_size (by exact blwF HB.out)) : w.heap.size ≤ gb179)); clear HB; have HB := n0_; have BK179 := n1_; have GW179 := n2_; have GE179 := n3_; clear n0_ n1_ n2_ n3_; clear hb hbox hg) | ((with_reducible refine gate_callee (f := 19) rfl ?_); refine goesL_ (some 5) rfl rfl Tryz.func19 (by kernel_rfl) rfl #[.int .i64 0] rfl (by (try simp only [List.map_toArray, List.map_cons, List.map_nil]); first | done | rfl | (simp only [List.length_drop, List.length_take]; rfl)) ?_; (with_reducible refine (v_Num.calls 0 t182 t183 _ A7.out).mono ?_); rintro e w9 ⟨rfl, hb⟩; refine ⟨_, rfl, ?_⟩; have n0_ := Sd.mk (blk_below (g := gb179) (o := .cells #[.int .i64 0, .int .i64 0] 25 (0, 0)) (by exact blkF BK179.out) hb); have n1_ := Sd.mk (below_step (by repeat (first | (with_reducible first | exact HB.out | apply bal | apply pbd | apply bd1 | refine bst ?_ GE179.out) | exact HB.out)) hb); clear BK179; clear HB; have BK179 := n0_; have HB := n1_; clear n0_ n1_; (try clear hb); (try clear hb2); (try clear hk); (try clear hi); have hcz10_0 : w9.cell? ⟨gb179, 0, none⟩ = some (.int .i64 0) := (blk_cell BK179.out 0).trans rfl; have hcz10_1 : w9.cell? ⟨gb179, 1, none⟩ = some (.int .i64 0) := (blk_cell BK179.out 1).trans rfl; have hfz10_0 := blk_frozen BK179.out 0; have hfz10_1 := blk_frozen BK179.out 1))
  refine bodyPost_ret (results_cell_row rfl _ _ gb179 25 #[.int .i64 t182, .int .i64 t183] (0, 0) _ rfl (by (with_reducible repeat (first | refine blk_drewN ?_ _ | refine blk_drew ?_ | refine blk_alloc ?_ _)); refine blk_put (cs := #[.int .i64 t182, .int .i64 0]) ?_ 1 _ rfl; (with_reducible repeat (first | refine blk_drewN ?_ _ | refine blk_drew ?_ | refine blk_alloc ?_ _)); refine blk_put (cs := #[.int .i64 0, .int .i64 0]) ?_ 0 _ rfl; (with_reducible repeat (first | refine blk_drewN ?_ _ | refine blk_drew ?_ | refine blk_alloc ?_ _)); exact BK179.out) Tryz.underlying25 rfl (by kernel_rfl)) rfl ?_
  exact ⟨by first | rfl | (simp [errW_none, errW_some] <;> rfl) | (simp [*, errW_none, errW_some] <;> rfl), by repeat (first | (with_reducible first | exact HB.out | apply bal | apply pbd | apply bd1 | refine bst ?_ GE179.out) | exact HB.out)⟩
def v_ones_4.f (a0_0 : Int) (a0_1 : Int) : Option (Int × Int) := if a0_0 = 2 then (some (a0_0, a0_1)) else ((v_True.f a0_0 a0_1).bind fun t186 => ((v_Truth.f (!t186)).bind fun bt187 => (some (bt187.1, bt187.2))))
set_option maxHeartbeats 8000000 in
set_option maxRecDepth 100000 in
theorem v_ones_4.calls (a0_0 : Int) (a0_1 : Int) (r1 : Int) (r2 : Int) (w : World) (h : v_ones_4.f a0_0 a0_1 = some (r1, r2)) :
  Calls Tryz.prog 57 #[.agg #[.int .i64 a0_0, .int .i64 a0_1]] w fun e w' => e = .returned (.agg #[.int .i64 r1, .int .i64 r2]) ∧ Below w.heap.size w w' := by
 have hu25 := Tryz.underlying25
 have HB := Sd.mk (Below.refl w.heap.size w)
 have H : (if a0_0 = 2 then (some (a0_0, a0_1)) else ((v_True.f a0_0 a0_1).bind fun t186 => ((v_Truth.f (!t186)).bind fun bt187 => (some (bt187.1, bt187.2))))) = some (r1, r2) := h
 clear h
 by_cases c2 : a0_0 = 2
 ·rw [if_pos c2] at H
  have c2b0 : (a0_0 == 2) = true := beq_iff_eq.mpr c2
  have c2b1 : (a0_0 != 2) = false := bne_eq_false_iff_eq.mpr c2
  clear c2
  simp only [Option.some.injEq, Prod.mk.injEq] at H
  obtain ⟨rfl, rfl⟩ := H
  go_enter Tryz.func57, Tryz.ntmps57
  go_wp2_with (first | ((with_reducible refine gate_dst (N := 1) rfl ?_); refine box_event ?hg (N := 1) ?hd (cs := #[.int .i64 a0_0, .int .i64 a0_1]) (t := 25) ?hr ?_; (case hd => rfl); (case hg => rfl); (case hr => first | (go_simp; done) | (go_simp; rfl)); intro gb184 hg w3 hbox hb; have n0_ := Sd.mk (below_step (by exact blwF HB.out) hb); have n1_ := Sd.mk (hbox); have n2_ := Sd.mk ((by rw [hg]; exact (below_size (by exact blwF HB.out)) : w.heap.size ≤ gb184)); have n3_ := Sd.mk ((by rw [hg]; exact (below_size (by exact blwF HB.out)) : w.heap.size ≤ gb184)); clear HB; have HB := n0_; have BK184 := n1_; have GW184 := n2_; have GE184 := n3_; clear n0_ n1_ n2_ n3_; clear hb hbox hg) | ((with_reducible refine gate_dst (N := 2) rfl ?_); refine box_event ?hg (N := 2) ?hd (cs := #[.int .i64 0, .int .i64 0]) (t := 25) ?hr ?_; (case hd => rfl); (case hg => rfl); (case hr => first | (go_simp; done) | (go_simp; rfl)); intro gb185 hg w4 hbox hb; have n0_ := Sd.mk (blk_below (g := gb184) (o := .cells #[.int .i64 a0_0, .int .i64 a0_1] 25 (0, 0)) (by exact blkF BK184.out) hb); have n1_ := Sd.mk (below_step (by repeat (first | (with_reducible first | exact HB.out | apply bal | apply pbd | apply bd1 | refine bst ?_ GE184.out) | exact HB.out)) hb); have n2_ := Sd.mk (hbox); have n3_ := Sd.mk ((by rw [hg]; exact (below_size (by repeat (first | (with_reducible first | exact HB.out | apply bal | apply pbd | apply bd1 | refine bst ?_ GE184.out) | exact HB.out))) : w.heap.size ≤ gb185)); have n4_ := Sd.mk ((by rw [hg]; exact (below_size (by repeat (first | (with_reducible first | exact HB.out | apply bal | apply pbd | apply bd1 | refine bst ?_ GE184.out) | exact HB.out))) : w.heap.size ≤ gb185)); have n5_ := Sd.mk ((by rw [hg]; exact Nat.ne_of_lt (blk_lt (g := gb184) (o := .cells #[.int .i64 a0_0, .int .i64 a0_1] 25 (0, 0)) (by exact blkF BK184.out)) : gb184 ≠ gb185)); have n6_ := Sd.mk ((by rw [hg]; exact Nat.ne_of_gt (blk_lt (g := gb184) (o := .cells #[.int .i64 a0_0, .int .i64 a0_1] 25 (0, 0)) (by exact blkF BK184.out)) : gb185 ≠ gb184)); clear BK184; clear HB; have BK184 := n0_; have HB := n1_; have BK185 := n2_; have GW185 := n3_; have GE185 := n4_; have NB184_185 := n5_; have NB185_184 := n6_; clear n0_ n1_ n2_ n3_ n4_ n5_ n6_; clear hb hbox hg; have hnb5 := NB184_185.out; have hnc5 := NB185_184.out; have hcz6_0 : w4.cell? ⟨gb184, 0, none⟩ = some (.int .i64 a0_0) := (blk_cell BK184.out 0).trans rfl; have hcz6_1 : w4.cell? ⟨gb184, 1, none⟩ = some (.int .i64 a0_1) := (blk_cell BK184.out 1).trans rfl; have hfz6_0 := blk_frozen BK184.out 0; have hfz6_1 := blk_frozen BK184.out 1; have hcz7_0 : w4.cell? ⟨gb185, 0, none⟩ = some (.int .i64 0) := (blk_cell BK185.out 0).trans rfl; have hcz7_1 : w4.cell? ⟨gb185, 1, none⟩ = some (.int .i64 0) := (blk_cell BK185.out 1).trans rfl; have hfz7_0 := blk_frozen BK185.out 0; have hfz7_1 := blk_frozen BK185.out 1))
  refine bodyPost_ret (results_cell_row rfl _ _ gb185 25 #[.int .i64 a0_0, .int .i64 a0_1] (0, 0) _ rfl (by (with_reducible repeat (first | refine blk_drewN ?_ _ | refine blk_drew ?_ | refine blk_alloc ?_ _)); refine blk_put (cs := #[.int .i64 a0_0, .int .i64 0]) ?_ 1 _ rfl; (with_reducible repeat (first | refine blk_drewN ?_ _ | refine blk_drew ?_ | refine blk_alloc ?_ _)); refine blk_put (cs := #[.int .i64 0, .int .i64 0]) ?_ 0 _ rfl; (with_reducible repeat (first | refine blk_drewN ?_ _ | refine blk_drew ?_ | refine blk_alloc ?_ _)); exact BK185.out) Tryz.underlying25 rfl (by kernel_rfl)) rfl ?_
  exact ⟨by first | rfl | (simp [errW_none, errW_some] <;> rfl) | (simp [*, errW_none, errW_some] <;> rfl), by repeat (first | (with_reducible first | exact HB.out | apply bal | apply pbd | apply bd1 | refine bst ?_ GE184.out | refine bst ?_ GE185.out) | exact HB.out)⟩
 ·rw [if_neg c2] at H
  have c2b0 : (a0_0 == 2) = false := beq_eq_false_iff_ne.mpr c2
  have c2b1 : (a0_0 != 2) = true := bne_iff_ne.mpr c2
  replace H := Option.bind_eq_some_iff.mp H
  obtain ⟨t186, A80, H⟩ := H
  replace H : ((v_Truth.f (!t186)).bind fun bt187 => (some (bt187.1, bt187.2))) = some (r1, r2) := H
  have A8 := Sd.mk A80
  clear A80
  replace H := Option.bind_eq_some_iff.mp H
  obtain ⟨⟨t187, t188⟩, A90, H⟩ := H
  replace H : (some (t187, t188)) = some (r1, r2) := H
  have A9 := Sd.mk A90
  clear A90
  simp only [Option.some.injEq, Prod.mk.injEq] at H
  obtain ⟨rfl, rfl⟩ := H
  go_enter Tryz.func57, Tryz.ntmps57
  go_wp2_with (first | ((with_reducible refine gate_dst (N := 1) rfl ?_); refine box_event ?hg (N := 1) ?hd (cs := #[.int .i64 a0_0, .int .i64 a0_1]) (t := 25) ?hr ?_; (case hd => rfl); (case hg => rfl); (case hr => first | (go_simp; done) | (go_simp; rfl)); intro gb184 hg w10 hbox hb; have n0_ := Sd.mk (below_step (by exact blwF HB.out) hb); have n1_ := Sd.mk (hbox); have n2_ := Sd.mk ((by rw [hg]; exact (below_size (by exact blwF HB.out)) : w.heap.size ≤ gb184)); have n3_ := Sd.mk ((by rw [hg]; exact (below_size (by exact blwF HB.out)) : w.heap.size ≤ gb184)); clear HB; have HB := n0_; have BK184 := n1_; have GW184 := n2_; have GE184 := n3_; clear n0_ n1_ n2_ n3_; clear hb hbox hg) | ((with_reducible refine gate_dst (N := 2) rfl ?_); refine box_event ?hg (N := 2) ?hd (cs := #[.int .i64 0, .int .i64 0]) (t := 25) ?hr ?_; (case hd => rfl); (case hg => rfl); (case hr => first | (go_simp; done) | (go_simp; rfl)); intro gb185 hg w11 hbox hb; have n0_ := Sd.mk (blk_below (g := gb184) (o := .cells #[.int .i64 a0_0, .int .i64 a0_1] 25 (0, 0)) (by exact blkF BK184.out) hb); have n1_ := Sd.mk (below_step (by repeat (first | (with_reducible first | exact HB.out | apply bal | apply pbd | apply bd1 | refine bst ?_ GE184.out) | exact HB.out)) hb); have n2_ := Sd.mk (hbox); have n3_ := Sd.mk ((by rw [hg]; exact (below_size (by repeat (first | (with_reducible first | exact HB.out | apply bal | apply pbd | apply bd1 | refine bst ?_ GE184.out) | exact HB.out))) : w.heap.size ≤ gb185)); have n4_ := Sd.mk ((by rw [hg]; exact (below_size (by repeat (first | (with_reducible first | exact HB.out | apply bal | apply pbd | apply bd1 | refine bst ?_ GE184.out) | exact HB.out))) : w.heap.size ≤ gb185)); have n5_ := Sd.mk ((by rw [hg]; exact Nat.ne_of_lt (blk_lt (g := gb184) (o := .cells #[.int .i64 a0_0, .int .i64 a0_1] 25 (0, 0)) (by exact blkF BK184.out)) : gb184 ≠ gb185)); have n6_ := Sd.mk ((by rw [hg]; exact Nat.ne_of_gt (blk_lt (g := gb184) (o := .cells #[.int .i64 a0_0, .int .i64 a0_1] 25 (0, 0)) (by exact blkF BK184.out)) : gb185 ≠ gb184)); clear BK184; clear HB; have BK184 := n0_; have HB := n1_; have BK185 := n2_; have GW185 := n3_; have GE185 := n4_; have NB184_185 := n5_; have NB185_184 := n6_; clear n0_ n1_ n2_ n3_ n4_ n5_ n6_; clear hb hbox hg; have hnb12 := NB184_185.out; have hnc12 := NB185_184.out; have hcz13_0 : w11.cell? ⟨gb184, 0, none⟩ = some (.int .i64 a0_0) := (blk_cell BK184.out 0).trans rfl; have hcz13_1 : w11.cell? ⟨gb184, 1, none⟩ = some (.int .i64 a0_1) := (blk_cell BK184.out 1).trans rfl; have hfz13_0 := blk_frozen BK184.out 0; have hfz13_1 := blk_frozen BK184.out 1) | ((with_reducible refine gate_callee (f := 14) rfl ?_); refine goesL_ (some 8) rfl rfl Tryz.func14 (by kernel_rfl) rfl #[.agg #[.int .i64 a0_0, .int .i64 a0_1]] rfl (by (try simp only [List.map_toArray, List.map_cons, List.map_nil]); first | done | rfl | (simp only [List.length_drop, List.length_take]; rfl)) ?_; (with_reducible refine (v_True.calls a0_0 a0_1 t186 _ A8.out).mono ?_); rintro e w14 ⟨rfl, hb⟩; refine ⟨_, rfl, ?_⟩; have n0_ := Sd.mk (blk_below (g := gb184) (o := .cells #[.int .i64 a0_0, .int .i64 a0_1] 25 (0, 0)) (by exact blkF BK184.out) hb); have n1_ := Sd.mk (blk_below (g := gb185) (o := .cells #[.int .i64 0, .int .i64 0] 25 (0, 0)) (by exact blkF BK185.out) hb); have n2_ := Sd.mk (below_step (by repeat (first | (with_reducible first | exact HB.out | apply bal | apply pbd | apply bd1 | refine bst ?_ GE184.out | refine bst ?_ GE185.out) | exact HB.out)) hb); clear BK184; clear BK185; clear HB; have BK184 := n0_; have BK185 := n1_; have HB := n2_; clear n0_ n1_ n2_; (try clear hb); (try clear hb2); (try clear hk); (try clear hi)) | ((with_reducible refine gate_callee (f := 21) rfl ?_); refine goesL_ (some 10) rfl rfl Tryz.func21 (by kernel_rfl) rfl #[.bool (!t186)] rfl (by (try simp only [List.map_toArray, List.map_cons, List.map_nil]); first | done | rfl | (simp only [List.length_drop, List.length_take]; rfl)) ?_; (with_reducible refine (v_Truth.calls (!t186) t187 t188 _ A9.out).mono ?_); rintro e w15 ⟨rfl, hb⟩; refine ⟨_, rfl, ?_⟩; have n0_ := Sd.mk (blk_below (g := gb184) (o := .cells #[.int .i64 a0_0, .int .i64 a0_1] 25 (0, 0)) (by exact blkF BK184.out) hb); have n1_ := Sd.mk (blk_below (g := gb185) (o := .cells #[.int .i64 0, .int .i64 0] 25 (0, 0)) (by exact blkF BK185.out) hb); have n2_ := Sd.mk (below_step (by repeat (first | (with_reducible first | exact HB.out | apply bal | apply pbd | apply bd1 | refine bst ?_ GE184.out | refine bst ?_ GE185.out) | exact HB.out)) hb); clear BK184; clear BK185; clear HB; have BK184 := n0_; have BK185 := n1_; have HB := n2_; clear n0_ n1_ n2_; (try clear hb); (try clear hb2); (try clear hk); (try clear hi); have hcz16_0 : w15.cell? ⟨gb185, 0, none⟩ = some (.int .i64 0) := (blk_cell BK185.out 0).trans rfl; have hcz16_1 : w15.cell? ⟨gb185, 1, none⟩ = some (.int .i64 0) := (blk_cell BK185.out 1).trans rfl; have hfz16_0 := blk_frozen BK185.out 0; have hfz16_1 := blk_frozen BK185.out 1))
  refine bodyPost_ret (results_cell_row rfl _ _ gb185 25 #[.int .i64 t187, .int .i64 t188] (0, 0) _ rfl (by (with_reducible repeat (first | refine blk_drewN ?_ _ | refine blk_drew ?_ | refine blk_alloc ?_ _)); refine blk_put (cs := #[.int .i64 t187, .int .i64 0]) ?_ 1 _ rfl; (with_reducible repeat (first | refine blk_drewN ?_ _ | refine blk_drew ?_ | refine blk_alloc ?_ _)); refine blk_put (cs := #[.int .i64 0, .int .i64 0]) ?_ 0 _ rfl; (with_reducible repeat (first | refine blk_drewN ?_ _ | refine blk_drew ?_ | refine blk_alloc ?_ _)); exact BK185.out) Tryz.underlying25 rfl (by kernel_rfl)) rfl ?_
  exact ⟨by first | rfl | (simp [errW_none, errW_some] <;> rfl) | (simp [*, errW_none, errW_some] <;> rfl), by repeat (first | (with_reducible first | exact HB.out | apply bal | apply pbd | apply bd1 | refine bst ?_ GE184.out | refine bst ?_ GE185.out) | exact HB.out)⟩
end Go.Proofs.YtcmiehddjgfjaaaGreatDoor.A
namespace Go.Proofs.YtcmiehddjgfjaaaGreatDoor.A
open Go.RowKit Go.Proofs.YtcmiehddjgfjaaaGreatDoorW.PrintWords Go.Proofs.YtcmiehddjgfjaaaGreatDoorW.PrintLast Go.Proofs.YtcmiehddjgfjaaaGreatDoorW.PrintMore
attribute [local go_sem] max2_int min2_int max_two min_two max_three min_three max_four min_four   -- for this text's walks alone
set_option linter.unusedVariables false
set_option linter.unusedSimpArgs false
def v_twos_1.f (k : Nat) (a0_0 : Int) (a0_1 : Int) (a1_0 : Int) (a1_1 : Int) : Option (Int × Int) := (v_rank.f a1_0 a1_1).bind fun t192 => ((v_back.f (wrap64 (-t192))).bind fun bt193 => ((v_add.f k a0_0 a0_1 bt193.1 bt193.2).bind fun bt195 => (some (bt195.1, bt195.2))))
theorem v_twos_1.mono : ∀ a0 a1 a2 a3 k, LeO (v_twos_1.f k a0 a1 a2 a3) (v_twos_1.f (k + 1) a0 a1 a2 a3) := by
 intro a0 a1 a2 a3 k
 unfold v_twos_1.f
 repeat' first
   | (with_reducible exact v_add.mono _ _ _ _ _)
   | (with_reducible exact LeO.refl _)
   | (with_reducible exact LeO.none _)
   | (with_reducible refine LeO.ite ?_ ?_)
   | (with_reducible refine LeO.bind ?_ (fun _ => ?_))
   | exact v_add.mono _ _ _ _ _
   | exact LeO.none _
   | refine LeO.ite ?_ ?_
   | refine LeO.bind ?_ (fun _ => ?_)
set_option maxHeartbeats 8000000 in
set_option maxRecDepth 100000 in
theorem v_twos_1.calls (k : Nat) (a0_0 : Int) (a0_1 : Int) (a1_0 : Int) (a1_1 : Int) (r1 : Int) (r2 : Int) (w : World) (h : v_twos_1.f k a0_0 a0_1 a1_0 a1_1 = some (r1, r2)) :
  Calls Tryz.prog 61 #[.agg #[.int .i64 a0_0, .int .i64 a0_1], .agg #[.int .i64 a1_0, .int .i64 a1_1]] w fun e w' => e = .returned (.agg #[.int .i64 r1, .int .i64 r2]) ∧ Below w.heap.size w w' := by
 have hu25 := Tryz.underlying25
 have HB := Sd.mk (Below.refl w.heap.size w)
 have H : ((v_rank.f a1_0 a1_1).bind fun t192 => ((v_back.f (wrap64 (-t192))).bind fun bt193 => ((v_add.f k a0_0 a0_1 bt193.1 bt193.2).bind fun bt195 => (some (bt195.1, bt195.2))))) = some (r1, r2) := h
 clear h
 replace H := Option.bind_eq_some_iff.mp H
 obtain ⟨t192, A30, H⟩ := H
 replace H : ((v_back.f (wrap64 (-t192))).bind fun bt193 => ((v_add.f k a0_0 a0_1 bt193.1 bt193.2).bind fun bt195 => (some (bt195.1, bt195.2)))) = some (r1, r2) := H
 have A3 := Sd.mk A30
 clear A30
 replace H := Option.bind_eq_some_iff.mp H
 obtain ⟨⟨t193, t194⟩, A40, H⟩ := H
 replace H : ((v_add.f k a0_0 a0_1 t193 t194).bind fun bt195 => (some (bt195.1, bt195.2))) = some (r1, r2) := H
 have A4 := Sd.mk A40
 clear A40
 replace H := Option.bind_eq_some_iff.mp H
 obtain ⟨⟨t195, t196⟩, A50, H⟩ := H
 replace H : (some (t195, t196)) = some (r1, r2) := H
 have A5 := Sd.mk A50
 clear A50
 simp only [Option.some.injEq, Prod.mk.injEq] at H
 obtain ⟨rfl, rfl⟩ := H
 go_enter Tryz.func61, Tryz.ntmps61
 try go_wp2_with (first | ((with_reducible refine gate_dst (N := 2) rfl ?_); refine box_event ?hg (N := 2) ?hd (cs := #[.int .i64 a0_0, .int .i64 a0_1]) (t := 25) ?hr ?_; (case hd => rfl); (case hg => rfl); (case hr => first | (go_simp; done) | (go_simp; rfl)); intro gb189 hg w6 hbox hb; have n0_ := Sd.mk (below_step (by exact blwF HB.out) hb); have n1_ := Sd.mk (hbox); have n2_ := Sd.mk ((by rw [hg]; exact (below_size (by exact blwF HB.out)) : w.heap.size ≤ gb189)); have n3_ := Sd.mk ((by rw [hg]; exact (below_size (by exact blwF HB.out)) : w.heap.size ≤ gb189)); clear HB; have HB := n0_; have BK189 := n1_; have GW189 := n2_; have GE189 := n3_; clear n0_ n1_ n2_ n3_; clear hb hbox hg) | ((with_reducible refine gate_dst (N := 3) rfl ?_); refine box_event ?hg (N := 3) ?hd (cs := #[.int .i64 a1_0, .int .i64 a1_1]) (t := 25) ?hr ?_; (case hd => rfl); (case hg => rfl); (case hr => first | (go_simp; done) | (go_simp; rfl)); intro gb190 hg w7 hbox hb; have n0_ := Sd.mk (blk_below (g := gb189) (o := .cells #[.int .i64 a0_0, .int .i64 a0_1] 25 (0, 0)) (by exact blkF BK189.out) hb); have n1_ := Sd.mk (below_step (by repeat (first | (with_reducible first | exact HB.out | apply bal | apply pbd | apply bd1 | refine bst ?_ GE189.out) | exact HB.out)) hb); have n2_ := Sd.mk (hbox); have n3_ := Sd.mk ((by rw [hg]; exact (below_size (by repeat (first | (with_reducible first | exact HB.out | apply bal | apply pbd | apply bd1 | refine bst ?_ GE189.out) | exact HB.out))) : w.heap.size ≤ gb190)); have n4_ := Sd.mk ((by rw [hg]; exact (below_size (by repeat (first | (with_reducible first | exact HB.out | apply bal | apply pbd | apply bd1 | refine bst ?_ GE189.out) | exact HB.out))) : w.heap.size ≤ gb190)); have n5_ := Sd.mk ((by rw [hg]; exact Nat.ne_of_lt (blk_lt (g := gb189) (o := .cells #[.int .i64 a0_0, .int .i64 a0_1] 25 (0, 0)) (by exact blkF BK189.out)) : gb189 ≠ gb190)); have n6_ := Sd.mk ((by rw [hg]; exact Nat.ne_of_gt (blk_lt (g := gb189) (o := .cells #[.int .i64 a0_0, .int .i64 a0_1] 25 (0, 0)) (by exact blkF BK189.out)) : gb190 ≠ gb189)); clear BK189; clear HB; have BK189 := n0_; have HB := n1_; have BK190 := n2_; have GW190 := n3_; have GE190 := n4_; have NB189_190 := n5_; have NB190_189 := n6_; clear n0_ n1_ n2_ n3_ n4_ n5_ n6_; clear hb hbox hg) | ((with_reducible refine gate_dst (N := 4) rfl ?_); refine box_event ?hg (N := 4) ?hd (cs := #[.int .i64 0, .int .i64 0]) (t := 25) ?hr ?_; (case hd => rfl); (case hg => rfl); (case hr => first | (go_simp; done) | (go_simp; rfl)); intro gb191 hg w8 hbox hb; have n0_ := Sd.mk (blk_below (g := gb189) (o := .cells #[.int .i64 a0_0, .int .i64 a0_1] 25 (0, 0)) (by exact blkF BK189.out) hb); have n1_ := Sd.mk (blk_below (g := gb190) (o := .cells #[.int .i64 a1_0, .int .i64 a1_1] 25 (0, 0)) (by exact blkF BK190.out) hb); have n2_ := Sd.mk (below_step (by repeat (first | (with_reducible first | exact HB.out | apply bal | apply pbd | apply bd1 | refine bst ?_ GE189.out | refine bst ?_ GE190.out) | exact HB.out)) hb); have n3_ := Sd.mk (hbox); have n4_ := Sd.mk ((by rw [hg]; exact (below_size (by repeat (first | (with_reducible first | exact HB.out | apply bal | apply pbd | apply bd1 | refine bst ?_ GE189.out | refine bst ?_ GE190.out) | exact HB.out))) : w.heap.size ≤ gb191)); have n5_ := Sd.mk ((by rw [hg]; exact (below_size (by repeat (first | (with_reducible first | exact HB.out | apply bal | apply pbd | apply bd1 | refine bst ?_ GE189.out | refine bst ?_ GE190.out) | exact HB.out))) : w.heap.size ≤ gb191)); have n6_ := Sd.mk ((by rw [hg]; exact Nat.ne_of_lt (blk_lt (g := gb189) (o := .cells #[.int .i64 a0_0, .int .i64 a0_1] 25 (0, 0)) (by exact blkF BK189.out)) : gb189 ≠ gb191)); have n7_ := Sd.mk ((by rw [hg]; exact Nat.ne_of_gt (blk_lt (g := gb189) (o := .cells #[.int .i64 a0_0, .int .i64 a0_1] 25 (0, 0)) (by exact blkF BK189.out)) : gb191 ≠ gb189)); have n8_ := Sd.mk ((by rw [hg]; exact Nat.ne_of_lt (blk_lt (g := gb190) (o := .cells #[.int .i64 a1_0, .int .i64 a1_1] 25 (0, 0)) (by exact blkF BK190.out)) : gb190 ≠ gb191)); have n9_ := Sd.mk ((by rw [hg]; exact Nat.ne_of_gt (blk_lt (g := gb190) (o := .cells #[.int .i64 a1_0, .int .i64 a1_1] 25 (0, 0)) (by exact blkF BK190.out)) : gb191 ≠ gb190)); clear BK189; clear BK190; clear HB; have BK189 := n0_; have BK190 := n1_; have HB := n2_; have BK191 := n3_; have GW191 := n4_; have GE191 := n5_; have NB189_191 := n6_; have NB191_189 := n7_; have NB190_191 := n8_; have NB191_190 := n9_; clear n0_ n1_ n2_ n3_ n4_ n5_ n6_ n7_ n8_ n9_; clear hb hbox hg))
 have n0_ := Sd.mk (blk_drew BK189.out)
 have n1_ := Sd.mk (blk_drew BK190.out)
 have n2_ := Sd.mk (blk_drew BK191.out)
 have n3_ := Sd.mk (bd1 HB.out)
 clear BK189
 clear BK190
 clear BK191
 clear HB
 have BK189 := n0_
 have BK190 := n1_
 have BK191 := n2_
 have HB := n3_
 clear n0_ n1_ n2_ n3_
 refine start_ (n := 7) (S := fun w' => w'.cell? ⟨gb189, 0, none⟩ = some (.int .i64 a0_0) ∧ w'.cell? ⟨gb189, 1, none⟩ = some (.int .i64 a0_1) ∧ w'.cell? ⟨gb190, 0, none⟩ = some (.int .i64 a1_0) ∧ w'.cell? ⟨gb190, 1, none⟩ = some (.int .i64 a1_1)) (ds := []) #[false, false, false, false, false, false, false] (by kernel_rfl) rfl rfl ⟨(blk_cell BK189.out 0).trans rfl, (blk_cell BK189.out 1).trans rfl, (blk_cell BK190.out 0).trans rfl, (blk_cell BK190.out 1).trans rfl⟩ (fun hHeld => ?_)
 generalize w8.drew = w9 at BK189 BK190 BK191 HB hHeld ⊢
 refine take_ (i := 0) (N := some 5) (v := ?_) (a' := ?_) #[true, false, false, false, false, false, false] rfl rfl (by kernel_rfl) (fun _ _ _ h => h) (Or.inl ⟨by rfl, ?_⟩) hHeld ?_ ?_
 rotate_left
 ·rintro w' ⟨s0, s1, s2, s3⟩
  go_simp
  with_reducible rfl
 rotate_left
 ·simp only [Act.put, List.setIfInBounds_toArray, List.set_cons_zero, List.set_cons_succ, i64_w, i32_w]
  rfl
 refine take_ (i := 1) (N := some 6) (v := ?_) (a' := ?_) #[true, true, false, false, false, false, false] rfl rfl (by kernel_rfl) (fun _ _ _ h => h) (Or.inl ⟨by rfl, ?_⟩) hHeld ?_ ?_
 rotate_left
 ·rintro w' ⟨s0, s1, s2, s3⟩
  go_simp
  with_reducible rfl
 rotate_left
 ·simp only [Act.put, List.setIfInBounds_toArray, List.set_cons_zero, List.set_cons_succ, i64_w, i32_w]
  rfl
 refine one_ (i := 2) (N := some 7) #[true, true, true, false, false, false, false] rfl rfl (by kernel_rfl) (by decide) (fun K hK => ?_)
 refine goes_ Tryz.func63 (by kernel_rfl) rfl #[.agg #[.int .i64 a1_0, .int .i64 a1_1]] (by rfl) rfl rfl (by (try simp only [List.map_toArray, List.map_cons, List.map_nil]); first | done | rfl | (simp only [List.length_drop, List.length_take]; rfl)) ?_
 with_reducible refine (v_rank.calls a1_0 a1_1 t192 _ A3.out).mono ?_
 rintro e w10 ⟨rfl, hb⟩
 refine ⟨_, rfl, ?_⟩
 have n0_ := Sd.mk (blk_below (g := gb189) (o := .cells #[.int .i64 a0_0, .int .i64 a0_1] 25 (0, 0)) (by exact blkF BK189.out) hb)
 have n1_ := Sd.mk (blk_below (g := gb190) (o := .cells #[.int .i64 a1_0, .int .i64 a1_1] 25 (0, 0)) (by exact blkF BK190.out) hb)
 have n2_ := Sd.mk (blk_below (g := gb191) (o := .cells #[.int .i64 0, .int .i64 0] 25 (0, 0)) (by exact blkF BK191.out) hb)
 have n3_ := Sd.mk (below_step (by repeat (first | (with_reducible first | exact HB.out | apply bal | apply pbd | apply bd1 | refine bst ?_ GE189.out | refine bst ?_ GE190.out | refine bst ?_ GE191.out) | exact HB.out)) hb)
 clear BK189
 clear BK190
 clear BK191
 clear HB
 have BK189 := n0_
 have BK190 := n1_
 have BK191 := n2_
 have HB := n3_
 clear n0_ n1_ n2_ n3_
 (try clear hb)
 (try clear hb2)
 (try clear hk)
 (try clear hi)
 refine hK.out _ _ ⟨(blk_cell BK189.out 0).trans rfl, (blk_cell BK189.out 1).trans rfl, (blk_cell BK190.out 0).trans rfl, (blk_cell BK190.out 1).trans rfl⟩ (fun hHeld => ?_)
 clear hK K
 refine norm_ (a' := ?_) ?_ ?_
 rotate_left
 ·show Act.put _ (some 7) _ = _
  simp only [Act.put, List.setIfInBounds_toArray, List.set_cons_zero, List.set_cons_succ, i64_w, i32_w]
  rfl
 refine pure_ (i := 3) (N := some 8) (v := ?_) (a' := ?_) #[true, true, true, true, false, false, false] rfl rfl (by kernel_rfl) (fun _ _ _ h => h) (Or.inl ⟨by rfl, ?_⟩) ?_ ?_
 rotate_left
 ·intro w'
  go_simp
  with_reducible rfl
 rotate_left
 ·simp only [Act.put, List.setIfInBounds_toArray, List.set_cons_zero, List.set_cons_succ, i64_w, i32_w]
  rfl
 refine one_ (i := 4) (N := some 9) #[true, true, true, true, true, false, false] rfl rfl (by kernel_rfl) (by decide) (fun K hK => ?_)
 refine goes_ Tryz.func62 (by kernel_rfl) rfl #[.int .i64 (wrap64 (-t192))] (by rfl) rfl rfl (by (try simp only [List.map_toArray, List.map_cons, List.map_nil]); first | done | rfl | (simp only [List.length_drop, List.length_take]; rfl)) ?_
 with_reducible refine (v_back.calls (wrap64 (-t192)) t193 t194 _ A4.out).mono ?_
 rintro e w11 ⟨rfl, hb⟩
 refine ⟨_, rfl, ?_⟩
 have n0_ := Sd.mk (blk_below (g := gb189) (o := .cells #[.int .i64 a0_0, .int .i64 a0_1] 25 (0, 0)) (by exact blkF BK189.out) hb)
 have n1_ := Sd.mk (blk_below (g := gb190) (o := .cells #[.int .i64 a1_0, .int .i64 a1_1] 25 (0, 0)) (by exact blkF BK190.out) hb)
 have n2_ := Sd.mk (blk_below (g := gb191) (o := .cells #[.int .i64 0, .int .i64 0] 25 (0, 0)) (by exact blkF BK191.out) hb)
 have n3_ := Sd.mk (below_step (by repeat (first | (with_reducible first | exact HB.out | apply bal | apply pbd | apply bd1 | refine bst ?_ GE189.out | refine bst ?_ GE190.out | refine bst ?_ GE191.out) | exact HB.out)) hb)
 clear BK189
 clear BK190
 clear BK191
 clear HB
 have BK189 := n0_
 have BK190 := n1_
 have BK191 := n2_
 have HB := n3_
 clear n0_ n1_ n2_ n3_
 (try clear hb)
 (try clear hb2)
 (try clear hk)
 (try clear hi)
 refine hK.out _ _ ⟨(blk_cell BK189.out 0).trans rfl, (blk_cell BK189.out 1).trans rfl, (blk_cell BK190.out 0).trans rfl, (blk_cell BK190.out 1).trans rfl⟩ (fun hHeld => ?_)
 clear hK K
 refine norm_ (a' := ?_) ?_ ?_
 rotate_left
 ·show Act.put _ (some 9) _ = _
  simp only [Act.put, List.setIfInBounds_toArray, List.set_cons_zero, List.set_cons_succ, i64_w, i32_w]
  rfl
 refine one_ (i := 5) (N := some 10) #[true, true, true, true, true, true, false] rfl rfl (by kernel_rfl) (by decide) (fun K hK => ?_)
 refine goes_ Tryz.func60 (by kernel_rfl) rfl #[.agg #[.int .i64 a0_0, .int .i64 a0_1], .agg #[.int .i64 t193, .int .i64 t194]] (by rfl) rfl rfl (by (try simp only [List.map_toArray, List.map_cons, List.map_nil]); first | done | rfl | (simp only [List.length_drop, List.length_take]; rfl)) ?_
 with_reducible refine (v_add.calls k a0_0 a0_1 t193 t194 t195 t196 _ A5.out).mono ?_
 rintro e w12 ⟨rfl, hb⟩
 refine ⟨_, rfl, ?_⟩
 have n0_ := Sd.mk (blk_below (g := gb189) (o := .cells #[.int .i64 a0_0, .int .i64 a0_1] 25 (0, 0)) (by exact blkF BK189.out) hb)
 have n1_ := Sd.mk (blk_below (g := gb190) (o := .cells #[.int .i64 a1_0, .int .i64 a1_1] 25 (0, 0)) (by exact blkF BK190.out) hb)
 have n2_ := Sd.mk (blk_below (g := gb191) (o := .cells #[.int .i64 0, .int .i64 0] 25 (0, 0)) (by exact blkF BK191.out) hb)
 have n3_ := Sd.mk (below_step (by repeat (first | (with_reducible first | exact HB.out | apply bal | apply pbd | apply bd1 | refine bst ?_ GE189.out | refine bst ?_ GE190.out | refine bst ?_ GE191.out) | exact HB.out)) hb)
 clear BK189
 clear BK190
 clear BK191
 clear HB
 have BK189 := n0_
 have BK190 := n1_
 have BK191 := n2_
 have HB := n3_
 clear n0_ n1_ n2_ n3_
 (try clear hb)
 (try clear hb2)
 (try clear hk)
 (try clear hi)
 refine hK.out _ _ ⟨(blk_cell BK189.out 0).trans rfl, (blk_cell BK189.out 1).trans rfl, (blk_cell BK190.out 0).trans rfl, (blk_cell BK190.out 1).trans rfl⟩ (fun hHeld => ?_)
 clear hK K
 refine norm_ (a' := ?_) ?_ ?_
 rotate_left
 ·show Act.put _ (some 10) _ = _
  simp only [Act.put, List.setIfInBounds_toArray, List.set_cons_zero, List.set_cons_succ, i64_w, i32_w]
  rfl
 refine one_ (i := 6) (N := none) #[true, true, true, true, true, true, true] rfl rfl (by kernel_rfl) (by decide) (fun K hK => ?_)
 have hs13 : w12.cell? ⟨gb191, 0, none⟩ = some (.int .i64 0) := (blk_cell BK191.out 0).trans rfl
 have hfs13 := blk_frozen BK191.out 0
 have hns13_0 := NB189_191.out
 have hns13_1 := NB190_191.out
 have hms13_0 := NB191_189.out
 have hms13_1 := NB191_190.out
 have hs14 : w12.cell? ⟨gb191, 1, none⟩ = some (.int .i64 0) := (blk_cell BK191.out 1).trans rfl
 have hfs14 := blk_frozen BK191.out 1
 have hns14_0 := NB189_191.out
 have hns14_1 := NB190_191.out
 have hms14_0 := NB191_189.out
 have hms14_1 := NB191_190.out
 refine skip_ (w1 := ?_) (by rfl) rfl ?_ ?_
 rotate_left
 ·go_simp
  rfl
 refine hK.out _ _ ⟨((cell_far (p := ⟨gb191, _, none⟩) NB189_191.out _).trans (((cell_far (p := ⟨gb191, _, none⟩) NB189_191.out _).trans (hHeld.1)))), ((cell_far (p := ⟨gb191, _, none⟩) NB189_191.out _).trans (((cell_far (p := ⟨gb191, _, none⟩) NB189_191.out _).trans (hHeld.2.1)))), ((cell_far (p := ⟨gb191, _, none⟩) NB190_191.out _).trans (((cell_far (p := ⟨gb191, _, none⟩) NB190_191.out _).trans (hHeld.2.2.1)))), ((cell_far (p := ⟨gb191, _, none⟩) NB190_191.out _).trans (((cell_far (p := ⟨gb191, _, none⟩) NB190_191.out _).trans (hHeld.2.2.2))))⟩ (fun hHeld => ?_)
 clear hK K
 refine done_ (by kernel_rfl) ?_
 try go_wp2
 refine bodyPost_ret (results_cell_row rfl _ _ gb191 25 #[.int .i64 t195, .int .i64 t196] (0, 0) _ rfl (by (with_reducible repeat (first | refine blk_drewN ?_ _ | refine blk_drew ?_ | refine blk_alloc ?_ _)); refine blk_put (cs := #[.int .i64 t195, .int .i64 0]) ?_ 1 _ rfl; (with_reducible repeat (first | refine blk_drewN ?_ _ | refine blk_drew ?_ | refine blk_alloc ?_ _)); refine blk_put (cs := #[.int .i64 0, .int .i64 0]) ?_ 0 _ rfl; (with_reducible repeat (first | refine blk_drewN ?_ _ | refine blk_drew ?_ | refine blk_alloc ?_ _)); exact BK191.out) Tryz.underlying25 rfl (by kernel_rfl)) rfl ?_
 exact ⟨by first | rfl | (simp [errW_none, errW_some] <;> rfl) | (simp [*, errW_none, errW_some] <;> rfl), by repeat (first | (with_reducible first | exact HB.out | apply bal | apply pbd | apply bd1 | refine bst ?_ GE189.out | refine bst ?_ GE190.out | refine bst ?_ GE191.out) | exact HB.out)⟩
def v_twos_2.f (a0 : Int) (a1 : Int) : Option (Bool) := some (a0 == a1)
set_option maxHeartbeats 8000000 in
set_option maxRecDepth 100000 in
theorem v_twos_2.calls (a0 : Int) (a1 : Int) (r : Bool) (w : World) (h : v_twos_2.f a0 a1 = some r) :
  Calls Tryz.prog 67 #[.int .i64 a0, .int .i64 a1] w fun e w' => e = .returned (.bool r) ∧ Drawn0 w w' := by
 have H : (some (a0 == a1)) = some r := h
 clear h
 obtain rfl := Option.some.inj H
 go_enter Tryz.func67, Tryz.ntmps67
 go_wp2
 go_ret
 exact ⟨by first | rfl | (simp; done) | (simp [*]; done), by repeat (first | exact Drawn0.refl _ | apply Drawn0.step)⟩
def v_twos_3.f (a0 : Int) (a1 : Int) : Option (Bool) := some (a0 != a1)
set_option maxHeartbeats 8000000 in
set_option maxRecDepth 100000 in
theorem v_twos_3.calls (a0 : Int) (a1 : Int) (r : Bool) (w : World) (h : v_twos_3.f a0 a1 = some r) :
  Calls Tryz.prog 68 #[.int .i64 a0, .int .i64 a1] w fun e w' => e = .returned (.bool r) ∧ Drawn0 w w' := by
 have H : (some (a0 != a1)) = some r := h
 clear h
 obtain rfl := Option.some.inj H
 go_enter Tryz.func68, Tryz.ntmps68
 go_wp2
 go_ret
 exact ⟨by first | rfl | (simp; done) | (simp [*]; done), by repeat (first | exact Drawn0.refl _ | apply Drawn0.step)⟩
def v_twos_4.f (a0 : Int) (a1 : Int) : Option (Bool) := some (decide (a0 < a1))
set_option maxHeartbeats 8000000 in
set_option maxRecDepth 100000 in
theorem v_twos_4.calls (a0 : Int) (a1 : Int) (r : Bool) (w : World) (h : v_twos_4.f a0 a1 = some r) :
  Calls Tryz.prog 69 #[.int .i64 a0, .int .i64 a1] w fun e w' => e = .returned (.bool r) ∧ Drawn0 w w' := by
 have H : (some (decide (a0 < a1))) = some r := h
 clear h
 obtain rfl := Option.some.inj H
 go_enter Tryz.func69, Tryz.ntmps69
 go_wp2
 go_ret
 exact ⟨by first | rfl | (simp; done) | (simp [*]; done), by repeat (first | exact Drawn0.refl _ | apply Drawn0.step)⟩
def v_twos_5.f (a0 : Int) (a1 : Int) : Option (Bool) := some (decide (a0 ≤ a1))
set_option maxHeartbeats 8000000 in
set_option maxRecDepth 100000 in
theorem v_twos_5.calls (a0 : Int) (a1 : Int) (r : Bool) (w : World) (h : v_twos_5.f a0 a1 = some r) :
  Calls Tryz.prog 70 #[.int .i64 a0, .int .i64 a1] w fun e w' => e = .returned (.bool r) ∧ Drawn0 w w' := by
 have H : (some (decide (a0 ≤ a1))) = some r := h
 clear h
 obtain rfl := Option.some.inj H
 go_enter Tryz.func70, Tryz.ntmps70
 go_wp2
 go_ret
 exact ⟨by first | rfl | (simp; done) | (simp [*]; done), by repeat (first | exact Drawn0.refl _ | apply Drawn0.step)⟩
def v_twos_6.f (a0 : Int) (a1 : Int) : Option (Bool) := some (decide (a0 > a1))
set_option maxHeartbeats 8000000 in
set_option maxRecDepth 100000 in
theorem v_twos_6.calls (a0 : Int) (a1 : Int) (r : Bool) (w : World) (h : v_twos_6.f a0 a1 = some r) :
  Calls Tryz.prog 71 #[.int .i64 a0, .int .i64 a1] w fun e w' => e = .returned (.bool r) ∧ Drawn0 w w' := by
 have H : (some (decide (a0 > a1))) = some r := h
 clear h
 obtain rfl := Option.some.inj H
 go_enter Tryz.func71, Tryz.ntmps71
 go_wp2
 go_ret
 exact ⟨by first | rfl | (simp; done) | (simp [*]; done), by repeat (first | exact Drawn0.refl _ | apply Drawn0.step)⟩
def v_twos_7.f (a0 : Int) (a1 : Int) : Option (Bool) := some (decide (a0 ≥ a1))
set_option maxHeartbeats 8000000 in
set_option maxRecDepth 100000 in
theorem v_twos_7.calls (a0 : Int) (a1 : Int) (r : Bool) (w : World) (h : v_twos_7.f a0 a1 = some r) :
  Calls Tryz.prog 72 #[.int .i64 a0, .int .i64 a1] w fun e w' => e = .returned (.bool r) ∧ Drawn0 w w' := by
 have H : (some (decide (a0 ≥ a1))) = some r := h
 clear h
 obtain rfl := Option.some.inj H
 go_enter Tryz.func72, Tryz.ntmps72
 go_wp2
 go_ret
 exact ⟨by first | rfl | (simp; done) | (simp [*]; done), by repeat (first | exact Drawn0.refl _ | apply Drawn0.step)⟩
def v_twos_8.f (a0_0 : Int) (a0_1 : Int) (a1_0 : Int) (a1_1 : Int) : Option (Int × Int) := (v_True.f a0_0 a0_1).bind fun t200 => (if t200 = true then ((v_True.f a1_0 a1_1).bind fun t201 => ((v_Truth.f t201).bind fun bt202 => (some (bt202.1, bt202.2)))) else ((v_Truth.f false).bind fun bt204 => (some (bt204.1, bt204.2))))
set_option maxHeartbeats 8000000 in
set_option maxRecDepth 100000 in
theorem v_twos_8.calls (a0_0 : Int) (a0_1 : Int) (a1_0 : Int) (a1_1 : Int) (r1 : Int) (r2 : Int) (w : World) (h : v_twos_8.f a0_0 a0_1 a1_0 a1_1 = some (r1, r2)) :
  Calls Tryz.prog 73 #[.agg #[.int .i64 a0_0, .int .i64 a0_1], .agg #[.int .i64 a1_0, .int .i64 a1_1]] w fun e w' => e = .returned (.agg #[.int .i64 r1, .int .i64 r2]) ∧ Below w.heap.size w w' := by
 have hu25 := Tryz.underlying25
 have HB := Sd.mk (Below.refl w.heap.size w)
 have H : ((v_True.f a0_0 a0_1).bind fun t200 => (if t200 = true then ((v_True.f a1_0 a1_1).bind fun t201 => ((v_Truth.f t201).bind fun bt202 => (some (bt202.1, bt202.2)))) else ((v_Truth.f false).bind fun bt204 => (some (bt204.1, bt204.2))))) = some (r1, r2) := h
 clear h
 replace H := Option.bind_eq_some_iff.mp H
 obtain ⟨t200, A30, H⟩ := H
 replace H : (if t200 = true then ((v_True.f a1_0 a1_1).bind fun t201 => ((v_Truth.f t201).bind fun bt202 => (some (bt202.1, bt202.2)))) else ((v_Truth.f false).bind fun bt204 => (some (bt204.1, bt204.2)))) = some (r1, r2) := H
 have A3 := Sd.mk A30
 clear A30
 by_cases c4 : t200 = true
 ·subst c4
  have H1 : ((v_True.f a1_0 a1_1).bind fun t201 => ((v_Truth.f t201).bind fun bt202 => (some (bt202.1, bt202.2)))) = some (r1, r2) := by rw [if_pos rfl] at H; exact H
  clear H
  have H := H1
  clear H1
  replace H := Option.bind_eq_some_iff.mp H
  obtain ⟨t201, A50, H⟩ := H
  replace H : ((v_Truth.f t201).bind fun bt202 => (some (bt202.1, bt202.2))) = some (r1, r2) := H
  have A5 := Sd.mk A50
  clear A50
  replace H := Option.bind_eq_some_iff.mp H
  obtain ⟨⟨t202, t203⟩, A60, H⟩ := H
  replace H : (some (t202, t203)) = some (r1, r2) := H
  have A6 := Sd.mk A60
  clear A60
  simp only [Option.some.injEq, Prod.mk.injEq] at H
  obtain ⟨rfl, rfl⟩ := H
  go_enter Tryz.func73, Tryz.ntmps73
  go_wp2_with (first | ((with_reducible refine gate_dst (N := 2) rfl ?_); refine box_event ?hg (N := 2) ?hd (cs := #[.int .i64 a0_0, .int .i64 a0_1]) (t := 25) ?hr ?_; (case hd => rfl); (case hg => rfl); (case hr => first | (go_simp; done) | (go_simp; rfl)); intro gb197 hg w7 hbox hb; have n0_ := Sd.mk (below_step (by exact blwF HB.out) hb); have n1_ := Sd.mk (hbox); have n2_ := Sd.mk ((by rw [hg]; exact (below_size (by exact blwF HB.out)) : w.heap.size ≤ gb197)); have n3_ := Sd.mk ((by rw [hg]; exact (below_size (by exact blwF HB.out)) : w.heap.size ≤ gb197)); clear HB; have HB := n0_; have BK197 := n1_; have GW197 := n2_; have GE197 := n3_; clear n0_ n1_ n2_ n3_; clear hb hbox hg) | ((with_reducible refine gate_dst (N := 3) rfl ?_); refine box_event ?hg (N := 3) ?hd (cs := #[.int .i64 a1_0, .int .i64 a1_1]) (t := 25) ?hr ?_; (case hd => rfl); (case hg => rfl); (case hr => first | (go_simp; done) | (go_simp; rfl)); intro gb198 hg w8 hbox hb; have n0_ := Sd.mk (blk_below (g := gb197) (o := .cells #[.int .i64 a0_0, .int .i64 a0_1] 25 (0, 0)) (by exact blkF BK197.out) hb); have n1_ := Sd.mk (below_step (by repeat (first | (with_reducible first | exact HB.out | apply bal | apply pbd | apply bd1 | refine bst ?_ GE197.out) | exact HB.out)) hb); have n2_ := Sd.mk (hbox); have n3_ := Sd.mk ((by rw [hg]; exact (below_size (by repeat (first | (with_reducible first | exact HB.out | apply bal | apply pbd | apply bd1 | refine bst ?_ GE197.out) | exact HB.out))) : w.heap.size ≤ gb198)); have n4_ := Sd.mk ((by rw [hg]; exact (below_size (by repeat (first | (with_reducible first | exact HB.out | apply bal | apply pbd | apply bd1 | refine bst ?_ GE197.out) | exact HB.out))) : w.heap.size ≤ gb198)); have n5_ := Sd.mk ((by rw [hg]; exact Nat.ne_of_lt (blk_lt (g := gb197) (o := .cells #[.int .i64 a0_0, .int .i64 a0_1] 25 (0, 0)) (by exact blkF BK197.out)) : gb197 ≠ gb198)); have n6_ := Sd.mk ((by rw [hg]; exact Nat.ne_of_gt (blk_lt (g := gb197) (o := .cells #[.int .i64 a0_0, .int .i64 a0_1] 25 (0, 0)) (by exact blkF BK197.out)) : gb198 ≠ gb197)); clear BK197; clear HB; have BK197 := n0_; have HB := n1_; have BK198 := n2_; have GW198 := n3_; have GE198 := n4_; have NB197_198 := n5_; have NB198_197 := n6_; clear n0_ n1_ n2_ n3_ n4_ n5_ n6_; clear hb hbox hg) | ((with_reducible refine gate_dst (N := 4) rfl ?_); refine box_event ?hg (N := 4) ?hd (cs := #[.int .i64 0, .int .i64 0]) (t := 25) ?hr ?_; (case hd => rfl); (case hg => rfl); (case hr => first | (go_simp; done) | (go_simp; rfl)); intro gb199 hg w9 hbox hb; have n0_ := Sd.mk (blk_below (g := gb197) (o := .cells #[.int .i64 a0_0, .int .i64 a0_1] 25 (0, 0)) (by exact blkF BK197.out) hb); have n1_ := Sd.mk (blk_below (g := gb198) (o := .cells #[.int .i64 a1_0, .int .i64 a1_1] 25 (0, 0)) (by exact blkF BK198.out) hb); have n2_ := Sd.mk (below_step (by repeat (first | (with_reducible first | exact HB.out | apply bal | apply pbd | apply bd1 | refine bst ?_ GE197.out | refine bst ?_ GE198.out) | exact HB.out)) hb); have n3_ := Sd.mk (hbox); have n4_ := Sd.mk ((by rw [hg]; exact (below_size (by repeat (first | (with_reducible first | exact HB.out | apply bal | apply pbd | apply bd1 | refine bst ?_ GE197.out | refine bst ?_ GE198.out) | exact HB.out))) : w.heap.size ≤ gb199)); have n5_ := Sd.mk ((by rw [hg]; exact (below_size (by repeat (first | (with_reducible first | exact HB.out | apply bal | apply pbd | apply bd1 | refine bst ?_ GE197.out | refine bst ?_ GE198.out) | exact HB.out))) : w.heap.size ≤ gb199)); have n6_ := Sd.mk ((by rw [hg]; exact Nat.ne_of_lt (blk_lt (g := gb197) (o := .cells #[.int .i64 a0_0, .int .i64 a0_1] 25 (0, 0)) (by exact blkF BK197.out)) : gb197 ≠ gb199)); have n7_ := Sd.mk ((by rw [hg]; exact Nat.ne_of_gt (blk_lt (g := gb197) (o := .cells #[.int .i64 a0_0, .int .i64 a0_1] 25 (0, 0)) (by exact blkF BK197.out)) : gb199 ≠ gb197)); have n8_ := Sd.mk ((by rw [hg]; exact Nat.ne_of_lt (blk_lt (g := gb198) (o := .cells #[.int .i64 a1_0, .int .i64 a1_1] 25 (0, 0)) (by exact blkF BK198.out)) : gb198 ≠ gb199)); have n9_ := Sd.mk ((by rw [hg]; exact Nat.ne_of_gt (blk_lt (g := gb198) (o := .cells #[.int .i64 a1_0, .int .i64 a1_1] 25 (0, 0)) (by exact blkF BK198.out)) : gb199 ≠ gb198)); clear BK197; clear BK198; clear HB; have BK197 := n0_; have BK198 := n1_; have HB := n2_; have BK199 := n3_; have GW199 := n4_; have GE199 := n5_; have NB197_199 := n6_; have NB199_197 := n7_; have NB198_199 := n8_; have NB199_198 := n9_; clear n0_ n1_ n2_ n3_ n4_ n5_ n6_ n7_ n8_ n9_; clear hb hbox hg; have hnb10 := NB197_198.out; have hnc10 := NB198_197.out; have hnb11 := NB197_199.out; have hnc11 := NB199_197.out; have hcz12_0 : w9.cell? ⟨gb197, 0, none⟩ = some (.int .i64 a0_0) := (blk_cell BK197.out 0).trans rfl; have hcz12_1 : w9.cell? ⟨gb197, 1, none⟩ = some (.int .i64 a0_1) := (blk_cell BK197.out 1).trans rfl; have hfz12_0 := blk_frozen BK197.out 0; have hfz12_1 := blk_frozen BK197.out 1) | ((with_reducible refine gate_callee (f := 14) rfl ?_); refine goesL_ (some 6) rfl rfl Tryz.func14 (by kernel_rfl) rfl #[.agg #[.int .i64 a0_0, .int .i64 a0_1]] rfl (by (try simp only [List.map_toArray, List.map_cons, List.map_nil]); first | done | rfl | (simp only [List.length_drop, List.length_take]; rfl)) ?_; (with_reducible refine (v_True.calls a0_0 a0_1 true _ A3.out).mono ?_); rintro e w13 ⟨rfl, hb⟩; refine ⟨_, rfl, ?_⟩; have n0_ := Sd.mk (blk_below (g := gb197) (o := .cells #[.int .i64 a0_0, .int .i64 a0_1] 25 (0, 0)) (by exact blkF BK197.out) hb); have n1_ := Sd.mk (blk_below (g := gb198) (o := .cells #[.int .i64 a1_0, .int .i64 a1_1] 25 (0, 0)) (by exact blkF BK198.out) hb); have n2_ := Sd.mk (blk_below (g := gb199) (o := .cells #[.int .i64 0, .int .i64 0] 25 (0, 0)) (by exact blkF BK199.out) hb); have n3_ := Sd.mk (below_step (by repeat (first | (with_reducible first | exact HB.out | apply bal | apply pbd | apply bd1 | refine bst ?_ GE197.out | refine bst ?_ GE198.out | refine bst ?_ GE199.out) | exact HB.out)) hb); clear BK197; clear BK198; clear BK199; clear HB; have BK197 := n0_; have BK198 := n1_; have BK199 := n2_; have HB := n3_; clear n0_ n1_ n2_ n3_; (try clear hb); (try clear hb2); (try clear hk); (try clear hi); have hnb14 := NB198_199.out; have hnc14 := NB199_198.out; have hcz15_0 : w13.cell? ⟨gb198, 0, none⟩ = some (.int .i64 a1_0) := (blk_cell BK198.out 0).trans rfl; have hcz15_1 : w13.cell? ⟨gb198, 1, none⟩ = some (.int .i64 a1_1) := (blk_cell BK198.out 1).trans rfl; have hfz15_0 := blk_frozen BK198.out 0; have hfz15_1 := blk_frozen BK198.out 1) | (go_at_call 14; (with_reducible refine (v_True.calls a1_0 a1_1 t201 _ A5.out).mono ?_); rintro e w16 ⟨rfl, hb⟩; have n0_ := Sd.mk (blk_below (g := gb197) (o := .cells #[.int .i64 a0_0, .int .i64 a0_1] 25 (0, 0)) (by exact blkF BK197.out) hb); have n1_ := Sd.mk (blk_below (g := gb198) (o := .cells #[.int .i64 a1_0, .int .i64 a1_1] 25 (0, 0)) (by exact blkF BK198.out) hb); have n2_ := Sd.mk (blk_below (g := gb199) (o := .cells #[.int .i64 0, .int .i64 0] 25 (0, 0)) (by exact blkF BK199.out) hb); have n3_ := Sd.mk (below_step (by repeat (first | (with_reducible first | exact HB.out | apply bal | apply pbd | apply bd1 | refine bst ?_ GE197.out | refine bst ?_ GE198.out | refine bst ?_ GE199.out) | exact HB.out)) hb); clear BK197; clear BK198; clear BK199; clear HB; have BK197 := n0_; have BK198 := n1_; have BK199 := n2_; have HB := n3_; clear n0_ n1_ n2_ n3_; (try clear hb); (try clear hb2); (try clear hk); (try clear hi)) | ((with_reducible refine gate_callee (f := 21) rfl ?_); refine goesL_ (some 11) rfl rfl Tryz.func21 (by kernel_rfl) rfl #[.bool t201] rfl (by (try simp only [List.map_toArray, List.map_cons, List.map_nil]); first | done | rfl | (simp only [List.length_drop, List.length_take]; rfl)) ?_; (with_reducible refine (v_Truth.calls t201 t202 t203 _ A6.out).mono ?_); rintro e w17 ⟨rfl, hb⟩; refine ⟨_, rfl, ?_⟩; have n0_ := Sd.mk (blk_below (g := gb197) (o := .cells #[.int .i64 a0_0, .int .i64 a0_1] 25 (0, 0)) (by exact blkF BK197.out) hb); have n1_ := Sd.mk (blk_below (g := gb198) (o := .cells #[.int .i64 a1_0, .int .i64 a1_1] 25 (0, 0)) (by exact blkF BK198.out) hb); have n2_ := Sd.mk (blk_below (g := gb199) (o := .cells #[.int .i64 0, .int .i64 0] 25 (0, 0)) (by exact blkF BK199.out) hb); have n3_ := Sd.mk (below_step (by repeat (first | (with_reducible first | exact HB.out | apply bal | apply pbd | apply bd1 | refine bst ?_ GE197.out | refine bst ?_ GE198.out | refine bst ?_ GE199.out) | exact HB.out)) hb); clear BK197; clear BK198; clear BK199; clear HB; have BK197 := n0_; have BK198 := n1_; have BK199 := n2_; have HB := n3_; clear n0_ n1_ n2_ n3_; (try clear hb); (try clear hb2); (try clear hk); (try clear hi); have hcz18_0 : w17.cell? ⟨gb199, 0, none⟩ = some (.int .i64 0) := (blk_cell BK199.out 0).trans rfl; have hcz18_1 : w17.cell? ⟨gb199, 1, none⟩ = some (.int .i64 0) := (blk_cell BK199.out 1).trans rfl; have hfz18_0 := blk_frozen BK199.out 0; have hfz18_1 := blk_frozen BK199.out 1))
  refine bodyPost_ret (results_cell_row rfl _ _ gb199 25 #[.int .i64 t202, .int .i64 t203] (0, 0) _ rfl (by (with_reducible repeat (first | refine blk_drewN ?_ _ | refine blk_drew ?_ | refine blk_alloc ?_ _)); refine blk_put (cs := #[.int .i64 t202, .int .i64 0]) ?_ 1 _ rfl; (with_reducible repeat (first | refine blk_drewN ?_ _ | refine blk_drew ?_ | refine blk_alloc ?_ _)); refine blk_put (cs := #[.int .i64 0, .int .i64 0]) ?_ 0 _ rfl; (with_reducible repeat (first | refine blk_drewN ?_ _ | refine blk_drew ?_ | refine blk_alloc ?_ _)); exact BK199.out) Tryz.underlying25 rfl (by kernel_rfl)) rfl ?_
  exact ⟨by first | rfl | (simp [errW_none, errW_some] <;> rfl) | (simp [*, errW_none, errW_some] <;> rfl), by repeat (first | (with_reducible first | exact HB.out | apply bal | apply pbd | apply bd1 | refine bst ?_ GE197.out | refine bst ?_ GE198.out | refine bst ?_ GE199.out) | exact HB.out)⟩
 ·replace c4 := Bool.eq_false_iff.mpr c4
  subst c4
  have H1 : ((v_Truth.f false).bind fun bt204 => (some (bt204.1, bt204.2))) = some (r1, r2) := by rw [if_neg (show ¬ (false = true) by decide)] at H; exact H
  clear H
  have H := H1
  clear H1
  replace H := Option.bind_eq_some_iff.mp H
  obtain ⟨⟨t204, t205⟩, A190, H⟩ := H
  replace H : (some (t204, t205)) = some (r1, r2) := H
  have A19 := Sd.mk A190
  clear A190
  simp only [Option.some.injEq, Prod.mk.injEq] at H
  obtain ⟨rfl, rfl⟩ := H
  go_enter Tryz.func73, Tryz.ntmps73
  go_wp2_with (first | ((with_reducible refine gate_dst (N := 2) rfl ?_); refine box_event ?hg (N := 2) ?hd (cs := #[.int .i64 a0_0, .int .i64 a0_1]) (t := 25) ?hr ?_; (case hd => rfl); (case hg => rfl); (case hr => first | (go_simp; done) | (go_simp; rfl)); intro gb197 hg w20 hbox hb; have n0_ := Sd.mk (below_step (by exact blwF HB.out) hb); have n1_ := Sd.mk (hbox); have n2_ := Sd.mk ((by rw [hg]; exact (below_size (by exact blwF HB.out)) : w.heap.size ≤ gb197)); have n3_ := Sd.mk ((by rw [hg]; exact (below_size (by exact blwF HB.out)) : w.heap.size ≤ gb197)); clear HB; have HB := n0_; have BK197 := n1_; have GW197 := n2_; have GE197 := n3_; clear n0_ n1_ n2_ n3_; clear hb hbox hg) | ((with_reducible refine gate_dst (N := 3) rfl ?_); refine box_event ?hg (N := 3) ?hd (cs := #[.int .i64 a1_0, .int .i64 a1_1]) (t := 25) ?hr ?_; (case hd => rfl); (case hg => rfl); (case hr => first | (go_simp; done) | (go_simp; rfl)); intro gb198 hg w21 hbox hb; have n0_ := Sd.mk (blk_below (g := gb197) (o := .cells #[.int .i64 a0_0, .int .i64 a0_1] 25 (0, 0)) (by exact blkF BK197.out) hb); have n1_ := Sd.mk (below_step (by repeat (first | (with_reducible first | exact HB.out | apply bal | apply pbd | apply bd1 | refine bst ?_ GE197.out) | exact HB.out)) hb); have n2_ := Sd.mk (hbox); have n3_ := Sd.mk ((by rw [hg]; exact (below_size (by repeat (first | (with_reducible first | exact HB.out | apply bal | apply pbd | apply bd1 | refine bst ?_ GE197.out) | exact HB.out))) : w.heap.size ≤ gb198)); have n4_ := Sd.mk ((by rw [hg]; exact (below_size (by repeat (first | (with_reducible first | exact HB.out | apply bal | apply pbd | apply bd1 | refine bst ?_ GE197.out) | exact HB.out))) : w.heap.size ≤ gb198)); have n5_ := Sd.mk ((by rw [hg]; exact Nat.ne_of_lt (blk_lt (g := gb197) (o := .cells #[.int .i64 a0_0, .int .i64 a0_1] 25 (0, 0)) (by exact blkF BK197.out)) : gb197 ≠ gb198)); have n6_ := Sd.mk ((by rw [hg]; exact Nat.ne_of_gt (blk_lt (g := gb197) (o := .cells #[.int .i64 a0_0, .int .i64 a0_1] 25 (0, 0)) (by exact blkF BK197.out)) : gb198 ≠ gb197)); clear BK197; clear HB; have BK197 := n0_; have HB := n1_; have BK198 := n2_; have GW198 := n3_; have GE198 := n4_; have NB197_198 := n5_; have NB198_197 := n6_; clear n0_ n1_ n2_ n3_ n4_ n5_ n6_; clear hb hbox hg) | ((with_reducible refine gate_dst (N := 4) rfl ?_); refine box_event ?hg (N := 4) ?hd (cs := #[.int .i64 0, .int .i64 0]) (t := 25) ?hr ?_; (case hd => rfl); (case hg => rfl); (case hr => first | (go_simp; done) | (go_simp; rfl)); intro gb199 hg w22 hbox hb; have n0_ := Sd.mk (blk_below (g := gb197) (o := .cells #[.int .i64 a0_0, .int .i64 a0_1] 25 (0, 0)) (by exact blkF BK197.out) hb); have n1_ := Sd.mk (blk_below (g := gb198) (o := .cells #[.int .i64 a1_0, .int .i64 a1_1] 25 (0, 0)) (by exact blkF BK198.out) hb); have n2_ := Sd.mk (below_step (by repeat (first | (with_reducible first | exact HB.out | apply bal | apply pbd | apply bd1 | refine bst ?_ GE197.out | refine bst ?_ GE198.out) | exact HB.out)) hb); have n3_ := Sd.mk (hbox); have n4_ := Sd.mk ((by rw [hg]; exact (below_size (by repeat (first | (with_reducible first | exact HB.out | apply bal | apply pbd | apply bd1 | refine bst ?_ GE197.out | refine bst ?_ GE198.out) | exact HB.out))) : w.heap.size ≤ gb199)); have n5_ := Sd.mk ((by rw [hg]; exact (below_size (by repeat (first | (with_reducible first | exact HB.out | apply bal | apply pbd | apply bd1 | refine bst ?_ GE197.out | refine bst ?_ GE198.out) | exact HB.out))) : w.heap.size ≤ gb199)); have n6_ := Sd.mk ((by rw [hg]; exact Nat.ne_of_lt (blk_lt (g := gb197) (o := .cells #[.int .i64 a0_0, .int .i64 a0_1] 25 (0, 0)) (by exact blkF BK197.out)) : gb197 ≠ gb199)); have n7_ := Sd.mk ((by rw [hg]; exact Nat.ne_of_gt (blk_lt (g := gb197) (o := .cells #[.int .i64 a0_0, .int .i64 a0_1] 25 (0, 0)) (by exact blkF BK197.out)) : gb199 ≠ gb197)); have n8_ := Sd.mk ((by rw [hg]; exact Nat.ne_of_lt (blk_lt (g := gb198) (o := .cells #[.int .i64 a1_0, .int .i64 a1_1] 25 (0, 0)) (by exact blkF BK198.out)) : gb198 ≠ gb199)); have n9_ := Sd.mk ((by rw [hg]; exact Nat.ne_of_gt (blk_lt (g := gb198) (o := .cells #[.int .i64 a1_0, .int .i64 a1_1] 25 (0, 0)) (by exact blkF BK198.out)) : gb199 ≠ gb198)); clear BK197; clear BK198; clear HB; have BK197 := n0_; have BK198 := n1_; have HB := n2_; have BK199 := n3_; have GW199 := n4_; have GE199 := n5_; have NB197_199 := n6_; have NB199_197 := n7_; have NB198_199 := n8_; have NB199_198 := n9_; clear n0_ n1_ n2_ n3_ n4_ n5_ n6_ n7_ n8_ n9_; clear hb hbox hg; have hnb23 := NB197_198.out; have hnc23 := NB198_197.out; have hnb24 := NB197_199.out; have hnc24 := NB199_197.out; have hcz25_0 : w22.cell? ⟨gb197, 0, none⟩ = some (.int .i64 a0_0) := (blk_cell BK197.out 0).trans rfl; have hcz25_1 : w22.cell? ⟨gb197, 1, none⟩ = some (.int .i64 a0_1) := (blk_cell BK197.out 1).trans rfl; have hfz25_0 := blk_frozen BK197.out 0; have hfz25_1 := blk_frozen BK197.out 1) | ((with_reducible refine gate_callee (f := 14) rfl ?_); refine goesL_ (some 6) rfl rfl Tryz.func14 (by kernel_rfl) rfl #[.agg #[.int .i64 a0_0, .int .i64 a0_1]] rfl (by (try simp only [List.map_toArray, List.map_cons, List.map_nil]); first | done | rfl | (simp only [List.length_drop, List.length_take]; rfl)) ?_; (with_reducible refine (v_True.calls a0_0 a0_1 false _ A3.out).mono ?_); rintro e w26 ⟨rfl, hb⟩; refine ⟨_, rfl, ?_⟩; have n0_ := Sd.mk (blk_below (g := gb197) (o := .cells #[.int .i64 a0_0, .int .i64 a0_1] 25 (0, 0)) (by exact blkF BK197.out) hb); have n1_ := Sd.mk (blk_below (g := gb198) (o := .cells #[.int .i64 a1_0, .int .i64 a1_1] 25 (0, 0)) (by exact blkF BK198.out) hb); have n2_ := Sd.mk (blk_below (g := gb199) (o := .cells #[.int .i64 0, .int .i64 0] 25 (0, 0)) (by exact blkF BK199.out) hb); have n3_ := Sd.mk (below_step (by repeat (first | (with_reducible first | exact HB.out | apply bal | apply pbd | apply bd1 | refine bst ?_ GE197.out | refine bst ?_ GE198.out | refine bst ?_ GE199.out) | exact HB.out)) hb); clear BK197; clear BK198; clear BK199; clear HB; have BK197 := n0_; have BK198 := n1_; have BK199 := n2_; have HB := n3_; clear n0_ n1_ n2_ n3_; (try clear hb); (try clear hb2); (try clear hk); (try clear hi)) | ((with_reducible refine gate_callee (f := 21) rfl ?_); refine goesL_ (some 11) rfl rfl Tryz.func21 (by kernel_rfl) rfl #[.bool false] rfl (by (try simp only [List.map_toArray, List.map_cons, List.map_nil]); first | done | rfl | (simp only [List.length_drop, List.length_take]; rfl)) ?_; (with_reducible refine (v_Truth.calls false t204 t205 _ A19.out).mono ?_); rintro e w27 ⟨rfl, hb⟩; refine ⟨_, rfl, ?_⟩; have n0_ := Sd.mk (blk_below (g := gb197) (o := .cells #[.int .i64 a0_0, .int .i64 a0_1] 25 (0, 0)) (by exact blkF BK197.out) hb); have n1_ := Sd.mk (blk_below (g := gb198) (o := .cells #[.int .i64 a1_0, .int .i64 a1_1] 25 (0, 0)) (by exact blkF BK198.out) hb); have n2_ := Sd.mk (blk_below (g := gb199) (o := .cells #[.int .i64 0, .int .i64 0] 25 (0, 0)) (by exact blkF BK199.out) hb); have n3_ := Sd.mk (below_step (by repeat (first | (with_reducible first | exact HB.out | apply bal | apply pbd | apply bd1 | refine bst ?_ GE197.out | refine bst ?_ GE198.out | refine bst ?_ GE199.out) | exact HB.out)) hb); clear BK197; clear BK198; clear BK199; clear HB; have BK197 := n0_; have BK198 := n1_; have BK199 := n2_; have HB := n3_; clear n0_ n1_ n2_ n3_; (try clear hb); (try clear hb2); (try clear hk); (try clear hi); have hnb28 := NB199_198.out; have hnc28 := NB198_199.out; have hcz29_0 : w27.cell? ⟨gb199, 0, none⟩ = some (.int .i64 0) := (blk_cell BK199.out 0).trans rfl; have hcz29_1 : w27.cell? ⟨gb199, 1, none⟩ = some (.int .i64 0) := (blk_cell BK199.out 1).trans rfl; have hfz29_0 := blk_frozen BK199.out 0; have hfz29_1 := blk_frozen BK199.out 1))
  refine bodyPost_ret (results_cell_row rfl _ _ gb199 25 #[.int .i64 t204, .int .i64 t205] (0, 0) _ rfl (by (with_reducible repeat (first | refine blk_drewN ?_ _ | refine blk_drew ?_ | refine blk_alloc ?_ _)); refine blk_put (cs := #[.int .i64 t204, .int .i64 0]) ?_ 1 _ rfl; (with_reducible repeat (first | refine blk_drewN ?_ _ | refine blk_drew ?_ | refine blk_alloc ?_ _)); refine blk_put (cs := #[.int .i64 0, .int .i64 0]) ?_ 0 _ rfl; (with_reducible repeat (first | refine blk_drewN ?_ _ | refine blk_drew ?_ | refine blk_alloc ?_ _)); exact BK199.out) Tryz.underlying25 rfl (by kernel_rfl)) rfl ?_
  exact ⟨by first | rfl | (simp [errW_none, errW_some] <;> rfl) | (simp [*, errW_none, errW_some] <;> rfl), by repeat (first | (with_reducible first | exact HB.out | apply bal | apply pbd | apply bd1 | refine bst ?_ GE197.out | refine bst ?_ GE198.out | refine bst ?_ GE199.out) | exact HB.out)⟩
def v_twos_9.f (a0_0 : Int) (a0_1 : Int) (a1_0 : Int) (a1_1 : Int) : Option (Int × Int) := (v_True.f a0_0 a0_1).bind fun t209 => (if t209 = true then ((v_Truth.f true).bind fun bt210 => (some (bt210.1, bt210.2))) else ((v_True.f a1_0 a1_1).bind fun t212 => ((v_Truth.f t212).bind fun bt213 => (some (bt213.1, bt213.2)))))
set_option maxHeartbeats 8000000 in
set_option maxRecDepth 100000 in
theorem v_twos_9.calls (a0_0 : Int) (a0_1 : Int) (a1_0 : Int) (a1_1 : Int) (r1 : Int) (r2 : Int) (w : World) (h : v_twos_9.f a0_0 a0_1 a1_0 a1_1 = some (r1, r2)) :
  Calls Tryz.prog 74 #[.agg #[.int .i64 a0_0, .int .i64 a0_1], .agg #[.int .i64 a1_0, .int .i64 a1_1]] w fun e w' => e = .returned (.agg #[.int .i64 r1, .int .i64 r2]) ∧ Below w.heap.size w w' := by
 have hu25 := Tryz.underlying25
 have HB := Sd.mk (Below.refl w.heap.size w)
 have H : ((v_True.f a0_0 a0_1).bind fun t209 => (if t209 = true then ((v_Truth.f true).bind fun bt210 => (some (bt210.1, bt210.2))) else ((v_True.f a1_0 a1_1).bind fun t212 => ((v_Truth.f t212).bind fun bt213 => (some (bt213.1, bt213.2)))))) = some (r1, r2) := h
 clear h
 replace H := Option.bind_eq_some_iff.mp H
 obtain ⟨t209, A30, H⟩ := H
 replace H : (if t209 = true then ((v_Truth.f true).bind fun bt210 => (some (bt210.1, bt210.2))) else ((v_True.f a1_0 a1_1).bind fun t212 => ((v_Truth.f t212).bind fun bt213 => (some (bt213.1, bt213.2))))) = some (r1, r2) := H
 have A3 := Sd.mk A30
 clear A30
 by_cases c4 : t209 = true
 ·subst c4
  have H1 : ((v_Truth.f true).bind fun bt210 => (some (bt210.1, bt210.2))) = some (r1, r2) := by rw [if_pos rfl] at H; exact H
  clear H
  have H := H1
  clear H1
  replace H := Option.bind_eq_some_iff.mp H
  obtain ⟨⟨t210, t211⟩, A50, H⟩ := H
  replace H : (some (t210, t211)) = some (r1, r2) := H
  have A5 := Sd.mk A50
  clear A50
  simp only [Option.some.injEq, Prod.mk.injEq] at H
  obtain ⟨rfl, rfl⟩ := H
  go_enter Tryz.func74, Tryz.ntmps74
  go_wp2_with (first | ((with_reducible refine gate_dst (N := 2) rfl ?_); refine box_event ?hg (N := 2) ?hd (cs := #[.int .i64 a0_0, .int .i64 a0_1]) (t := 25) ?hr ?_; (case hd => rfl); (case hg => rfl); (case hr => first | (go_simp; done) | (go_simp; rfl)); intro gb206 hg w6 hbox hb; have n0_ := Sd.mk (below_step (by exact blwF HB.out) hb); have n1_ := Sd.mk (hbox); have n2_ := Sd.mk ((by rw [hg]; exact (below_size (by exact blwF HB.out)) : w.heap.size ≤ gb206)); have n3_ := Sd.mk ((by rw [hg]; exact (below_size (by exact blwF HB.out)) : w.heap.size ≤ gb206)); clear HB; have HB := n0_; have BK206 := n1_; have GW206 := n2_; have GE206 := n3_; clear n0_ n1_ n2_ n3_; clear hb hbox hg) | ((with_reducible refine gate_dst (N := 3) rfl ?_); refine box_event ?hg (N := 3) ?hd (cs := #[.int .i64 a1_0, .int .i64 a1_1]) (t := 25) ?hr ?_; (case hd => rfl); (case hg => rfl); (case hr => first | (go_simp; done) | (go_simp; rfl)); intro gb207 hg w7 hbox hb; have n0_ := Sd.mk (blk_below (g := gb206) (o := .cells #[.int .i64 a0_0, .int .i64 a0_1] 25 (0, 0)) (by exact blkF BK206.out) hb); have n1_ := Sd.mk (below_step (by repeat (first | (with_reducible first | exact HB.out | apply bal | apply pbd | apply bd1 | refine bst ?_ GE206.out) | exact HB.out)) hb); have n2_ := Sd.mk (hbox); have n3_ := Sd.mk ((by rw [hg]; exact (below_size (by repeat (first | (with_reducible first | exact HB.out | apply bal | apply pbd | apply bd1 | refine bst ?_ GE206.out) | exact HB.out))) : w.heap.size ≤ gb207)); have n4_ := Sd.mk ((by rw [hg]; exact (below_size (by repeat (first | (with_reducible first | exact HB.out | apply bal | apply pbd | apply bd1 | refine bst ?_ GE206.out) | exact HB.out))) : w.heap.size ≤ gb207)); have n5_ := Sd.mk ((by rw [hg]; exact Nat.ne_of_lt (blk_lt (g := gb206) (o := .cells #[.int .i64 a0_0, .int .i64 a0_1] 25 (0, 0)) (by exact blkF BK206.out)) : gb206 ≠ gb207)); have n6_ := Sd.mk ((by rw [hg]; exact Nat.ne_of_gt (blk_lt (g := gb206) (o := .cells #[.int .i64 a0_0, .int .i64 a0_1] 25 (0, 0)) (by exact blkF BK206.out)) : gb207 ≠ gb206)); clear BK206; clear HB; have BK206 := n0_; have HB := n1_; have BK207 := n2_; have GW207 := n3_; have GE207 := n4_; have NB206_207 := n5_; have NB207_206 := n6_; clear n0_ n1_ n2_ n3_ n4_ n5_ n6_; clear hb hbox hg) | ((with_reducible refine gate_dst (N := 4) rfl ?_); refine box_event ?hg (N := 4) ?hd (cs := #[.int .i64 0, .int .i64 0]) (t := 25) ?hr ?_; (case hd => rfl); (case hg => rfl); (case hr => first | (go_simp; done) | (go_simp; rfl)); intro gb208 hg w8 hbox hb; have n0_ := Sd.mk (blk_below (g := gb206) (o := .cells #[.int .i64 a0_0, .int .i64 a0_1] 25 (0, 0)) (by exact blkF BK206.out) hb); have n1_ := Sd.mk (blk_below (g := gb207) (o := .cells #[.int .i64 a1_0, .int .i64 a1_1] 25 (0, 0)) (by exact blkF BK207.out) hb); have n2_ := Sd.mk (below_step (by repeat (first | (with_reducible first | exact HB.out | apply bal | apply pbd | apply bd1 | refine bst ?_ GE206.out | refine bst ?_ GE207.out) | exact HB.out)) hb); have n3_ := Sd.mk (hbox); have n4_ := Sd.mk ((by rw [hg]; exact (below_size (by repeat (first | (with_reducible first | exact HB.out | apply bal | apply pbd | apply bd1 | refine bst ?_ GE206.out | refine bst ?_ GE207.out) | exact HB.out))) : w.heap.size ≤ gb208)); have n5_ := Sd.mk ((by rw [hg]; exact (below_size (by repeat (first | (with_reducible first | exact HB.out | apply bal | apply pbd | apply bd1 | refine bst ?_ GE206.out | refine bst ?_ GE207.out) | exact HB.out))) : w.heap.size ≤ gb208)); have n6_ := Sd.mk ((by rw [hg]; exact Nat.ne_of_lt (blk_lt (g := gb206) (o := .cells #[.int .i64 a0_0, .int .i64 a0_1] 25 (0, 0)) (by exact blkF BK206.out)) : gb206 ≠ gb208)); have n7_ := Sd.mk ((by rw [hg]; exact Nat.ne_of_gt (blk_lt (g := gb206) (o := .cells #[.int .i64 a0_0, .int .i64 a0_1] 25 (0, 0)) (by exact blkF BK206.out)) : gb208 ≠ gb206)); have n8_ := Sd.mk ((by rw [hg]; exact Nat.ne_of_lt (blk_lt (g := gb207) (o := .cells #[.int .i64 a1_0, .int .i64 a1_1] 25 (0, 0)) (by exact blkF BK207.out)) : gb207 ≠ gb208)); have n9_ := Sd.mk ((by rw [hg]; exact Nat.ne_of_gt (blk_lt (g := gb207) (o := .cells #[.int .i64 a1_0, .int .i64 a1_1] 25 (0, 0)) (by exact blkF BK207.out)) : gb208 ≠ gb207)); clear BK206; clear BK207; clear HB; have BK206 := n0_; have BK207 := n1_; have HB := n2_; have BK208 := n3_; have GW208 := n4_; have GE208 := n5_; have NB206_208 := n6_; have NB208_206 := n7_; have NB207_208 := n8_; have NB208_207 := n9_; clear n0_ n1_ n2_ n3_ n4_ n5_ n6_ n7_ n8_ n9_; clear hb hbox hg; have hnb9 := NB206_207.out; have hnc9 := NB207_206.out; have hnb10 := NB206_208.out; have hnc10 := NB208_206.out; have hcz11_0 : w8.cell? ⟨gb206, 0, none⟩ = some (.int .i64 a0_0) := (blk_cell BK206.out 0).trans rfl; have hcz11_1 : w8.cell? ⟨gb206, 1, none⟩ = some (.int .i64 a0_1) := (blk_cell BK206.out 1).trans rfl; have hfz11_0 := blk_frozen BK206.out 0; have hfz11_1 := blk_frozen BK206.out 1) | ((with_reducible refine gate_callee (f := 14) rfl ?_); refine goesL_ (some 6) rfl rfl Tryz.func14 (by kernel_rfl) rfl #[.agg #[.int .i64 a0_0, .int .i64 a0_1]] rfl (by (try simp only [List.map_toArray, List.map_cons, List.map_nil]); first | done | rfl | (simp only [List.length_drop, List.length_take]; rfl)) ?_; (with_reducible refine (v_True.calls a0_0 a0_1 true _ A3.out).mono ?_); rintro e w12 ⟨rfl, hb⟩; refine ⟨_, rfl, ?_⟩; have n0_ := Sd.mk (blk_below (g := gb206) (o := .cells #[.int .i64 a0_0, .int .i64 a0_1] 25 (0, 0)) (by exact blkF BK206.out) hb); have n1_ := Sd.mk (blk_below (g := gb207) (o := .cells #[.int .i64 a1_0, .int .i64 a1_1] 25 (0, 0)) (by exact blkF BK207.out) hb); have n2_ := Sd.mk (blk_below (g := gb208) (o := .cells #[.int .i64 0, .int .i64 0] 25 (0, 0)) (by exact blkF BK208.out) hb); have n3_ := Sd.mk (below_step (by repeat (first | (with_reducible first | exact HB.out | apply bal | apply pbd | apply bd1 | refine bst ?_ GE206.out | refine bst ?_ GE207.out | refine bst ?_ GE208.out) | exact HB.out)) hb); clear BK206; clear BK207; clear BK208; clear HB; have BK206 := n0_; have BK207 := n1_; have BK208 := n2_; have HB := n3_; clear n0_ n1_ n2_ n3_; (try clear hb); (try clear hb2); (try clear hk); (try clear hi)) | ((with_reducible refine gate_callee (f := 21) rfl ?_); refine goesL_ (some 11) rfl rfl Tryz.func21 (by kernel_rfl) rfl #[.bool true] rfl (by (try simp only [List.map_toArray, List.map_cons, List.map_nil]); first | done | rfl | (simp only [List.length_drop, List.length_take]; rfl)) ?_; (with_reducible refine (v_Truth.calls true t210 t211 _ A5.out).mono ?_); rintro e w13 ⟨rfl, hb⟩; refine ⟨_, rfl, ?_⟩; have n0_ := Sd.mk (blk_below (g := gb206) (o := .cells #[.int .i64 a0_0, .int .i64 a0_1] 25 (0, 0)) (by exact blkF BK206.out) hb); have n1_ := Sd.mk (blk_below (g := gb207) (o := .cells #[.int .i64 a1_0, .int .i64 a1_1] 25 (0, 0)) (by exact blkF BK207.out) hb); have n2_ := Sd.mk (blk_below (g := gb208) (o := .cells #[.int .i64 0, .int .i64 0] 25 (0, 0)) (by exact blkF BK208.out) hb); have n3_ := Sd.mk (below_step (by repeat (first | (with_reducible first | exact HB.out | apply bal | apply pbd | apply bd1 | refine bst ?_ GE206.out | refine bst ?_ GE207.out | refine bst ?_ GE208.out) | exact HB.out)) hb); clear BK206; clear BK207; clear BK208; clear HB; have BK206 := n0_; have BK207 := n1_; have BK208 := n2_; have HB := n3_; clear n0_ n1_ n2_ n3_; (try clear hb); (try clear hb2); (try clear hk); (try clear hi); have hnb14 := NB208_207.out; have hnc14 := NB207_208.out; have hcz15_0 : w13.cell? ⟨gb208, 0, none⟩ = some (.int .i64 0) := (blk_cell BK208.out 0).trans rfl; have hcz15_1 : w13.cell? ⟨gb208, 1, none⟩ = some (.int .i64 0) := (blk_cell BK208.out 1).trans rfl; have hfz15_0 := blk_frozen BK208.out 0; have hfz15_1 := blk_frozen BK208.out 1))
  refine bodyPost_ret (results_cell_row rfl _ _ gb208 25 #[.int .i64 t210, .int .i64 t211] (0, 0) _ rfl (by (with_reducible repeat (first | refine blk_drewN ?_ _ | refine blk_drew ?_ | refine blk_alloc ?_ _)); refine blk_put (cs := #[.int .i64 t210, .int .i64 0]) ?_ 1 _ rfl; (with_reducible repeat (first | refine blk_drewN ?_ _ | refine blk_drew ?_ | refine blk_alloc ?_ _)); refine blk_put (cs := #[.int .i64 0, .int .i64 0]) ?_ 0 _ rfl; (with_reducible repeat (first | refine blk_drewN ?_ _ | refine blk_drew ?_ | refine blk_alloc ?_ _)); exact BK208.out) Tryz.underlying25 rfl (by kernel_rfl)) rfl ?_
  exact ⟨by first | rfl | (simp [errW_none, errW_some] <;> rfl) | (simp [*, errW_none, errW_some] <;> rfl), by repeat (first | (with_reducible first | exact HB.out | apply bal | apply pbd | apply bd1 | refine bst ?_ GE206.out | refine bst ?_ GE207.out | refine bst ?_ GE208.out) | exact HB.out)⟩
 ·replace c4 := Bool.eq_false_iff.mpr c4
  subst c4
  have H1 : ((v_True.f a1_0 a1_1).bind fun t212 => ((v_Truth.f t212).bind fun bt213 => (some (bt213.1, bt213.2)))) = some (r1, r2) := by rw [if_neg (show ¬ (false = true) by decide)] at H; exact H
  clear H
  have H := H1
  clear H1
  replace H := Option.bind_eq_some_iff.mp H
  obtain ⟨t212, A160, H⟩ := H
  replace H : ((v_Truth.f t212).bind fun bt213 => (some (bt213.1, bt213.2))) = some (r1, r2) := H
  have A16 := Sd.mk A160
  clear A160
  replace H := Option.bind_eq_some_iff.mp H
  obtain ⟨⟨t213, t214⟩, A170, H⟩ := H
  replace H : (some (t213, t214)) = some (r1, r2) := H
  have A17 := Sd.mk A170
  clear A170
  simp only [Option.some.injEq, Prod.mk.injEq] at H
  obtain ⟨rfl, rfl⟩ := H
  go_enter Tryz.func74, Tryz.ntmps74
  go_wp2_with (first | ((with_reducible refine gate_dst (N := 2) rfl ?_); refine box_event ?hg (N := 2) ?hd (cs := #[.int .i64 a0_0, .int .i64 a0_1]) (t := 25) ?hr ?_; (case hd => rfl); (case hg => rfl); (case hr => first | (go_simp; done) | (go_simp; rfl)); intro gb206 hg w18 hbox hb; have n0_ := Sd.mk (below_step (by exact blwF HB.out) hb); have n1_ := Sd.mk (hbox); have n2_ := Sd.mk ((by rw [hg]; exact (below_size (by exact blwF HB.out)) : w.heap.size ≤ gb206)); have n3_ := Sd.mk ((by rw [hg]; exact (below_size (by exact blwF HB.out)) : w.heap.size ≤ gb206)); clear HB; have HB := n0_; have BK206 := n1_; have GW206 := n2_; have GE206 := n3_; clear n0_ n1_ n2_ n3_; clear hb hbox hg) | ((with_reducible refine gate_dst (N := 3) rfl ?_); refine box_event ?hg (N := 3) ?hd (cs := #[.int .i64 a1_0, .int .i64 a1_1]) (t := 25) ?hr ?_; (case hd => rfl); (case hg => rfl); (case hr => first | (go_simp; done) | (go_simp; rfl)); intro gb207 hg w19 hbox hb; have n0_ := Sd.mk (blk_below (g := gb206) (o := .cells #[.int .i64 a0_0, .int .i64 a0_1] 25 (0, 0)) (by exact blkF BK206.out) hb); have n1_ := Sd.mk (below_step (by repeat (first | (with_reducible first | exact HB.out | apply bal | apply pbd | apply bd1 | refine bst ?_ GE206.out) | exact HB.out)) hb); have n2_ := Sd.mk (hbox); have n3_ := Sd.mk ((by rw [hg]; exact (below_size (by repeat (first | (with_reducible first | exact HB.out | apply bal | apply pbd | apply bd1 | refine bst ?_ GE206.out) | exact HB.out))) : w.heap.size ≤ gb207)); have n4_ := Sd.mk ((by rw [hg]; exact (below_size (by repeat (first | (with_reducible first | exact HB.out | apply bal | apply pbd | apply bd1 | refine bst ?_ GE206.out) | exact HB.out))) : w.heap.size ≤ gb207)); have n5_ := Sd.mk ((by rw [hg]; exact Nat.ne_of_lt (blk_lt (g := gb206) (o := .cells #[.int .i64 a0_0, .int .i64 a0_1] 25 (0, 0)) (by exact blkF BK206.out)) : gb206 ≠ gb207)); have n6_ := Sd.mk ((by rw [hg]; exact Nat.ne_of_gt (blk_lt (g := gb206) (o := .cells #[.int .i64 a0_0, .int .i64 a0_1] 25 (0, 0)) (by exact blkF BK206.out)) : gb207 ≠ gb206)); clear BK206; clear HB; have BK206 := n0_; have HB := n1_; have BK207 := n2_; have GW207 := n3_; have GE207 := n4_; have NB206_207 := n5_; have NB207_206 := n6_; clear n0_ n1_ n2_ n3_ n4_ n5_ n6_; clear hb hbox hg) | ((with_reducible refine gate_dst (N := 4) rfl ?_); refine box_event ?hg (N := 4) ?hd (cs := #[.int .i64 0, .int .i64 0]) (t := 25) ?hr ?_; (case hd => rfl); (case hg => rfl); (case hr => first | (go_simp; done) | (go_simp; rfl)); intro gb208 hg w20 hbox hb; have n0_ := Sd.mk (blk_below (g := gb206) (o := .cells #[.int .i64 a0_0, .int .i64 a0_1] 25 (0, 0)) (by exact blkF BK206.out) hb); have n1_ := Sd.mk (blk_below (g := gb207) (o := .cells #[.int .i64 a1_0, .int .i64 a1_1] 25 (0, 0)) (by exact blkF BK207.out) hb); have n2_ := Sd.mk (below_step (by repeat (first | (with_reducible first | exact HB.out | apply bal | apply pbd | apply bd1 | refine bst ?_ GE206.out | refine bst ?_ GE207.out) | exact HB.out)) hb); have n3_ := Sd.mk (hbox); have n4_ := Sd.mk ((by rw [hg]; exact (below_size (by repeat (first | (with_reducible first | exact HB.out | apply bal | apply pbd | apply bd1 | refine bst ?_ GE206.out | refine bst ?_ GE207.out) | exact HB.out))) : w.heap.size ≤ gb208)); have n5_ := Sd.mk ((by rw [hg]; exact (below_size (by repeat (first | (with_reducible first | exact HB.out | apply bal | apply pbd | apply bd1 | refine bst ?_ GE206.out | refine bst ?_ GE207.out) | exact HB.out))) : w.heap.size ≤ gb208)); have n6_ := Sd.mk ((by rw [hg]; exact Nat.ne_of_lt (blk_lt (g := gb206) (o := .cells #[.int .i64 a0_0, .int .i64 a0_1] 25 (0, 0)) (by exact blkF BK206.out)) : gb206 ≠ gb208)); have n7_ := Sd.mk ((by rw [hg]; exact Nat.ne_of_gt (blk_lt (g := gb206) (o := .cells #[.int .i64 a0_0, .int .i64 a0_1] 25 (0, 0)) (by exact blkF BK206.out)) : gb208 ≠ gb206)); have n8_ := Sd.mk ((by rw [hg]; exact Nat.ne_of_lt (blk_lt (g := gb207) (o := .cells #[.int .i64 a1_0, .int .i64 a1_1] 25 (0, 0)) (by exact blkF BK207.out)) : gb207 ≠ gb208)); have n9_ := Sd.mk ((by rw [hg]; exact Nat.ne_of_gt (blk_lt (g := gb207) (o := .cells #[.int .i64 a1_0, .int .i64 a1_1] 25 (0, 0)) (by exact blkF BK207.out)) : gb208 ≠ gb207)); clear BK206; clear BK207; clear HB; have BK206 := n0_; have BK207 := n1_; have HB := n2_; have BK208 := n3_; have GW208 := n4_; have GE208 := n5_; have NB206_208 := n6_; have NB208_206 := n7_; have NB207_208 := n8_; have NB208_207 := n9_; clear n0_ n1_ n2_ n3_ n4_ n5_ n6_ n7_ n8_ n9_; clear hb hbox hg; have hnb21 := NB206_207.out; have hnc21 := NB207_206.out; have hnb22 := NB206_208.out; have hnc22 := NB208_206.out; have hcz23_0 : w20.cell? ⟨gb206, 0, none⟩ = some (.int .i64 a0_0) := (blk_cell BK206.out 0).trans rfl; have hcz23_1 : w20.cell? ⟨gb206, 1, none⟩ = some (.int .i64 a0_1) := (blk_cell BK206.out 1).trans rfl; have hfz23_0 := blk_frozen BK206.out 0; have hfz23_1 := blk_frozen BK206.out 1) | ((with_reducible refine gate_callee (f := 14) rfl ?_); refine goesL_ (some 6) rfl rfl Tryz.func14 (by kernel_rfl) rfl #[.agg #[.int .i64 a0_0, .int .i64 a0_1]] rfl (by (try simp only [List.map_toArray, List.map_cons, List.map_nil]); first | done | rfl | (simp only [List.length_drop, List.length_take]; rfl)) ?_; (with_reducible refine (v_True.calls a0_0 a0_1 false _ A3.out).mono ?_); rintro e w24 ⟨rfl, hb⟩; refine ⟨_, rfl, ?_⟩; have n0_ := Sd.mk (blk_below (g := gb206) (o := .cells #[.int .i64 a0_0, .int .i64 a0_1] 25 (0, 0)) (by exact blkF BK206.out) hb); have n1_ := Sd.mk (blk_below (g := gb207) (o := .cells #[.int .i64 a1_0, .int .i64 a1_1] 25 (0, 0)) (by exact blkF BK207.out) hb); have n2_ := Sd.mk (blk_below (g := gb208) (o := .cells #[.int .i64 0, .int .i64 0] 25 (0, 0)) (by exact blkF BK208.out) hb); have n3_ := Sd.mk (below_step (by repeat (first | (with_reducible first | exact HB.out | apply bal | apply pbd | apply bd1 | refine bst ?_ GE206.out | refine bst ?_ GE207.out | refine bst ?_ GE208.out) | exact HB.out)) hb); clear BK206; clear BK207; clear BK208; clear HB; have BK206 := n0_; have BK207 := n1_; have BK208 := n2_; have HB := n3_; clear n0_ n1_ n2_ n3_; (try clear hb); (try clear hb2); (try clear hk); (try clear hi); have hnb25 := NB207_208.out; have hnc25 := NB208_207.out; have hcz26_0 : w24.cell? ⟨gb207, 0, none⟩ = some (.int .i64 a1_0) := (blk_cell BK207.out 0).trans rfl; have hcz26_1 : w24.cell? ⟨gb207, 1, none⟩ = some (.int .i64 a1_1) := (blk_cell BK207.out 1).trans rfl; have hfz26_0 := blk_frozen BK207.out 0; have hfz26_1 := blk_frozen BK207.out 1) | (go_at_call 14; (with_reducible refine (v_True.calls a1_0 a1_1 t212 _ A16.out).mono ?_); rintro e w27 ⟨rfl, hb⟩; have n0_ := Sd.mk (blk_below (g := gb206) (o := .cells #[.int .i64 a0_0, .int .i64 a0_1] 25 (0, 0)) (by exact blkF BK206.out) hb); have n1_ := Sd.mk (blk_below (g := gb207) (o := .cells #[.int .i64 a1_0, .int .i64 a1_1] 25 (0, 0)) (by exact blkF BK207.out) hb); have n2_ := Sd.mk (blk_below (g := gb208) (o := .cells #[.int .i64 0, .int .i64 0] 25 (0, 0)) (by exact blkF BK208.out) hb); have n3_ := Sd.mk (below_step (by repeat (first | (with_reducible first | exact HB.out | apply bal | apply pbd | apply bd1 | refine bst ?_ GE206.out | refine bst ?_ GE207.out | refine bst ?_ GE208.out) | exact HB.out)) hb); clear BK206; clear BK207; clear BK208; clear HB; have BK206 := n0_; have BK207 := n1_; have BK208 := n2_; have HB := n3_; clear n0_ n1_ n2_ n3_; (try clear hb); (try clear hb2); (try clear hk); (try clear hi)) | ((with_reducible refine gate_callee (f := 21) rfl ?_); refine goesL_ (some 11) rfl rfl Tryz.func21 (by kernel_rfl) rfl #[.bool t212] rfl (by (try simp only [List.map_toArray, List.map_cons, List.map_nil]); first | done | rfl | (simp only [List.length_drop, List.length_take]; rfl)) ?_; (with_reducible refine (v_Truth.calls t212 t213 t214 _ A17.out).mono ?_); rintro e w28 ⟨rfl, hb⟩; refine ⟨_, rfl, ?_⟩; have n0_ := Sd.mk (blk_below (g := gb206) (o := .cells #[.int .i64 a0_0, .int .i64 a0_1] 25 (0, 0)) (by exact blkF BK206.out) hb); have n1_ := Sd.mk (blk_below (g := gb207) (o := .cells #[.int .i64 a1_0, .int .i64 a1_1] 25 (0, 0)) (by exact blkF BK207.out) hb); have n2_ := Sd.mk (blk_below (g := gb208) (o := .cells #[.int .i64 0, .int .i64 0] 25 (0, 0)) (by exact blkF BK208.out) hb); have n3_ := Sd.mk (below_step (by repeat (first | (with_reducible first | exact HB.out | apply bal | apply pbd | apply bd1 | refine bst ?_ GE206.out | refine bst ?_ GE207.out | refine bst ?_ GE208.out) | exact HB.out)) hb); clear BK206; clear BK207; clear BK208; clear HB; have BK206 := n0_; have BK207 := n1_; have BK208 := n2_; have HB := n3_; clear n0_ n1_ n2_ n3_; (try clear hb); (try clear hb2); (try clear hk); (try clear hi); have hcz29_0 : w28.cell? ⟨gb208, 0, none⟩ = some (.int .i64 0) := (blk_cell BK208.out 0).trans rfl; have hcz29_1 : w28.cell? ⟨gb208, 1, none⟩ = some (.int .i64 0) := (blk_cell BK208.out 1).trans rfl; have hfz29_0 := blk_frozen BK208.out 0; have hfz29_1 := blk_frozen BK208.out 1))
  refine bodyPost_ret (results_cell_row rfl _ _ gb208 25 #[.int .i64 t213, .int .i64 t214] (0, 0) _ rfl (by (with_reducible repeat (first | refine blk_drewN ?_ _ | refine blk_drew ?_ | refine blk_alloc ?_ _)); refine blk_put (cs := #[.int .i64 t213, .int .i64 0]) ?_ 1 _ rfl; (with_reducible repeat (first | refine blk_drewN ?_ _ | refine blk_drew ?_ | refine blk_alloc ?_ _)); refine blk_put (cs := #[.int .i64 0, .int .i64 0]) ?_ 0 _ rfl; (with_reducible repeat (first | refine blk_drewN ?_ _ | refine blk_drew ?_ | refine blk_alloc ?_ _)); exact BK208.out) Tryz.underlying25 rfl (by kernel_rfl)) rfl ?_
  exact ⟨by first | rfl | (simp [errW_none, errW_some] <;> rfl) | (simp [*, errW_none, errW_some] <;> rfl), by repeat (first | (with_reducible first | exact HB.out | apply bal | apply pbd | apply bd1 | refine bst ?_ GE206.out | refine bst ?_ GE207.out | refine bst ?_ GE208.out) | exact HB.out)⟩
def v_is.f (a0_0 : Int) (a0_1 : Int) : Option (Bool) := if a0_0 = 1 then (if a0_1 ≥ (-1000000000000000) then (some (decide (a0_1 ≤ 1000000000000000))) else (some false)) else (if a0_0 = 2 then (some (a0_1 == 0)) else (if a0_0 = 3 then (some (a0_1 == 0)) else (if a0_0 = 4 then (some (a0_1 == 0)) else (if a0_0 = 5 then (some (a0_1 == 0)) else (some false)))))
set_option maxHeartbeats 8000000 in
set_option maxRecDepth 100000 in
theorem v_is.calls (a0_0 : Int) (a0_1 : Int) (r : Bool) (w : World) (h : v_is.f a0_0 a0_1 = some r) :
  Calls Tryz.prog 43 #[.agg #[.int .i64 a0_0, .int .i64 a0_1]] w fun e w' => e = .returned (.bool r) ∧ Below w.heap.size w w' := by
 have hu25 := Tryz.underlying25
 have HB := Sd.mk (Below.refl w.heap.size w)
 have H : (if a0_0 = 1 then (if a0_1 ≥ (-1000000000000000) then (some (decide (a0_1 ≤ 1000000000000000))) else (some false)) else (if a0_0 = 2 then (some (a0_1 == 0)) else (if a0_0 = 3 then (some (a0_1 == 0)) else (if a0_0 = 4 then (some (a0_1 == 0)) else (if a0_0 = 5 then (some (a0_1 == 0)) else (some false)))))) = some r := h
 clear h
 by_cases c2 : a0_0 = 1
 ·rw [if_pos c2] at H
  have c2b0 : (a0_0 == 1) = true := beq_iff_eq.mpr c2
  have c2b1 : (a0_0 != 1) = false := bne_eq_false_iff_eq.mpr c2
  clear c2
  by_cases c3 : a0_1 ≥ (-1000000000000000)
  ·rw [if_pos c3] at H
   have c3b0 : decide ((-1000000000000000) ≤ a0_1) = true := decide_eq_true c3
   clear c3
   obtain rfl := Option.some.inj H
   go_enter Tryz.func43, Tryz.ntmps43
   go_wp2_with (first | ((with_reducible refine gate_dst (N := 1) rfl ?_); refine box_event ?hg (N := 1) ?hd (cs := #[.int .i64 a0_0, .int .i64 a0_1]) (t := 25) ?hr ?_; (case hd => rfl); (case hg => rfl); (case hr => first | (go_simp; done) | (go_simp; rfl)); intro gb215 hg w4 hbox hb; have n0_ := Sd.mk (below_step (by exact blwF HB.out) hb); have n1_ := Sd.mk (hbox); have n2_ := Sd.mk ((by rw [hg]; exact (below_size (by exact blwF HB.out)) : w.heap.size ≤ gb215)); have n3_ := Sd.mk ((by rw [hg]; exact (below_size (by exact blwF HB.out)) : w.heap.size ≤ gb215)); clear HB; have HB := n0_; have BK215 := n1_; have GW215 := n2_; have GE215 := n3_; clear n0_ n1_ n2_ n3_; clear hb hbox hg; have hcz5_0 : w4.cell? ⟨gb215, 0, none⟩ = some (.int .i64 a0_0) := (blk_cell BK215.out 0).trans rfl; have hcz5_1 : w4.cell? ⟨gb215, 1, none⟩ = some (.int .i64 a0_1) := (blk_cell BK215.out 1).trans rfl; have hfz5_0 := blk_frozen BK215.out 0; have hfz5_1 := blk_frozen BK215.out 1))
   go_ret
   exact ⟨by first | rfl | (simp [errW_none, errW_some] <;> rfl) | (simp [*, errW_none, errW_some] <;> rfl), by repeat (first | (with_reducible first | exact HB.out | apply bal | apply pbd | apply bd1 | refine bst ?_ GE215.out) | exact HB.out)⟩
  ·rw [if_neg c3] at H
   have c3b0 : decide ((-1000000000000000) ≤ a0_1) = false := decide_eq_false c3
   clear c3
   obtain rfl := Option.some.inj H
   go_enter Tryz.func43, Tryz.ntmps43
   go_wp2_with (first | ((with_reducible refine gate_dst (N := 1) rfl ?_); refine box_event ?hg (N := 1) ?hd (cs := #[.int .i64 a0_0, .int .i64 a0_1]) (t := 25) ?hr ?_; (case hd => rfl); (case hg => rfl); (case hr => first | (go_simp; done) | (go_simp; rfl)); intro gb215 hg w6 hbox hb; have n0_ := Sd.mk (below_step (by exact blwF HB.out) hb); have n1_ := Sd.mk (hbox); have n2_ := Sd.mk ((by rw [hg]; exact (below_size (by exact blwF HB.out)) : w.heap.size ≤ gb215)); have n3_ := Sd.mk ((by rw [hg]; exact (below_size (by exact blwF HB.out)) : w.heap.size ≤ gb215)); clear HB; have HB := n0_; have BK215 := n1_; have GW215 := n2_; have GE215 := n3_; clear n0_ n1_ n2_ n3_; clear hb hbox hg; have hcz7_0 : w6.cell? ⟨gb215, 0, none⟩ = some (.int .i64 a0_0) := (blk_cell BK215.out 0).trans rfl; have hcz7_1 : w6.cell? ⟨gb215, 1, none⟩ = some (.int .i64 a0_1) := (blk_cell BK215.out 1).trans rfl; have hfz7_0 := blk_frozen BK215.out 0; have hfz7_1 := blk_frozen BK215.out 1))
   go_ret
   exact ⟨by first | rfl | (simp [errW_none, errW_some] <;> rfl) | (simp [*, errW_none, errW_some] <;> rfl), by repeat (first | (with_reducible first | exact HB.out | apply bal | apply pbd | apply bd1 | refine bst ?_ GE215.out) | exact HB.out)⟩
 ·rw [if_neg c2] at H
  have c2b0 : (a0_0 == 1) = false := beq_eq_false_iff_ne.mpr c2
  have c2b1 : (a0_0 != 1) = true := bne_iff_ne.mpr c2
  by_cases c8 : a0_0 = 2
  ·rw [if_pos c8] at H
   have c8b0 : (a0_0 == 2) = true := beq_iff_eq.mpr c8
   have c8b1 : (a0_0 != 2) = false := bne_eq_false_iff_eq.mpr c8
   clear c8
   obtain rfl := Option.some.inj H
   go_enter Tryz.func43, Tryz.ntmps43
   go_wp2_with (first | ((with_reducible refine gate_dst (N := 1) rfl ?_); refine box_event ?hg (N := 1) ?hd (cs := #[.int .i64 a0_0, .int .i64 a0_1]) (t := 25) ?hr ?_; (case hd => rfl); (case hg => rfl); (case hr => first | (go_simp; done) | (go_simp; rfl)); intro gb215 hg w9 hbox hb; have n0_ := Sd.mk (below_step (by exact blwF HB.out) hb); have n1_ := Sd.mk (hbox); have n2_ := Sd.mk ((by rw [hg]; exact (below_size (by exact blwF HB.out)) : w.heap.size ≤ gb215)); have n3_ := Sd.mk ((by rw [hg]; exact (below_size (by exact blwF HB.out)) : w.heap.size ≤ gb215)); clear HB; have HB := n0_; have BK215 := n1_; have GW215 := n2_; have GE215 := n3_; clear n0_ n1_ n2_ n3_; clear hb hbox hg; have hcz10_0 : w9.cell? ⟨gb215, 0, none⟩ = some (.int .i64 a0_0) := (blk_cell BK215.out 0).trans rfl; have hcz10_1 : w9.cell? ⟨gb215, 1, none⟩ = some (.int .i64 a0_1) := (blk_cell BK215.out 1).trans rfl; have hfz10_0 := blk_frozen BK215.out 0; have hfz10_1 := blk_frozen BK215.out 1))
   go_ret
   exact ⟨by first | rfl | (simp [errW_none, errW_some] <;> rfl) | (simp [*, errW_none, errW_some] <;> rfl), by repeat (first | (with_reducible first | exact HB.out | apply bal | apply pbd | apply bd1 | refine bst ?_ GE215.out) | exact HB.out)⟩
  ·rw [if_neg c8] at H
   have c8b0 : (a0_0 == 2) = false := beq_eq_false_iff_ne.mpr c8
   have c8b1 : (a0_0 != 2) = true := bne_iff_ne.mpr c8
   by_cases c11 : a0_0 = 3
   ·rw [if_pos c11] at H
    have c11b0 : (a0_0 == 3) = true := beq_iff_eq.mpr c11
    have c11b1 : (a0_0 != 3) = false := bne_eq_false_iff_eq.mpr c11
    clear c11
    obtain rfl := Option.some.inj H
    go_enter Tryz.func43, Tryz.ntmps43
    go_wp2_with (first | ((with_reducible refine gate_dst (N := 1) rfl ?_); refine box_event ?hg (N := 1) ?hd (cs := #[.int .i64 a0_0, .int .i64 a0_1]) (t := 25) ?hr ?_; (case hd => rfl); (case hg => rfl); (case hr => first | (go_simp; done) | (go_simp; rfl)); intro gb215 hg w12 hbox hb; have n0_ := Sd.mk (below_step (by exact blwF HB.out) hb); have n1_ := Sd.mk (hbox); have n2_ := Sd.mk ((by rw [hg]; exact (below_size (by exact blwF HB.out)) : w.heap.size ≤ gb215)); have n3_ := Sd.mk ((by rw [hg]; exact (below_size (by exact blwF HB.out)) : w.heap.size ≤ gb215)); clear HB; have HB := n0_; have BK215 := n1_; have GW215 := n2_; have GE215 := n3_; clear n0_ n1_ n2_ n3_; clear hb hbox hg; have hcz13_0 : w12.cell? ⟨gb215, 0, none⟩ = some (.int .i64 a0_0) := (blk_cell BK215.out 0).trans rfl; have hcz13_1 : w12.cell? ⟨gb215, 1, none⟩ = some (.int .i64 a0_1) := (blk_cell BK215.out 1).trans rfl; have hfz13_0 := blk_frozen BK215.out 0; have hfz13_1 := blk_frozen BK215.out 1))
    go_ret
    exact ⟨by first | rfl | (simp [errW_none, errW_some] <;> rfl) | (simp [*, errW_none, errW_some] <;> rfl), by repeat (first | (with_reducible first | exact HB.out | apply bal | apply pbd | apply bd1 | refine bst ?_ GE215.out) | exact HB.out)⟩
   ·rw [if_neg c11] at H
    have c11b0 : (a0_0 == 3) = false := beq_eq_false_iff_ne.mpr c11
    have c11b1 : (a0_0 != 3) = true := bne_iff_ne.mpr c11
    by_cases c14 : a0_0 = 4
    ·rw [if_pos c14] at H
     have c14b0 : (a0_0 == 4) = true := beq_iff_eq.mpr c14
     have c14b1 : (a0_0 != 4) = false := bne_eq_false_iff_eq.mpr c14
     clear c14
     obtain rfl := Option.some.inj H
     go_enter Tryz.func43, Tryz.ntmps43
     go_wp2_with (first | ((with_reducible refine gate_dst (N := 1) rfl ?_); refine box_event ?hg (N := 1) ?hd (cs := #[.int .i64 a0_0, .int .i64 a0_1]) (t := 25) ?hr ?_; (case hd => rfl); (case hg => rfl); (case hr => first | (go_simp; done) | (go_simp; rfl)); intro gb215 hg w15 hbox hb; have n0_ := Sd.mk (below_step (by exact blwF HB.out) hb); have n1_ := Sd.mk (hbox); have n2_ := Sd.mk ((by rw [hg]; exact (below_size (by exact blwF HB.out)) : w.heap.size ≤ gb215)); have n3_ := Sd.mk ((by rw [hg]; exact (below_size (by exact blwF HB.out)) : w.heap.size ≤ gb215)); clear HB; have HB := n0_; have BK215 := n1_; have GW215 := n2_; have GE215 := n3_; clear n0_ n1_ n2_ n3_; clear hb hbox hg; have hcz16_0 : w15.cell? ⟨gb215, 0, none⟩ = some (.int .i64 a0_0) := (blk_cell BK215.out 0).trans rfl; have hcz16_1 : w15.cell? ⟨gb215, 1, none⟩ = some (.int .i64 a0_1) := (blk_cell BK215.out 1).trans rfl; have hfz16_0 := blk_frozen BK215.out 0; have hfz16_1 := blk_frozen BK215.out 1))
     go_ret
     exact ⟨by first | rfl | (simp [errW_none, errW_some] <;> rfl) | (simp [*, errW_none, errW_some] <;> rfl), by repeat (first | (with_reducible first | exact HB.out | apply bal | apply pbd | apply bd1 | refine bst ?_ GE215.out) | exact HB.out)⟩
    ·rw [if_neg c14] at H
     have c14b0 : (a0_0 == 4) = false := beq_eq_false_iff_ne.mpr c14
     have c14b1 : (a0_0 != 4) = true := bne_iff_ne.mpr c14
     by_cases c17 : a0_0 = 5
     ·rw [if_pos c17] at H
      have c17b0 : (a0_0 == 5) = true := beq_iff_eq.mpr c17
      have c17b1 : (a0_0 != 5) = false := bne_eq_false_iff_eq.mpr c17
      clear c17
      obtain rfl := Option.some.inj H
      go_enter Tryz.func43, Tryz.ntmps43
      go_wp2_with (first | ((with_reducible refine gate_dst (N := 1) rfl ?_); refine box_event ?hg (N := 1) ?hd (cs := #[.int .i64 a0_0, .int .i64 a0_1]) (t := 25) ?hr ?_; (case hd => rfl); (case hg => rfl); (case hr => first | (go_simp; done) | (go_simp; rfl)); intro gb215 hg w18 hbox hb; have n0_ := Sd.mk (below_step (by exact blwF HB.out) hb); have n1_ := Sd.mk (hbox); have n2_ := Sd.mk ((by rw [hg]; exact (below_size (by exact blwF HB.out)) : w.heap.size ≤ gb215)); have n3_ := Sd.mk ((by rw [hg]; exact (below_size (by exact blwF HB.out)) : w.heap.size ≤ gb215)); clear HB; have HB := n0_; have BK215 := n1_; have GW215 := n2_; have GE215 := n3_; clear n0_ n1_ n2_ n3_; clear hb hbox hg; have hcz19_0 : w18.cell? ⟨gb215, 0, none⟩ = some (.int .i64 a0_0) := (blk_cell BK215.out 0).trans rfl; have hcz19_1 : w18.cell? ⟨gb215, 1, none⟩ = some (.int .i64 a0_1) := (blk_cell BK215.out 1).trans rfl; have hfz19_0 := blk_frozen BK215.out 0; have hfz19_1 := blk_frozen BK215.out 1))
      go_ret
      exact ⟨by first | rfl | (simp [errW_none, errW_some] <;> rfl) | (simp [*, errW_none, errW_some] <;> rfl), by repeat (first | (with_reducible first | exact HB.out | apply bal | apply pbd | apply bd1 | refine bst ?_ GE215.out) | exact HB.out)⟩
     ·rw [if_neg c17] at H
      have c17b0 : (a0_0 == 5) = false := beq_eq_false_iff_ne.mpr c17
      have c17b1 : (a0_0 != 5) = true := bne_iff_ne.mpr c17
      obtain rfl := Option.some.inj H
      go_enter Tryz.func43, Tryz.ntmps43
      go_wp2_with (first | ((with_reducible refine gate_dst (N := 1) rfl ?_); refine box_event ?hg (N := 1) ?hd (cs := #[.int .i64 a0_0, .int .i64 a0_1]) (t := 25) ?hr ?_; (case hd => rfl); (case hg => rfl); (case hr => first | (go_simp; done) | (go_simp; rfl)); intro gb215 hg w20 hbox hb; have n0_ := Sd.mk (below_step (by exact blwF HB.out) hb); have n1_ := Sd.mk (hbox); have n2_ := Sd.mk ((by rw [hg]; exact (below_size (by exact blwF HB.out)) : w.heap.size ≤ gb215)); have n3_ := Sd.mk ((by rw [hg]; exact (below_size (by exact blwF HB.out)) : w.heap.size ≤ gb215)); clear HB; have HB := n0_; have BK215 := n1_; have GW215 := n2_; have GE215 := n3_; clear n0_ n1_ n2_ n3_; clear hb hbox hg; have hcz21_0 : w20.cell? ⟨gb215, 0, none⟩ = some (.int .i64 a0_0) := (blk_cell BK215.out 0).trans rfl; have hcz21_1 : w20.cell? ⟨gb215, 1, none⟩ = some (.int .i64 a0_1) := (blk_cell BK215.out 1).trans rfl; have hfz21_0 := blk_frozen BK215.out 0; have hfz21_1 := blk_frozen BK215.out 1))
      go_ret
      exact ⟨by first | rfl | (simp [errW_none, errW_some] <;> rfl) | (simp [*, errW_none, errW_some] <;> rfl), by repeat (first | (with_reducible first | exact HB.out | apply bal | apply pbd | apply bd1 | refine bst ?_ GE215.out) | exact HB.out)⟩
end Go.Proofs.YtcmiehddjgfjaaaGreatDoor.A
namespace Go.Proofs.YtcmiehddjgfjaaaGreatDoor.A
open Go.RowKit Go.Proofs.YtcmiehddjgfjaaaGreatDoorW.PrintWords Go.Proofs.YtcmiehddjgfjaaaGreatDoorW.PrintLast Go.Proofs.YtcmiehddjgfjaaaGreatDoorW.PrintMore
attribute [local go_sem] max2_int min2_int max_two min_two max_three min_three max_four min_four   -- for this text's walks alone
set_option linter.unusedVariables false
set_option linter.unusedSimpArgs false
def v_Check_1.f (a0_0 : Int) (a0_1 : Int) : Option (Bool) := (v_is.f a0_0 a0_1).bind fun t217 => (some (!t217))
set_option maxHeartbeats 8000000 in
set_option maxRecDepth 100000 in
theorem v_Check_1.calls (a0_0 : Int) (a0_1 : Int) (r : Bool) (w : World) (h : v_Check_1.f a0_0 a0_1 = some r) :
  Calls Tryz.prog 42 #[.agg #[.int .i64 a0_0, .int .i64 a0_1]] w fun e w' => e = .returned (.bool r) ∧ Below w.heap.size w w' := by
 have hu25 := Tryz.underlying25
 have HB := Sd.mk (Below.refl w.heap.size w)
 have H : ((v_is.f a0_0 a0_1).bind fun t217 => (some (!t217))) = some r := h
 clear h
 replace H := Option.bind_eq_some_iff.mp H
 obtain ⟨t217, A20, H⟩ := H
 replace H : (some (!t217)) = some r := H
 have A2 := Sd.mk A20
 clear A20
 obtain rfl := Option.some.inj H
 go_enter Tryz.func42, Tryz.ntmps42
 go_wp2_with (first | ((with_reducible refine gate_dst (N := 1) rfl ?_); refine box_event ?hg (N := 1) ?hd (cs := #[.int .i64 a0_0, .int .i64 a0_1]) (t := 25) ?hr ?_; (case hd => rfl); (case hg => rfl); (case hr => first | (go_simp; done) | (go_simp; rfl)); intro gb216 hg w3 hbox hb; have n0_ := Sd.mk (below_step (by exact blwF HB.out) hb); have n1_ := Sd.mk (hbox); have n2_ := Sd.mk ((by rw [hg]; exact (below_size (by exact blwF HB.out)) : w.heap.size ≤ gb216)); have n3_ := Sd.mk ((by rw [hg]; exact (below_size (by exact blwF HB.out)) : w.heap.size ≤ gb216)); clear HB; have HB := n0_; have BK216 := n1_; have GW216 := n2_; have GE216 := n3_; clear n0_ n1_ n2_ n3_; clear hb hbox hg; have hcz4_0 : w3.cell? ⟨gb216, 0, none⟩ = some (.int .i64 a0_0) := (blk_cell BK216.out 0).trans rfl; have hcz4_1 : w3.cell? ⟨gb216, 1, none⟩ = some (.int .i64 a0_1) := (blk_cell BK216.out 1).trans rfl; have hfz4_0 := blk_frozen BK216.out 0; have hfz4_1 := blk_frozen BK216.out 1) | ((with_reducible refine gate_callee (f := 43) rfl ?_); refine goesL_ (some 4) rfl rfl Tryz.func43 (by kernel_rfl) rfl #[.agg #[.int .i64 a0_0, .int .i64 a0_1]] rfl (by (try simp only [List.map_toArray, List.map_cons, List.map_nil]); first | done | rfl | (simp only [List.length_drop, List.length_take]; rfl)) ?_; (with_reducible refine (v_is.calls a0_0 a0_1 t217 _ A2.out).mono ?_); rintro e w5 ⟨rfl, hb⟩; refine ⟨_, rfl, ?_⟩; have n0_ := Sd.mk (blk_below (g := gb216) (o := .cells #[.int .i64 a0_0, .int .i64 a0_1] 25 (0, 0)) (by exact blkF BK216.out) hb); have n1_ := Sd.mk (below_step (by repeat (first | (with_reducible first | exact HB.out | apply bal | apply pbd | apply bd1 | refine bst ?_ GE216.out) | exact HB.out)) hb); clear BK216; clear HB; have BK216 := n0_; have HB := n1_; clear n0_ n1_; (try clear hb); (try clear hb2); (try clear hk); (try clear hi)))
 go_ret
 exact ⟨by first | rfl | (simp [errW_none, errW_some] <;> rfl) | (simp [*, errW_none, errW_some] <;> rfl), by repeat (first | (with_reducible first | exact HB.out | apply bal | apply pbd | apply bd1 | refine bst ?_ GE216.out) | exact HB.out)⟩
def r8_Is.f (a0_0 : Int) (a0_1 : Int) : Option (Bool) := if a0_0 = 1 then (if a0_1 ≥ (-1000000000000000) then (some (decide (a0_1 ≤ 1000000000000000))) else (some false)) else (if a0_0 ≥ 2 then (if a0_0 ≤ 5 then (some (a0_1 == 0)) else (some false)) else (some false))
set_option maxHeartbeats 8000000 in
set_option maxRecDepth 100000 in
theorem r8_Is.calls (a0_0 : Int) (a0_1 : Int) (r : Bool) (w : World) (h : r8_Is.f a0_0 a0_1 = some r) :
  Calls Tryz.prog 13 #[.agg #[.int .i64 a0_0, .int .i64 a0_1]] w fun e w' => e = .returned (.bool r) ∧ Below w.heap.size w w' := by
 have hu25 := Tryz.underlying25
 have HB := Sd.mk (Below.refl w.heap.size w)
 have H : (if a0_0 = 1 then (if a0_1 ≥ (-1000000000000000) then (some (decide (a0_1 ≤ 1000000000000000))) else (some false)) else (if a0_0 ≥ 2 then (if a0_0 ≤ 5 then (some (a0_1 == 0)) else (some false)) else (some false))) = some r := h
 clear h
 by_cases c2 : a0_0 = 1
 ·rw [if_pos c2] at H
  have c2b0 : (a0_0 == 1) = true := beq_iff_eq.mpr c2
  have c2b1 : (a0_0 != 1) = false := bne_eq_false_iff_eq.mpr c2
  clear c2
  by_cases c3 : a0_1 ≥ (-1000000000000000)
  ·rw [if_pos c3] at H
   have c3b0 : decide ((-1000000000000000) ≤ a0_1) = true := decide_eq_true c3
   clear c3
   obtain rfl := Option.some.inj H
   go_enter Tryz.func13, Tryz.ntmps13
   go_wp2_with (first | ((with_reducible refine gate_dst (N := 1) rfl ?_); refine box_event ?hg (N := 1) ?hd (cs := #[.int .i64 a0_0, .int .i64 a0_1]) (t := 25) ?hr ?_; (case hd => rfl); (case hg => rfl); (case hr => first | (go_simp; done) | (go_simp; rfl)); intro gb218 hg w4 hbox hb; have n0_ := Sd.mk (below_step (by exact blwF HB.out) hb); have n1_ := Sd.mk (hbox); have n2_ := Sd.mk ((by rw [hg]; exact (below_size (by exact blwF HB.out)) : w.heap.size ≤ gb218)); have n3_ := Sd.mk ((by rw [hg]; exact (below_size (by exact blwF HB.out)) : w.heap.size ≤ gb218)); clear HB; have HB := n0_; have BK218 := n1_; have GW218 := n2_; have GE218 := n3_; clear n0_ n1_ n2_ n3_; clear hb hbox hg; have hcz5_0 : w4.cell? ⟨gb218, 0, none⟩ = some (.int .i64 a0_0) := (blk_cell BK218.out 0).trans rfl; have hcz5_1 : w4.cell? ⟨gb218, 1, none⟩ = some (.int .i64 a0_1) := (blk_cell BK218.out 1).trans rfl; have hfz5_0 := blk_frozen BK218.out 0; have hfz5_1 := blk_frozen BK218.out 1))
   go_ret
   exact ⟨by first | rfl | (simp [errW_none, errW_some] <;> rfl) | (simp [*, errW_none, errW_some] <;> rfl), by repeat (first | (with_reducible first | exact HB.out | apply bal | apply pbd | apply bd1 | refine bst ?_ GE218.out) | exact HB.out)⟩
  ·rw [if_neg c3] at H
   have c3b0 : decide ((-1000000000000000) ≤ a0_1) = false := decide_eq_false c3
   clear c3
   obtain rfl := Option.some.inj H
   go_enter Tryz.func13, Tryz.ntmps13
   go_wp2_with (first | ((with_reducible refine gate_dst (N := 1) rfl ?_); refine box_event ?hg (N := 1) ?hd (cs := #[.int .i64 a0_0, .int .i64 a0_1]) (t := 25) ?hr ?_; (case hd => rfl); (case hg => rfl); (case hr => first | (go_simp; done) | (go_simp; rfl)); intro gb218 hg w6 hbox hb; have n0_ := Sd.mk (below_step (by exact blwF HB.out) hb); have n1_ := Sd.mk (hbox); have n2_ := Sd.mk ((by rw [hg]; exact (below_size (by exact blwF HB.out)) : w.heap.size ≤ gb218)); have n3_ := Sd.mk ((by rw [hg]; exact (below_size (by exact blwF HB.out)) : w.heap.size ≤ gb218)); clear HB; have HB := n0_; have BK218 := n1_; have GW218 := n2_; have GE218 := n3_; clear n0_ n1_ n2_ n3_; clear hb hbox hg; have hcz7_0 : w6.cell? ⟨gb218, 0, none⟩ = some (.int .i64 a0_0) := (blk_cell BK218.out 0).trans rfl; have hcz7_1 : w6.cell? ⟨gb218, 1, none⟩ = some (.int .i64 a0_1) := (blk_cell BK218.out 1).trans rfl; have hfz7_0 := blk_frozen BK218.out 0; have hfz7_1 := blk_frozen BK218.out 1))
   go_ret
   exact ⟨by first | rfl | (simp [errW_none, errW_some] <;> rfl) | (simp [*, errW_none, errW_some] <;> rfl), by repeat (first | (with_reducible first | exact HB.out | apply bal | apply pbd | apply bd1 | refine bst ?_ GE218.out) | exact HB.out)⟩
 ·rw [if_neg c2] at H
  have c2b0 : (a0_0 == 1) = false := beq_eq_false_iff_ne.mpr c2
  have c2b1 : (a0_0 != 1) = true := bne_iff_ne.mpr c2
  by_cases c8 : a0_0 ≥ 2
  ·rw [if_pos c8] at H
   have c8b0 : decide (2 ≤ a0_0) = true := decide_eq_true c8
   clear c8
   by_cases c9 : a0_0 ≤ 5
   ·rw [if_pos c9] at H
    have c9b0 : decide (a0_0 ≤ 5) = true := decide_eq_true c9
    clear c9
    obtain rfl := Option.some.inj H
    go_enter Tryz.func13, Tryz.ntmps13
    go_wp2_with (first | ((with_reducible refine gate_dst (N := 1) rfl ?_); refine box_event ?hg (N := 1) ?hd (cs := #[.int .i64 a0_0, .int .i64 a0_1]) (t := 25) ?hr ?_; (case hd => rfl); (case hg => rfl); (case hr => first | (go_simp; done) | (go_simp; rfl)); intro gb218 hg w10 hbox hb; have n0_ := Sd.mk (below_step (by exact blwF HB.out) hb); have n1_ := Sd.mk (hbox); have n2_ := Sd.mk ((by rw [hg]; exact (below_size (by exact blwF HB.out)) : w.heap.size ≤ gb218)); have n3_ := Sd.mk ((by rw [hg]; exact (below_size (by exact blwF HB.out)) : w.heap.size ≤ gb218)); clear HB; have HB := n0_; have BK218 := n1_; have GW218 := n2_; have GE218 := n3_; clear n0_ n1_ n2_ n3_; clear hb hbox hg; have hcz11_0 : w10.cell? ⟨gb218, 0, none⟩ = some (.int .i64 a0_0) := (blk_cell BK218.out 0).trans rfl; have hcz11_1 : w10.cell? ⟨gb218, 1, none⟩ = some (.int .i64 a0_1) := (blk_cell BK218.out 1).trans rfl; have hfz11_0 := blk_frozen BK218.out 0; have hfz11_1 := blk_frozen BK218.out 1))
    go_ret
    exact ⟨by first | rfl | (simp [errW_none, errW_some] <;> rfl) | (simp [*, errW_none, errW_some] <;> rfl), by repeat (first | (with_reducible first | exact HB.out | apply bal | apply pbd | apply bd1 | refine bst ?_ GE218.out) | exact HB.out)⟩
   ·rw [if_neg c9] at H
    have c9b0 : decide (a0_0 ≤ 5) = false := decide_eq_false c9
    clear c9
    obtain rfl := Option.some.inj H
    go_enter Tryz.func13, Tryz.ntmps13
    go_wp2_with (first | ((with_reducible refine gate_dst (N := 1) rfl ?_); refine box_event ?hg (N := 1) ?hd (cs := #[.int .i64 a0_0, .int .i64 a0_1]) (t := 25) ?hr ?_; (case hd => rfl); (case hg => rfl); (case hr => first | (go_simp; done) | (go_simp; rfl)); intro gb218 hg w12 hbox hb; have n0_ := Sd.mk (below_step (by exact blwF HB.out) hb); have n1_ := Sd.mk (hbox); have n2_ := Sd.mk ((by rw [hg]; exact (below_size (by exact blwF HB.out)) : w.heap.size ≤ gb218)); have n3_ := Sd.mk ((by rw [hg]; exact (below_size (by exact blwF HB.out)) : w.heap.size ≤ gb218)); clear HB; have HB := n0_; have BK218 := n1_; have GW218 := n2_; have GE218 := n3_; clear n0_ n1_ n2_ n3_; clear hb hbox hg; have hcz13_0 : w12.cell? ⟨gb218, 0, none⟩ = some (.int .i64 a0_0) := (blk_cell BK218.out 0).trans rfl; have hcz13_1 : w12.cell? ⟨gb218, 1, none⟩ = some (.int .i64 a0_1) := (blk_cell BK218.out 1).trans rfl; have hfz13_0 := blk_frozen BK218.out 0; have hfz13_1 := blk_frozen BK218.out 1))
    go_ret
    exact ⟨by first | rfl | (simp [errW_none, errW_some] <;> rfl) | (simp [*, errW_none, errW_some] <;> rfl), by repeat (first | (with_reducible first | exact HB.out | apply bal | apply pbd | apply bd1 | refine bst ?_ GE218.out) | exact HB.out)⟩
  ·rw [if_neg c8] at H
   have c8b0 : decide (2 ≤ a0_0) = false := decide_eq_false c8
   clear c8
   obtain rfl := Option.some.inj H
   go_enter Tryz.func13, Tryz.ntmps13
   go_wp2_with (first | ((with_reducible refine gate_dst (N := 1) rfl ?_); refine box_event ?hg (N := 1) ?hd (cs := #[.int .i64 a0_0, .int .i64 a0_1]) (t := 25) ?hr ?_; (case hd => rfl); (case hg => rfl); (case hr => first | (go_simp; done) | (go_simp; rfl)); intro gb218 hg w14 hbox hb; have n0_ := Sd.mk (below_step (by exact blwF HB.out) hb); have n1_ := Sd.mk (hbox); have n2_ := Sd.mk ((by rw [hg]; exact (below_size (by exact blwF HB.out)) : w.heap.size ≤ gb218)); have n3_ := Sd.mk ((by rw [hg]; exact (below_size (by exact blwF HB.out)) : w.heap.size ≤ gb218)); clear HB; have HB := n0_; have BK218 := n1_; have GW218 := n2_; have GE218 := n3_; clear n0_ n1_ n2_ n3_; clear hb hbox hg; have hcz15_0 : w14.cell? ⟨gb218, 0, none⟩ = some (.int .i64 a0_0) := (blk_cell BK218.out 0).trans rfl; have hcz15_1 : w14.cell? ⟨gb218, 1, none⟩ = some (.int .i64 a0_1) := (blk_cell BK218.out 1).trans rfl; have hfz15_0 := blk_frozen BK218.out 0; have hfz15_1 := blk_frozen BK218.out 1))
   go_ret
   exact ⟨by first | rfl | (simp [errW_none, errW_some] <;> rfl) | (simp [*, errW_none, errW_some] <;> rfl), by repeat (first | (with_reducible first | exact HB.out | apply bal | apply pbd | apply bd1 | refine bst ?_ GE218.out) | exact HB.out)⟩
def r8_Check.l0 : Nat → List (S25) → Int → Option (Int)
 | 0, _, _ => none
 | k + 1, x0, x3 => if x3 < (x0.length : Int) then (if 0 ≤ x3 then ((r8_Is.f ((rd_T25 x0 x3).f0) ((rd_T25 x0 x3).f1)).bind fun t220 => (if t220 = true then (r8_Check.l0 k x0 (wrap64 (x3 + 1))) else (some 80))) else (none)) else (some 0)
def r8_Check.f (k : Nat) (l0 : List (S25)) : Option (Int) := r8_Check.l0 k l0 0
theorem r8_Check.mono_l : ∀ k, (∀ y0 y1, LeO (r8_Check.l0 k y0 y1) (r8_Check.l0 (k + 1) y0 y1))
 | 0 => fun _ _ r h => by simp [r8_Check.l0] at h
 | k + 1 => by
  have ih0 := r8_Check.mono_l k
  ·intro y0 y1
   unfold r8_Check.l0
   repeat' first
   | (with_reducible exact ih0 _ _)
   | (with_reducible exact LeO.refl _)
   | (with_reducible exact LeO.none _)
   | (with_reducible refine LeO.ite ?_ ?_)
   | (with_reducible refine LeO.bind ?_ (fun _ => ?_))
   | exact ih0 _ _
   | exact LeO.none _
   | refine LeO.ite ?_ ?_
   | refine LeO.bind ?_ (fun _ => ?_)
theorem r8_Check.mono : ∀ a0 k, LeO (r8_Check.f k a0) (r8_Check.f (k + 1) a0) := by
 intro a0 k
 have ih0 := r8_Check.mono_l k
 unfold r8_Check.f
 repeat' first
   | (with_reducible exact ih0 _ _)
   | (with_reducible exact LeO.refl _)
   | (with_reducible exact LeO.none _)
   | (with_reducible refine LeO.ite ?_ ?_)
   | (with_reducible refine LeO.bind ?_ (fun _ => ?_))
   | exact ih0 _ _
   | exact LeO.none _
   | refine LeO.ite ?_ ?_
   | refine LeO.bind ?_ (fun _ => ?_)
set_option maxHeartbeats 8000000 in
set_option maxRecDepth 100000 in
theorem r8_Check.calls (k : Nat) (A0 : Option Addr) (c0 : Nat) (l0 : List (S25)) (r : Int) (w : World) (hr0 : Kd.C k25 w A0 l0.length l0) (hc0 : l0.length ≤ c0) (h : r8_Check.f k l0 = some r) :
  Calls Tryz.prog 18 #[.slice A0 l0.length c0] w fun e w' => e = .returned (.int .i64 r) ∧ Below w.heap.size w w' := by
 have hu25 := Tryz.underlying25
 have HR0 := Sd.mk hr0
 have HC0 := Sd.mk hc0
 clear hr0 hc0
 have HB := Sd.mk (Below.refl w.heap.size w)
 have H : (r8_Check.l0 k l0 0) = some r := h
 clear h
 have H' := Sd.mk H
 clear H
 go_enter Tryz.func18, Tryz.ntmps18
 go_wp2
 go_loopg [3] k (fun kq v3 w' => ∃ (x3_1 : Int), v3 = .int .i64 x3_1 ∧ Sd (r8_Check.l0 kq l0 x3_1 = some r) ∧ Sd (kq ≤ k) ∧ Sd (Below w.heap.size w w'))
 case atStart => exact ⟨(0), (by first | rfl | (simp; done) | (simp [*]; done)), H', ⟨Nat.le_refl _⟩, ⟨by repeat (first | (with_reducible first | exact HB.out | apply bal | apply pbd | apply bd1) | exact HB.out)⟩⟩
 case round =>
  clear H'
  try clear c1
  obtain ⟨x3_1, rfl, HA, HK1, HB⟩ := hrel
  cases gk with
  | zero => exact absurd HA.out (by simp [r8_Check.l0])
  | succ k1 =>
   have H := HA.out
   clear HA
   simp only [r8_Check.l0] at H
   by_cases c2 : x3_1 < (l0.length : Int)
   ·rw [if_pos c2] at H
    have c2b0 : decide (x3_1 < (l0.length : Int)) = true := decide_eq_true c2
    clear c2
    by_cases c3 : 0 ≤ x3_1
    ·rw [if_pos c3] at H
     have c3b0 : decide (0 ≤ x3_1) = true := decide_eq_true c3
     clear c3
     replace H := Option.bind_eq_some_iff.mp H
     obtain ⟨t220, A40, H⟩ := H
     replace H : (if t220 = true then (r8_Check.l0 k1 l0 (wrap64 (x3_1 + 1))) else (some 80)) = some r := H
     have A4 := Sd.mk A40
     clear A40
     by_cases c5 : t220 = true
     ·subst c5
      have H1 : (r8_Check.l0 k1 l0 (wrap64 (x3_1 + 1))) = some r := by rw [if_pos rfl] at H; exact H
      clear H
      have H := H1
      clear H1
      have H' := Sd.mk H
      clear H
      have p219 : 0 ≤ (x3_1 : Int) := of_decide_eq_true (by first | (with_reducible assumption) | assumption)
      have q219 : x3_1 < (l0.length : Int) := of_decide_eq_true (by first | (with_reducible assumption) | assumption)
      obtain ⟨ad219, e219, hx219_0, hx219_1⟩ := at_T25 HR0.out x3_1 p219 q219
      cases e219
      replace hx219_0 := (HB.out.cell (World.block_lt_of_cell? w _ hx219_0)).trans hx219_0
      replace hx219_1 := (HB.out.cell (World.block_lt_of_cell? w _ hx219_1)).trans hx219_1
      replace p219 := eq_true p219
      replace q219 := eq_true q219
      go_wp2_with (first | ((with_reducible refine gate_callee (f := 13) rfl ?_); refine goesL_ (some 14) rfl rfl Tryz.func13 (by kernel_rfl) rfl #[.agg #[.int .i64 ((rd_T25 l0 x3_1).f0), .int .i64 ((rd_T25 l0 x3_1).f1)]] rfl (by (try simp only [List.map_toArray, List.map_cons, List.map_nil]); first | done | rfl | (simp only [List.length_drop, List.length_take]; rfl)) ?_; (with_reducible refine (r8_Is.calls ((rd_T25 l0 x3_1).f0) ((rd_T25 l0 x3_1).f1) true _ A4.out).mono ?_); rintro e w6 ⟨rfl, hb⟩; refine ⟨_, rfl, ?_⟩; have n0_ := Sd.mk (below_step (by exact blwF HB.out) hb); clear HB; have HB := n0_; clear n0_; (try clear hb); (try clear hb2); (try clear hk); (try clear hi)))
      go_roundg k1
      case measure => have := HK1.out; omega
      case rel => exact ⟨(wrap64 (x3_1 + 1)), (by first | rfl | (simp; done) | (simp [*]; done)), H', ⟨by have := HK1.out; omega⟩, ⟨by repeat (first | (with_reducible first | exact HB.out | apply bal | apply pbd | apply bd1) | exact HB.out)⟩⟩
     ·replace c5 := Bool.eq_false_iff.mpr c5
      subst c5
      have H1 : (some 80) = some r := by rw [if_neg (show ¬ (false = true) by decide)] at H; exact H
      clear H
      have H := H1
      clear H1
      obtain rfl := Option.some.inj H
      have p219 : 0 ≤ (x3_1 : Int) := of_decide_eq_true (by first | (with_reducible assumption) | assumption)
      have q219 : x3_1 < (l0.length : Int) := of_decide_eq_true (by first | (with_reducible assumption) | assumption)
      obtain ⟨ad219, e219, hx219_0, hx219_1⟩ := at_T25 HR0.out x3_1 p219 q219
      cases e219
      replace hx219_0 := (HB.out.cell (World.block_lt_of_cell? w _ hx219_0)).trans hx219_0
      replace hx219_1 := (HB.out.cell (World.block_lt_of_cell? w _ hx219_1)).trans hx219_1
      replace p219 := eq_true p219
      replace q219 := eq_true q219
      go_wp2_with (first | ((with_reducible refine gate_callee (f := 13) rfl ?_); refine goesL_ (some 14) rfl rfl Tryz.func13 (by kernel_rfl) rfl #[.agg #[.int .i64 ((rd_T25 l0 x3_1).f0), .int .i64 ((rd_T25 l0 x3_1).f1)]] rfl (by (try simp only [List.map_toArray, List.map_cons, List.map_nil]); first | done | rfl | (simp only [List.length_drop, List.length_take]; rfl)) ?_; (with_reducible refine (r8_Is.calls ((rd_T25 l0 x3_1).f0) ((rd_T25 l0 x3_1).f1) false _ A4.out).mono ?_); rintro e w7 ⟨rfl, hb⟩; refine ⟨_, rfl, ?_⟩; have n0_ := Sd.mk (below_step (by exact blwF HB.out) hb); clear HB; have HB := n0_; clear n0_; (try clear hb); (try clear hb2); (try clear hk); (try clear hi)))
      go_ret
      exact ⟨by first | rfl | (simp [errW_none, errW_some] <;> rfl) | (simp [*, errW_none, errW_some] <;> rfl), by repeat (first | (with_reducible first | exact HB.out | apply bal | apply pbd | apply bd1) | exact HB.out)⟩
    ·rw [if_neg c3] at H
     exact absurd H (by simp)
   ·rw [if_neg c2] at H
    have c2b0 : decide (x3_1 < (l0.length : Int)) = false := decide_eq_false c2
    clear c2
    obtain rfl := Option.some.inj H
    go_wp2
    go_ret
    exact ⟨by first | rfl | (simp [errW_none, errW_some] <;> rfl) | (simp [*, errW_none, errW_some] <;> rfl), by repeat (first | (with_reducible first | exact HB.out | apply bal | apply pbd | apply bd1) | exact HB.out)⟩
def r8_True.f (a0_0 : Int) (a0_1 : Int) : Option (Bool) := if a0_0 = 1 then (if a0_1 = 0 then (if a0_0 = 3 then (some true) else (if a0_0 = 4 then (some true) else (some (a0_0 == 5)))) else (some true)) else (if a0_0 = 3 then (some true) else (if a0_0 = 4 then (some true) else (some (a0_0 == 5))))
set_option maxHeartbeats 8000000 in
set_option maxRecDepth 100000 in
theorem r8_True.calls (a0_0 : Int) (a0_1 : Int) (r : Bool) (w : World) (h : r8_True.f a0_0 a0_1 = some r) :
  Calls Tryz.prog 15 #[.agg #[.int .i64 a0_0, .int .i64 a0_1]] w fun e w' => e = .returned (.bool r) ∧ Below w.heap.size w w' := by
 have hu25 := Tryz.underlying25
 have HB := Sd.mk (Below.refl w.heap.size w)
 have H : (if a0_0 = 1 then (if a0_1 = 0 then (if a0_0 = 3 then (some true) else (if a0_0 = 4 then (some true) else (some (a0_0 == 5)))) else (some true)) else (if a0_0 = 3 then (some true) else (if a0_0 = 4 then (some true) else (some (a0_0 == 5))))) = some r := h
 clear h
 by_cases c2 : a0_0 = 1
 ·rw [if_pos c2] at H
  have c2b0 : (a0_0 == 1) = true := beq_iff_eq.mpr c2
  have c2b1 : (a0_0 != 1) = false := bne_eq_false_iff_eq.mpr c2
  clear c2
  by_cases c3 : a0_1 = 0
  ·rw [if_pos c3] at H
   have c3b0 : (a0_1 == 0) = true := beq_iff_eq.mpr c3
   have c3b1 : (a0_1 != 0) = false := bne_eq_false_iff_eq.mpr c3
   clear c3
   by_cases c4 : a0_0 = 3
   ·rw [if_pos c4] at H
    have c4b0 : (a0_0 == 3) = true := beq_iff_eq.mpr c4
    have c4b1 : (a0_0 != 3) = false := bne_eq_false_iff_eq.mpr c4
    clear c4
    obtain rfl := Option.some.inj H
    go_enter Tryz.func15, Tryz.ntmps15
    go_wp2_with (first | ((with_reducible refine gate_dst (N := 1) rfl ?_); refine box_event ?hg (N := 1) ?hd (cs := #[.int .i64 a0_0, .int .i64 a0_1]) (t := 25) ?hr ?_; (case hd => rfl); (case hg => rfl); (case hr => first | (go_simp; done) | (go_simp; rfl)); intro gb221 hg w5 hbox hb; have n0_ := Sd.mk (below_step (by exact blwF HB.out) hb); have n1_ := Sd.mk (hbox); have n2_ := Sd.mk ((by rw [hg]; exact (below_size (by exact blwF HB.out)) : w.heap.size ≤ gb221)); have n3_ := Sd.mk ((by rw [hg]; exact (below_size (by exact blwF HB.out)) : w.heap.size ≤ gb221)); clear HB; have HB := n0_; have BK221 := n1_; have GW221 := n2_; have GE221 := n3_; clear n0_ n1_ n2_ n3_; clear hb hbox hg; have hcz6_0 : w5.cell? ⟨gb221, 0, none⟩ = some (.int .i64 a0_0) := (blk_cell BK221.out 0).trans rfl; have hcz6_1 : w5.cell? ⟨gb221, 1, none⟩ = some (.int .i64 a0_1) := (blk_cell BK221.out 1).trans rfl; have hfz6_0 := blk_frozen BK221.out 0; have hfz6_1 := blk_frozen BK221.out 1))
    go_ret
    exact ⟨by first | rfl | (simp [errW_none, errW_some] <;> rfl) | (simp [*, errW_none, errW_some] <;> rfl), by repeat (first | (with_reducible first | exact HB.out | apply bal | apply pbd | apply bd1 | refine bst ?_ GE221.out) | exact HB.out)⟩
   ·rw [if_neg c4] at H
    have c4b0 : (a0_0 == 3) = false := beq_eq_false_iff_ne.mpr c4
    have c4b1 : (a0_0 != 3) = true := bne_iff_ne.mpr c4
    by_cases c7 : a0_0 = 4
    ·rw [if_pos c7] at H
     have c7b0 : (a0_0 == 4) = true := beq_iff_eq.mpr c7
     have c7b1 : (a0_0 != 4) = false := bne_eq_false_iff_eq.mpr c7
     clear c7
     obtain rfl := Option.some.inj H
     go_enter Tryz.func15, Tryz.ntmps15
     go_wp2_with (first | ((with_reducible refine gate_dst (N := 1) rfl ?_); refine box_event ?hg (N := 1) ?hd (cs := #[.int .i64 a0_0, .int .i64 a0_1]) (t := 25) ?hr ?_; (case hd => rfl); (case hg => rfl); (case hr => first | (go_simp; done) | (go_simp; rfl)); intro gb221 hg w8 hbox hb; have n0_ := Sd.mk (below_step (by exact blwF HB.out) hb); have n1_ := Sd.mk (hbox); have n2_ := Sd.mk ((by rw [hg]; exact (below_size (by exact blwF HB.out)) : w.heap.size ≤ gb221)); have n3_ := Sd.mk ((by rw [hg]; exact (below_size (by exact blwF HB.out)) : w.heap.size ≤ gb221)); clear HB; have HB := n0_; have BK221 := n1_; have GW221 := n2_; have GE221 := n3_; clear n0_ n1_ n2_ n3_; clear hb hbox hg; have hcz9_0 : w8.cell? ⟨gb221, 0, none⟩ = some (.int .i64 a0_0) := (blk_cell BK221.out 0).trans rfl; have hcz9_1 : w8.cell? ⟨gb221, 1, none⟩ = some (.int .i64 a0_1) := (blk_cell BK221.out 1).trans rfl; have hfz9_0 := blk_frozen BK221.out 0; have hfz9_1 := blk_frozen BK221.out 1))
     go_ret
     exact ⟨by first | rfl | (simp [errW_none, errW_some] <;> rfl) | (simp [*, errW_none, errW_some] <;> rfl), by repeat (first | (with_reducible first | exact HB.out | apply bal | apply pbd | apply bd1 | refine bst ?_ GE221.out) | exact HB.out)⟩
    ·rw [if_neg c7] at H
     have c7b0 : (a0_0 == 4) = false := beq_eq_false_iff_ne.mpr c7
     have c7b1 : (a0_0 != 4) = true := bne_iff_ne.mpr c7
     obtain rfl := Option.some.inj H
     go_enter Tryz.func15, Tryz.ntmps15
     go_wp2_with (first | ((with_reducible refine gate_dst (N := 1) rfl ?_); refine box_event ?hg (N := 1) ?hd (cs := #[.int .i64 a0_0, .int .i64 a0_1]) (t := 25) ?hr ?_; (case hd => rfl); (case hg => rfl); (case hr => first | (go_simp; done) | (go_simp; rfl)); intro gb221 hg w10 hbox hb; have n0_ := Sd.mk (below_step (by exact blwF HB.out) hb); have n1_ := Sd.mk (hbox); have n2_ := Sd.mk ((by rw [hg]; exact (below_size (by exact blwF HB.out)) : w.heap.size ≤ gb221)); have n3_ := Sd.mk ((by rw [hg]; exact (below_size (by exact blwF HB.out)) : w.heap.size ≤ gb221)); clear HB; have HB := n0_; have BK221 := n1_; have GW221 := n2_; have GE221 := n3_; clear n0_ n1_ n2_ n3_; clear hb hbox hg; have hcz11_0 : w10.cell? ⟨gb221, 0, none⟩ = some (.int .i64 a0_0) := (blk_cell BK221.out 0).trans rfl; have hcz11_1 : w10.cell? ⟨gb221, 1, none⟩ = some (.int .i64 a0_1) := (blk_cell BK221.out 1).trans rfl; have hfz11_0 := blk_frozen BK221.out 0; have hfz11_1 := blk_frozen BK221.out 1))
     go_ret
     exact ⟨by first | rfl | (simp [errW_none, errW_some] <;> rfl) | (simp [*, errW_none, errW_some] <;> rfl), by repeat (first | (with_reducible first | exact HB.out | apply bal | apply pbd | apply bd1 | refine bst ?_ GE221.out) | exact HB.out)⟩
  ·rw [if_neg c3] at H
   have c3b0 : (a0_1 == 0) = false := beq_eq_false_iff_ne.mpr c3
   have c3b1 : (a0_1 != 0) = true := bne_iff_ne.mpr c3
   obtain rfl := Option.some.inj H
   go_enter Tryz.func15, Tryz.ntmps15
   go_wp2_with (first | ((with_reducible refine gate_dst (N := 1) rfl ?_); refine box_event ?hg (N := 1) ?hd (cs := #[.int .i64 a0_0, .int .i64 a0_1]) (t := 25) ?hr ?_; (case hd => rfl); (case hg => rfl); (case hr => first | (go_simp; done) | (go_simp; rfl)); intro gb221 hg w12 hbox hb; have n0_ := Sd.mk (below_step (by exact blwF HB.out) hb); have n1_ := Sd.mk (hbox); have n2_ := Sd.mk ((by rw [hg]; exact (below_size (by exact blwF HB.out)) : w.heap.size ≤ gb221)); have n3_ := Sd.mk ((by rw [hg]; exact (below_size (by exact blwF HB.out)) : w.heap.size ≤ gb221)); clear HB; have HB := n0_; have BK221 := n1_; have GW221 := n2_; have GE221 := n3_; clear n0_ n1_ n2_ n3_; clear hb hbox hg; have hcz13_0 : w12.cell? ⟨gb221, 0, none⟩ = some (.int .i64 a0_0) := (blk_cell BK221.out 0).trans rfl; have hcz13_1 : w12.cell? ⟨gb221, 1, none⟩ = some (.int .i64 a0_1) := (blk_cell BK221.out 1).trans rfl; have hfz13_0 := blk_frozen BK221.out 0; have hfz13_1 := blk_frozen BK221.out 1))
   go_ret
   exact ⟨by first | rfl | (simp [errW_none, errW_some] <;> rfl) | (simp [*, errW_none, errW_some] <;> rfl), by repeat (first | (with_reducible first | exact HB.out | apply bal | apply pbd | apply bd1 | refine bst ?_ GE221.out) | exact HB.out)⟩
 ·rw [if_neg c2] at H
  have c2b0 : (a0_0 == 1) = false := beq_eq_false_iff_ne.mpr c2
  have c2b1 : (a0_0 != 1) = true := bne_iff_ne.mpr c2
  by_cases c14 : a0_0 = 3
  ·rw [if_pos c14] at H
   have c14b0 : (a0_0 == 3) = true := beq_iff_eq.mpr c14
   have c14b1 : (a0_0 != 3) = false := bne_eq_false_iff_eq.mpr c14
   clear c14
   obtain rfl := Option.some.inj H
   go_enter Tryz.func15, Tryz.ntmps15
   go_wp2_with (first | ((with_reducible refine gate_dst (N := 1) rfl ?_); refine box_event ?hg (N := 1) ?hd (cs := #[.int .i64 a0_0, .int .i64 a0_1]) (t := 25) ?hr ?_; (case hd => rfl); (case hg => rfl); (case hr => first | (go_simp; done) | (go_simp; rfl)); intro gb221 hg w15 hbox hb; have n0_ := Sd.mk (below_step (by exact blwF HB.out) hb); have n1_ := Sd.mk (hbox); have n2_ := Sd.mk ((by rw [hg]; exact (below_size (by exact blwF HB.out)) : w.heap.size ≤ gb221)); have n3_ := Sd.mk ((by rw [hg]; exact (below_size (by exact blwF HB.out)) : w.heap.size ≤ gb221)); clear HB; have HB := n0_; have BK221 := n1_; have GW221 := n2_; have GE221 := n3_; clear n0_ n1_ n2_ n3_; clear hb hbox hg; have hcz16_0 : w15.cell? ⟨gb221, 0, none⟩ = some (.int .i64 a0_0) := (blk_cell BK221.out 0).trans rfl; have hcz16_1 : w15.cell? ⟨gb221, 1, none⟩ = some (.int .i64 a0_1) := (blk_cell BK221.out 1).trans rfl; have hfz16_0 := blk_frozen BK221.out 0; have hfz16_1 := blk_frozen BK221.out 1))
   go_ret
   exact ⟨by first | rfl | (simp [errW_none, errW_some] <;> rfl) | (simp [*, errW_none, errW_some] <;> rfl), by repeat (first | (with_reducible first | exact HB.out | apply bal | apply pbd | apply bd1 | refine bst ?_ GE221.out) | exact HB.out)⟩
  ·rw [if_neg c14] at H
   have c14b0 : (a0_0 == 3) = false := beq_eq_false_iff_ne.mpr c14
   have c14b1 : (a0_0 != 3) = true := bne_iff_ne.mpr c14
   by_cases c17 : a0_0 = 4
   ·rw [if_pos c17] at H
    have c17b0 : (a0_0 == 4) = true := beq_iff_eq.mpr c17
    have c17b1 : (a0_0 != 4) = false := bne_eq_false_iff_eq.mpr c17
    clear c17
    obtain rfl := Option.some.inj H
    go_enter Tryz.func15, Tryz.ntmps15
    go_wp2_with (first | ((with_reducible refine gate_dst (N := 1) rfl ?_); refine box_event ?hg (N := 1) ?hd (cs := #[.int .i64 a0_0, .int .i64 a0_1]) (t := 25) ?hr ?_; (case hd => rfl); (case hg => rfl); (case hr => first | (go_simp; done) | (go_simp; rfl)); intro gb221 hg w18 hbox hb; have n0_ := Sd.mk (below_step (by exact blwF HB.out) hb); have n1_ := Sd.mk (hbox); have n2_ := Sd.mk ((by rw [hg]; exact (below_size (by exact blwF HB.out)) : w.heap.size ≤ gb221)); have n3_ := Sd.mk ((by rw [hg]; exact (below_size (by exact blwF HB.out)) : w.heap.size ≤ gb221)); clear HB; have HB := n0_; have BK221 := n1_; have GW221 := n2_; have GE221 := n3_; clear n0_ n1_ n2_ n3_; clear hb hbox hg; have hcz19_0 : w18.cell? ⟨gb221, 0, none⟩ = some (.int .i64 a0_0) := (blk_cell BK221.out 0).trans rfl; have hcz19_1 : w18.cell? ⟨gb221, 1, none⟩ = some (.int .i64 a0_1) := (blk_cell BK221.out 1).trans rfl; have hfz19_0 := blk_frozen BK221.out 0; have hfz19_1 := blk_frozen BK221.out 1))
    go_ret
    exact ⟨by first | rfl | (simp [errW_none, errW_some] <;> rfl) | (simp [*, errW_none, errW_some] <;> rfl), by repeat (first | (with_reducible first | exact HB.out | apply bal | apply pbd | apply bd1 | refine bst ?_ GE221.out) | exact HB.out)⟩
   ·rw [if_neg c17] at H
    have c17b0 : (a0_0 == 4) = false := beq_eq_false_iff_ne.mpr c17
    have c17b1 : (a0_0 != 4) = true := bne_iff_ne.mpr c17
    obtain rfl := Option.some.inj H
    go_enter Tryz.func15, Tryz.ntmps15
    go_wp2_with (first | ((with_reducible refine gate_dst (N := 1) rfl ?_); refine box_event ?hg (N := 1) ?hd (cs := #[.int .i64 a0_0, .int .i64 a0_1]) (t := 25) ?hr ?_; (case hd => rfl); (case hg => rfl); (case hr => first | (go_simp; done) | (go_simp; rfl)); intro gb221 hg w20 hbox hb; have n0_ := Sd.mk (below_step (by exact blwF HB.out) hb); have n1_ := Sd.mk (hbox); have n2_ := Sd.mk ((by rw [hg]; exact (below_size (by exact blwF HB.out)) : w.heap.size ≤ gb221)); have n3_ := Sd.mk ((by rw [hg]; exact (below_size (by exact blwF HB.out)) : w.heap.size ≤ gb221)); clear HB; have HB := n0_; have BK221 := n1_; have GW221 := n2_; have GE221 := n3_; clear n0_ n1_ n2_ n3_; clear hb hbox hg; have hcz21_0 : w20.cell? ⟨gb221, 0, none⟩ = some (.int .i64 a0_0) := (blk_cell BK221.out 0).trans rfl; have hcz21_1 : w20.cell? ⟨gb221, 1, none⟩ = some (.int .i64 a0_1) := (blk_cell BK221.out 1).trans rfl; have hfz21_0 := blk_frozen BK221.out 0; have hfz21_1 := blk_frozen BK221.out 1))
    go_ret
    exact ⟨by first | rfl | (simp [errW_none, errW_some] <;> rfl) | (simp [*, errW_none, errW_some] <;> rfl), by repeat (first | (with_reducible first | exact HB.out | apply bal | apply pbd | apply bd1 | refine bst ?_ GE221.out) | exact HB.out)⟩
end Go.Proofs.YtcmiehddjgfjaaaGreatDoor.A
namespace Go.Proofs.YtcmiehddjgfjaaaGreatDoor.A
open Go.RowKit Go.Proofs.YtcmiehddjgfjaaaGreatDoorW.PrintWords Go.Proofs.YtcmiehddjgfjaaaGreatDoorW.PrintLast Go.Proofs.YtcmiehddjgfjaaaGreatDoorW.PrintMore
set_option linter.unusedVariables false
set_option linter.unusedSimpArgs false
abbrev V := Int × Int
/-- May it be a value? -/
def isV (a : V) : Prop := (a.1 = 1 ∧ -1000000000000000 ≤ a.2 ∧ a.2 ≤ 1000000000000000) ∨ ((a.1 = 2 ∨ a.1 = 3 ∨ a.1 = 4 ∨ a.1 = 5) ∧ a.2 = 0)
instance (a : V) : Decidable (isV a) := by unfold isV; exact inferInstance
def vNum (n : Int) : V := if n > 1000000000000000 then (4, 0) else if n < -1000000000000000 then (5, 0) else (1, n)
def vRank (a : V) : Int := if a.1 = 4 then 1000000000000001 else if a.1 = 5 then -1000000000000001 else a.2
def vSign (n : Int) : Int := if n < 0 then -1 else if n = 0 then 0 else 1
def vInf (s : Int) : V := if s = 0 then (3, 0) else if s < 0 then (5, 0) else (4, 0)
def vTruth (b : Bool) : V := if b = true then (1, 1000) else (1, 0)
def vTrue (a : V) : Bool := if a.1 = 2 then false else if a.1 = 0 then false else if a.1 = 1 then a.2 != 0 else true
def vAdd (a b : V) : V := if a.1 = 1 then (if b.1 = 1 then vNum (a.2 + b.2) else b) else if b.1 = 1 then a else if a = b then a else (3, 0)
def vMul (a b : V) : V := if a.1 = 1 ∧ b.1 = 1 then vNum (vSign (vRank a) * vSign (vRank b) * ((a.2 * vSign a.2) * (b.2 * vSign b.2) / 1000)) else vInf (vSign (vRank a) * vSign (vRank b))
def vDiv (a b : V) : V := if b.1 = 1 then (if a.1 = 1 then (if b.2 = 0 then vInf a.2 else vNum ((a.2 * 1000).tdiv b.2)) else if b.2 < 0 then vNum (-vRank a) else a) else if a.1 = 1 then vNum 0 else (3, 0)
theorem isV_num {n : Int} : isV (vNum n) := by
  unfold vNum isV
  split
  · exact .inr ⟨.inr (.inr (.inl rfl)), rfl⟩
  · split
    · exact .inr ⟨.inr (.inr (.inr rfl)), rfl⟩
    · exact .inl ⟨rfl, by simp; omega, by simp; omega⟩
theorem vSign_range (n : Int) : vSign n = -1 ∨ vSign n = 0 ∨ vSign n = 1 := by
  unfold vSign
  split
  · simp
  · split <;> simp
theorem num_is (n : Int) : v_Num.f n = some (vNum n) := by
  unfold v_Num.f vNum v_Plus.f v_Minus.f
  split
  · rfl
  · split <;> rfl
theorem truth_is (b : Bool) : v_Truth.f b = some (vTruth b) := by
  unfold v_Truth.f vTruth
  cases b <;> rfl
theorem true_is (a : V) : v_True.f a.1 a.2 = some (vTrue a) := by
  unfold v_True.f vTrue
  split
  · rfl
  · split
    · rfl
    · split <;> rfl
theorem rank_is (a : V) : v_rank.f a.1 a.2 = some (vRank a) := by
  unfold v_rank.f vRank
  split
  · rfl
  · split <;> rfl
theorem sign_mnmx (n : Int) : mn (mx n (-1)) 1 = vSign n := by
  unfold mn mx vSign
  split <;> split <;> (try split) <;> (try split) <;> omega
theorem sign_is (a : V) : v_sign.f a.1 a.2 = some (vSign (vRank a)) := by
  unfold v_sign.f
  rw [rank_is]
  simp only [Option.bind_some, sign_mnmx]
theorem back_is (n : Int) : v_back.f n = some (vNum n) := by
  unfold v_back.f
  rw [num_is]; rfl
theorem infinite_is (s : Int) : v_infinite.f s = some (vInf s) := by
  unfold v_infinite.f vInf
  by_cases h : s = 0
  · rw [if_pos h, if_pos h]; rfl
  · rw [if_neg h, if_neg h, back_is]
    simp only [Option.bind_some, sign_mnmx]
    by_cases h2 : s < 0
    · rw [if_pos h2]; simp [vSign, h2, vNum]
    · rw [if_neg h2]; simp [vSign, h2, h, vNum]
theorem wrap_id {n : Int} (h0 : -9223372036854775808 ≤ n) (h1 : n ≤ 9223372036854775807) : wrap64 n = n := by unfold wrap64; omega
theorem isV_n {a : V} (h : isV a) : -1000000000000000 ≤ a.2 ∧ a.2 ≤ 1000000000000000 := by
  rcases h with ⟨_, h1, h2⟩ | ⟨_, h⟩
  · exact ⟨h1, h2⟩
  · omega
theorem isV_rank {a : V} (h : isV a) : -1000000000000001 ≤ vRank a ∧ vRank a ≤ 1000000000000001 := by
  have := isV_n h
  unfold vRank
  split
  · omega
  · split <;> omega
theorem rank_num {a : V} (h : a.1 = 1) : vRank a = a.2 := by
  unfold vRank
  rw [if_neg (by omega), if_neg (by omega)]
theorem add_is {a b : V} (ha : isV a) (hb : isV b) : v_add.f 3 a.1 a.2 b.1 b.2 = some (vAdd a b) := by
  have na := isV_n ha
  have nb := isV_n hb
  have ew : wrap64 (a.2 + b.2) = a.2 + b.2 := wrap_id (by omega) (by omega)
  unfold v_add.f v_finite.f vAdd
  simp only [Option.bind_some, v_add.j0, v_add.j1, v_finite.f, ew, num_is, v_NaN.f]
  by_cases h1 : a.1 = 1
  · by_cases h2 : b.1 = 1
    · simp [h1, h2]
    · simp [h1, h2]
  · by_cases h2 : b.1 = 1
    · simp [h1, h2]
    · by_cases h3 : a = b
      · subst h3; simp [h1]
      · have : ¬ (a.1 = b.1 ∧ a.2 = b.2) := fun h => h3 (Prod.ext h.1 h.2)
        by_cases h4 : a.1 = b.1
        · have h5 : ¬ a.2 = b.2 := fun h => this ⟨h4, h⟩
          simp [h2, h3, h4, h5]
        · simp [h1, h2, h3, h4]
theorem abs_sign (n : Int) : 0 ≤ n * vSign n ∧ (n * vSign n = n ∨ n * vSign n = -n) := by
  unfold vSign
  split
  · omega
  · split <;> omega
theorem mul128 (x y : Int) (hx0 : 0 ≤ x) (hx : x ≤ 1000000000000000) (hy0 : 0 ≤ y) (hy : y ≤ 1000000000000000) : bits_Mul64.f x y = some (x * y / 18446744073709551616, x * y % 18446744073709551616) := by
  unfold bits_Mul64.f
  obtain ⟨xn, rfl⟩ := Int.eq_ofNat_of_zero_le hx0
  obtain ⟨yn, rfl⟩ := Int.eq_ofNat_of_zero_le hy0
  have ax : Go.bits .and .u64 (xn : Int) 4294967295 = ((xn % 4294967296 : Nat) : Int) := by
    rw [show (4294967295 : Int) = ((4294967295 : Nat) : Int) from rfl, u64_and_nat xn 4294967295 (by omega) (by omega), Nat.and_two_pow_sub_one_eq_mod xn 32]
  have ay : Go.bits .and .u64 (yn : Int) 4294967295 = ((yn % 4294967296 : Nat) : Int) := by
    rw [show (4294967295 : Int) = ((4294967295 : Nat) : Int) from rfl, u64_and_nat yn 4294967295 (by omega) (by omega), Nat.and_two_pow_sub_one_eq_mod yn 32]
  rw [ax, ay]
  -- digits
  obtain ⟨x1, hx1⟩ : ∃ q : Nat, q = xn / 4294967296 := ⟨_, rfl⟩
  obtain ⟨x0, hx0'⟩ : ∃ q : Nat, q = xn % 4294967296 := ⟨_, rfl⟩
  obtain ⟨y1, hy1⟩ : ∃ q : Nat, q = yn / 4294967296 := ⟨_, rfl⟩
  obtain ⟨y0, hy0'⟩ : ∃ q : Nat, q = yn % 4294967296 := ⟨_, rfl⟩
  have ex : (xn : Int) / 4294967296 = (x1 : Int) := by rw [hx1]; omega
  have ey : (yn : Int) / 4294967296 = (y1 : Int) := by rw [hy1]; omega
  rw [ex, ey, ← hx0', ← hy0']
  have bx1 : x1 ≤ 232830 := by omega
  have by1 : y1 ≤ 232830 := by omega
  have bx0 : x0 < 4294967296 := by omega
  have by0 : y0 < 4294967296 := by omega
  have exn : xn = x1 * 4294967296 + x0 := by omega
  have eyn : yn = y1 * 4294967296 + y0 := by omega
  -- partial products
  obtain ⟨p, hp⟩ : ∃ p : Nat, p = x0 * y0 := ⟨_, rfl⟩
  obtain ⟨q, hq⟩ : ∃ p : Nat, p = x1 * y0 := ⟨_, rfl⟩
  obtain ⟨r, hr⟩ : ∃ p : Nat, p = x0 * y1 := ⟨_, rfl⟩
  obtain ⟨s, hs⟩ : ∃ p : Nat, p = x1 * y1 := ⟨_, rfl⟩
  have bp : p ≤ 4294967295 * 4294967295 := by rw [hp]; exact Nat.mul_le_mul (by omega) (by omega)
  have bq : q ≤ 232830 * 4294967295 := by rw [hq]; exact Nat.mul_le_mul (by omega) (by omega)
  have br : r ≤ 4294967295 * 232830 := by rw [hr]; exact Nat.mul_le_mul (by omega) (by omega)
  have bs : s ≤ 232830 * 232830 := by rw [hs]; exact Nat.mul_le_mul (by omega) (by omega)
  have ep : ((x0 : Nat) : Int) * (y0 : Int) = (p : Int) := by rw [hp, Int.natCast_mul]
  have eq' : ((x1 : Nat) : Int) * (y0 : Int) = (q : Int) := by rw [hq, Int.natCast_mul]
  have er : ((x0 : Nat) : Int) * (y1 : Int) = (r : Int) := by rw [hr, Int.natCast_mul]
  have es : ((x1 : Nat) : Int) * (y1 : Int) = (s : Int) := by rw [hs, Int.natCast_mul]
  have exy : (xn : Int) * (yn : Int) = (s : Int) * 18446744073709551616 + ((q : Int) + r) * 4294967296 + p := by
    rw [exn, eyn, ← ep, ← eq', ← er, ← es]
    simp only [Int.natCast_add, Int.natCast_mul]
    rw [show ((4294967296 : Nat) : Int) = 4294967296 from rfl]
    simp only [Int.add_mul, Int.mul_add]
    have m1 : ((x1 : Int) * 4294967296) * ((y1 : Int) * 4294967296) = (x1 : Int) * y1 * 18446744073709551616 := by
      rw [Int.mul_assoc, ← Int.mul_assoc 4294967296, Int.mul_comm 4294967296, Int.mul_assoc, ← Int.mul_assoc (x1 : Int)]
      rfl
    have m2 : ((x1 : Int) * 4294967296) * (y0 : Int) = (x1 : Int) * y0 * 4294967296 := by rw [Int.mul_assoc, Int.mul_comm 4294967296, ← Int.mul_assoc]
    have m3 : (x0 : Int) * ((y1 : Int) * 4294967296) = (x0 : Int) * y1 * 4294967296 := by rw [← Int.mul_assoc]
    rw [m1, m2, m3]; omega
  rw [exy, ep, eq', er, es]
  clear exy ep eq' er es hp hq hr hs
  simp only [IntKind.wrap_u64]
  -- t = q + p / 2^32
  have w1 : (s : Int) % 18446744073709551616 = s := by omega
  have w2 : (q : Int) % 18446744073709551616 = q := by omega
  have w3 : (p : Int) % 18446744073709551616 = p := by omega
  have w4 : (r : Int) % 18446744073709551616 = r := by omega
  rw [w1, w2, w3, w4]
  obtain ⟨t, ht⟩ : ∃ t : Nat, (t : Int) = (q : Int) + (p : Int) / 4294967296 := ⟨q + p / 4294967296, by omega⟩
  rw [← ht]
  have bt : t < 1000000000000000000 := by omega
  have w5 : (t : Int) % 18446744073709551616 = t := by omega
  rw [w5]
  have at' : Go.bits .and .u64 (t : Int) 4294967295 = ((t % 4294967296 : Nat) : Int) := by
    rw [show (4294967295 : Int) = ((4294967295 : Nat) : Int) from rfl, u64_and_nat t 4294967295 (by omega) (by omega), Nat.and_two_pow_sub_one_eq_mod t 32]
  rw [at']
  congr 2 <;> omega
theorem mul_is {a b : V} (ha : isV a) (hb : isV b) : v_mul.f 1 a.1 a.2 b.1 b.2 = some (vMul a b) := by
  have na := isV_n ha
  have nb := isV_n hb
  have sa := vSign_range (vRank a)
  have sb := vSign_range (vRank b)
  have ew : wrap64 (vSign (vRank a) * vSign (vRank b)) = vSign (vRank a) * vSign (vRank b) := by
    rcases sa with sa | sa | sa <;> rcases sb with sb | sb | sb <;> rw [sa, sb] <;> exact wrap_id (by omega) (by omega)
  unfold v_mul.f v_finite.f vMul
  rw [sign_is, sign_is]
  simp only [Option.bind_some, v_mul.j0, ew, infinite_is, sign_is]
  by_cases h1 : a.1 = 1
  · by_cases h2 : b.1 = 1
    · have h12 : a.1 = 1 ∧ b.1 = 1 := ⟨h1, h2⟩
      rw [if_pos h12, if_pos (by simp [h1]), if_neg (by simp [h2])]
      rw [rank_num h1, rank_num h2] at *
      obtain ⟨xa, ya⟩ := abs_sign a.2
      obtain ⟨xb, yb⟩ := abs_sign b.2
      obtain ⟨x, hx⟩ : ∃ x, a.2 * vSign a.2 = x := ⟨_, rfl⟩
      obtain ⟨y, hy⟩ : ∃ y, b.2 * vSign b.2 = y := ⟨_, rfl⟩
      rw [hx] at xa ya ⊢
      rw [hy] at xb yb ⊢
      have bx : x ≤ 1000000000000000 := by omega
      have by' : y ≤ 1000000000000000 := by omega
      have wx : IntKind.u64.wrap (wrap64 x) = x := by rw [wrap_id (by omega) (by omega), IntKind.wrap_u64]; omega
      have wy : IntKind.u64.wrap (wrap64 y) = y := by rw [wrap_id (by omega) (by omega), IntKind.wrap_u64]; omega
      rw [wx, wy, mul128 x y xa bx xb by']
      simp only [Option.bind_some]
      have hxy0 : 0 ≤ x * y := Int.mul_nonneg xa xb
      have hz : vSign a.2 * vSign b.2 = 0 → x * y = 0 := by
        intro h
        rcases Int.mul_eq_zero.1 h with h | h
        · rw [← hx, h, Int.mul_zero, Int.zero_mul]
        · rw [← hy, h, Int.mul_zero, Int.mul_zero]
      obtain ⟨p, hp⟩ : ∃ p, x * y = p := ⟨_, rfl⟩
      rw [hp] at hxy0 hz ⊢
      have key : 1000000000000000 < p / 1000 → vInf (vSign a.2 * vSign b.2) = vNum (vSign a.2 * vSign b.2 * (p / 1000)) := by
        intro hq
        have hs : vSign a.2 * vSign b.2 = -1 ∨ vSign a.2 * vSign b.2 = 1 := by
          have : vSign a.2 * vSign b.2 ≠ 0 := fun h => by have := hz h; omega
          rcases sa with sa | sa | sa <;> rcases sb with sb | sb | sb <;> simp [sa, sb] at this ⊢
        rcases hs with hs | hs
        · rw [hs]; unfold vInf vNum
          rw [if_neg (by decide), if_pos (by decide), if_neg (by omega), if_pos (by omega)]
        · rw [hs]; unfold vInf vNum
          rw [if_neg (by decide), if_neg (by decide), if_pos (by omega)]
      by_cases hh : p / 18446744073709551616 ≥ 1000
      · rw [if_pos hh, key (by omega)]
      · rw [if_neg hh]
        have hd : bits_Div64.f (p / 18446744073709551616) (p % 18446744073709551616) 1000 = some (p / 1000, p % 1000) := by
          unfold bits_Div64.f
          rw [if_pos rfl, if_pos (by omega), if_pos (by omega), if_pos (by omega), if_pos (by omega)]
          rw [show p / 18446744073709551616 * 18446744073709551616 + p % 18446744073709551616 = p by omega]
        rw [hd]
        simp only [Option.bind_some]
        by_cases hq : p / 1000 > 1000000000000000
        · rw [if_pos hq, key (by omega)]
        · rw [if_neg hq, num_is]
          have w1 : wrap64 (p / 1000) = p / 1000 := wrap_id (by omega) (by omega)
          rw [w1]
          have w2 : wrap64 (vSign a.2 * vSign b.2 * (p / 1000)) = vSign a.2 * vSign b.2 * (p / 1000) := by
            rcases sa with sa | sa | sa <;> rcases sb with sb | sb | sb <;> rw [sa, sb] <;> exact wrap_id (by omega) (by omega)
          rw [w2]; rfl
    · simp [h1, h2]
  · simp [h1]
theorem div_is {a b : V} (ha : isV a) (hb : isV b) : v_div.f 2 a.1 a.2 b.1 b.2 = some (vDiv a b) := by
  have na := isV_n ha
  have nb := isV_n hb
  have ra := isV_rank ha
  have e1 : wrap64 (-vRank a) = -vRank a := wrap_id (by omega) (by omega)
  have e2 : wrap64 (a.2 * 1000) = a.2 * 1000 := wrap_id (by omega) (by omega)
  have e3 : wrap64 ((a.2 * 1000).tdiv b.2) = (a.2 * 1000).tdiv b.2 := by
    have h := Int.natAbs_tdiv_le_natAbs (a.2 * 1000) b.2
    exact wrap_id (by omega) (by omega)
  unfold v_div.f v_finite.f vDiv
  simp only [Option.bind_some, v_div.j0, v_div.j1, v_finite.f, rank_is, back_is, e1, e2, e3, num_is, infinite_is, v_NaN.f]
  by_cases h1 : a.1 = 1
  · by_cases h2 : b.1 = 1
    · by_cases h3 : b.2 = 0
      · simp [h1, h2, h3]
      · simp [h1, h2, h3]
    · simp [h1, h2]
  · by_cases h2 : b.1 = 1
    · by_cases h3 : b.2 < 0
      · simp [h1, h2, h3]
      · simp [h1, h2, h3]
    · simp [h1, h2]
theorem is_is (a : V) : v_is.f a.1 a.2 = some (decide (isV a)) := by
  unfold v_is.f isV
  by_cases h1 : a.1 = 1
  · rw [if_pos h1]
    by_cases h2 : a.2 ≥ -1000000000000000
    · rw [if_pos h2]; congr 1; simp [h1, h2]
    · rw [if_neg h2]; congr 1; simp [h1]; omega
  · rw [if_neg h1]
    by_cases h2 : a.1 = 2
    · rw [if_pos h2]; congr 1; simp [h2]; rfl
    · rw [if_neg h2]
      by_cases h3 : a.1 = 3
      · rw [if_pos h3]; congr 1; simp [h3]; rfl
      · rw [if_neg h3]
        by_cases h4 : a.1 = 4
        · rw [if_pos h4]; congr 1; simp [h4]; rfl
        · rw [if_neg h4]
          by_cases h5 : a.1 = 5
          · rw [if_pos h5]; congr 1; simp [h5]; rfl
          · rw [if_neg h5]; congr 1; simp [h1, h2, h3, h4, h5]
end Go.Proofs.YtcmiehddjgfjaaaGreatDoor.A
namespace Go.Proofs.YtcmiehddjgfjaaaGreatDoor.A
open Go.RowKit Go.Proofs.YtcmiehddjgfjaaaGreatDoorW.PrintWords Go.Proofs.YtcmiehddjgfjaaaGreatDoorW.PrintLast Go.Proofs.YtcmiehddjgfjaaaGreatDoorW.PrintMore
set_option linter.unusedVariables false
set_option linter.unusedSimpArgs false
/-- What the package-level variables hold that are read. -/
structure Glob (w : World) : Prop where
  tab : Lib.TabIs Tryz.prog w "internal/strconv.uint64pow10" .u64 Lib.pow10Tab
  syn : ∃ ev, w.cell? ⟨3, 0, none⟩ = some ev ∧ (ev = .nilIface ∨ ∃ te pe, ev = .iface te pe)
  max : ∃ m, w.cell? ⟨2, 0, none⟩ = some (.int .i64 m)
theorem tab_below {P : Program} {n : String} {g : Nat} {k : IntKind} {zs : List Int} {w w' : World} (hg : P.globalNamed n = some g) (h : Lib.TabIs P w n k zs) (hb : Below w.heap.size w w') : Lib.TabIs P w' n k zs := by
  have hlt : g < w.heap.size := by
    rcases Nat.lt_or_ge g w.heap.size with h' | h'
    · exact h'
    · unfold Lib.TabIs World.var? at h
      rw [hg] at h
      simp only [Option.bind_some] at h
      rw [Array.getElem?_eq_none h'] at h; cases h
  have e : w'.var? P n = w.var? P n := by
    unfold World.var?
    rw [hg]
    simp only [Option.bind_some]
    rw [hb.block g hlt]
  exact e.trans h
theorem Glob.below {w w1 : World} (h : Glob w) (hb : Below w.heap.size w w1) : Glob w1 := by
  obtain ⟨ht, ⟨ev, h1, h2⟩, ⟨m, h3⟩⟩ := h
  exact ⟨tab_below (g := 5) (by kernel_rfl) ht hb, ⟨ev, pw_cell_below hb h1, h2⟩, ⟨m, pw_cell_below hb h3⟩⟩
/-- The text of a number of thousandths, not negative. -/
def pBody (n : Int) : List UInt8 := Lib.itoa (n / 1000) ++ (if n % 1000 > 0 then 46 :: Lib.trimRightB ((Lib.itoa (1000 + n % 1000)).drop 1) 48 else [])
def pText (v : V) : List UInt8 :=
  if v.1 = 2 then [110, 117, 108, 108] else if v.1 = 3 then [78, 97, 78] else if v.1 = 4 then [43, 73, 110, 102] else if v.1 = 5 then [45, 73, 110, 102]
  else if v.2 < 0 then 45 :: pBody (-v.2) else pBody v.2
def vPrint (v : V) : List UInt8 := if isV v then pText v else []
abbrev sb (l : List UInt8) : ByteArray := ⟨l.toArray⟩
theorem is_calls (k n : Int) (w : World) : Calls Tryz.prog 43 #[.agg #[.int .i64 k, .int .i64 n]] w fun e w' => e = .returned (.bool (decide (isV (k, n)))) ∧ Below w.heap.size w w' := v_is.calls k n _ w (is_is (k, n))
set_option maxHeartbeats 4000000 in
set_option maxRecDepth 100000 in
theorem print_not (k n : Int) (w : World) (h : ¬ isV (k, n)) : Calls Tryz.prog 33 #[.agg #[.int .i64 k, .int .i64 n]] w fun e w' => e = .returned (.string (sb [])) ∧ Below w.heap.size w w' := by
  have HI := Sd.mk (fun w1 => is_calls k n w1)
  rw [decide_eq_false h] at HI
  clear h
  go_enter Tryz.func33, Tryz.ntmps33
  go_wp2_with (go_at_call 43; refine (HI.out _).mono ?_; rintro e w1 ⟨rfl, hb1⟩; have HB := Sd.mk (below_step (bal (Below.refl w.heap.size w) _) hb1); clear hb1)
  go_ret
  exact ⟨rfl, HB.out⟩
abbrev names6 : Value := .agg #[.string ⟨#[]⟩, .string ⟨#[]⟩, .string ⟨#[110, 117, 108, 108]⟩, .string ⟨#[78, 97, 78]⟩, .string ⟨#[43, 73, 110, 102]⟩, .string ⟨#[45, 73, 110, 102]⟩]
theorem names6_at (k : Int) (h : k = 2 ∨ k = 3 ∨ k = 4 ∨ k = 5) (n : Int) (w : World) : (Instr.index 68 names6 (.int .i64 k)).run Tryz.prog w = .ok (.string (sb (pText (k, n)))) w := by
  have hu := Tryz.underlying68
  have h9 := Tryz.sizeOf9
  have a9 := Tryz.isAgg9
  rcases h with rfl | rfl | rfl | rfl
  all_goals simp [Instr.index, run_underlying hu, asIntOf, go_sem, h9, a9, pText]
set_option maxHeartbeats 4000000 in
set_option maxRecDepth 100000 in
theorem print_odd (k n : Int) (w : World) (hv : isV (k, n)) (h : k = 2 ∨ k = 3 ∨ k = 4 ∨ k = 5) : Calls Tryz.prog 33 #[.agg #[.int .i64 k, .int .i64 n]] w fun e w' => e = .returned (.string (sb (pText (k, n)))) ∧ Below w.heap.size w w' := by
  have HI := Sd.mk (fun w1 => is_calls k n w1)
  rw [decide_eq_true hv] at HI
  clear hv
  have k0 : (w.alloc (.cells #[.int .i64 k, .int .i64 n] 25)).cell? ⟨w.heap.size, 0, none⟩ = some (.int .i64 k) := by simp
  have hix := names6_at k h n
  generalize pText (k, n) = t at hix ⊢
  rcases h with rfl | rfl | rfl | rfl
  all_goals
    go_enter Tryz.func33, Tryz.ntmps33
    go_wp2_with (go_at_call 43; refine (HI.out _).mono ?_; rintro e w1 ⟨rfl, hb1⟩; have k0 := pw_cell_below hb1 k0; have HB := Sd.mk (below_step (bal (Below.refl w.heap.size w) _) hb1); clear hb1)
    go_ret
    exact ⟨rfl, HB.out⟩
end Go.Proofs.YtcmiehddjgfjaaaGreatDoor.A
namespace Go.Proofs.YtcmiehddjgfjaaaGreatDoor.I
open Go.Proofs Go.Shelf Go.RowKit Go.Lib Go.Proofs.YtcmiehddjgfjaaaGreatDoorW.PrintWords Go.Proofs.YtcmiehddjgfjaaaGreatDoorW.PrintLast Go.Proofs.YtcmiehddjgfjaaaGreatDoorW.PrintMore
set_option linter.unusedVariables false
set_option linter.unusedSimpArgs false
/-- Where the first stands that is so. -/
def idxP {α : Type} (p : α → Bool) : List α → Nat → Int
  | [], _ => -1
  | x :: l, i => if p x = true then (i : Int) else idxP p l (i + 1)
theorem idxP_ge {α : Type} (p : α → Bool) : ∀ (l : List α) (i : Nat), decide (0 ≤ idxP p l i) = l.any p
  | [], i => by simp [idxP]
  | x :: l, i => by
    rw [idxP, List.any_cons]
    by_cases h : p x = true
    · rw [if_pos h, h]; simp
    · rw [if_neg h, idxP_ge p l (i + 1)]
      simp at h
      rw [h, Bool.false_or]
theorem addr_add (a : Addr) (l j : Nat) : (a.add l).add j = a.add (l + j) := by
  unfold Addr.add
  by_cases h1 : l = 0
  · subst h1; simp
  · by_cases h2 : j = 0
    · subst h2; simp
    · simp [h1, h2, Nat.add_assoc]
variable {P : Program} {ρ : Ren} {α : Type}
set_option maxHeartbeats 2000000 in
theorem indexFunc (L : SlLaysH0.n6 P ρ) (d : Kd α) (z : α) (aE : ∀ w, (isAgg (ρ.t 23)).run P w = .ok true w) (zE : ∀ w, (Go.sizeOf (ρ.t 23)).run P w = .ok d.sz w) (p : α → Bool) (g : Nat) (lb : Array Value) (eg : ∀ args w, (callFunc g args).run P w = .ok (.enter g args) w)
    (A : Option Addr) (c : Nat) (xs : List α) (w : World) (hr : Kd.C d w A xs.length xs)
    (hp : ∀ x ∈ xs, ∀ w1 cs, Below w.heap.size w w1 → d.K w1 x cs → Calls P g (#[.agg cs.toArray] ++ lb) w1 fun e w' => e = .returned (.bool (p x)) ∧ Below w1.heap.size w1 w') :
    Calls P (ρ.f 6) #[.slice A xs.length c, .func (.func g) #[] lb] w fun e w' => e = .returned (.int .i64 (idxP p xs 0)) ∧ Below w.heap.size w w' := by
  have hm : xs.length ≤ 9223372036854775807 := Kd.C_max hr
  have mixed := L.mixed; have t0 := L.t0; have a0 := L.a0; have z0 := L.z0; have v0 := L.v0; have t3 := L.t3; have a3 := L.a3; have z3 := L.z3; have v3 := L.v3; have t4 := L.t4; have a4 := L.a4; have z4 := L.z4; have v4 := L.v4; have t22 := L.t22; have a22 := L.a22; have z22 := L.z22; have v22 := L.v22; have t25 := L.t25; have a25 := L.a25; have z25 := L.z25; have v25 := L.v25
  have hrow : ∀ (W : World), Below w.heap.size w W → ∀ j, j < xs.length → ∃ (ad : Addr) (cs : List Value), A = some ad ∧ Sem.run P (loadCellsFrom (ad.add (j * d.sz)) 0 d.sz #[]) W = .ok cs.toArray W ∧ Calls P g (#[.agg cs.toArray] ++ lb) W fun e w' => e = .returned (.bool (p (xs.getD j z))) ∧ Below W.heap.size W w' := fun W hW j hj => by
    obtain ⟨ad, cs, e, hl, hK, hc⟩ := Kd.C_get (Kd.C_below hr hW) z (j : Int) (by omega) (by omega)
    rw [Int.toNat_natCast] at hK hc
    refine ⟨ad, cs, e, run_loadCellsFrom_list P _ _ cs d.sz hl (fun i v hi => by rw [addr_add]; exact hc i v hi), hp _ ?_ W cs hW hK⟩
    rw [List.getD_eq_getElem?_getD, List.getElem?_eq_getElem hj]; exact List.getElem_mem hj
  have HROW := Sd.mk hrow
  clear hrow hp hr
  obtain ⟨_, _, FG⟩ := L.f6
  go_enter FG, SlBodyH.n6_ntmps ρ
  go_wp2
  go_loopg [5, 8] xs.length (fun gg _ s8 wr => ∃ kk : Nat, kk ≤ xs.length ∧ s8 = .int .i64 kk ∧ Sd (gg = xs.length - kk) ∧ Sd (idxP p xs 0 = idxP p (xs.drop kk) kk) ∧ Sd (Below w.heap.size w wr))
  case atStart => exact ⟨0, Nat.zero_le _, rfl, ⟨rfl⟩, ⟨rfl⟩, ⟨Below.refl _ _⟩⟩
  case round =>
    obtain ⟨kk, hkk, rfl, HK, HT, HB⟩ := hrel
    by_cases hlt : kk < xs.length
    · have hltz : (kk : Int) < (xs.length : Int) := by omega
      obtain ⟨ad, cs, rfl, l2, hcall⟩ := HROW.out wr HB.out kk hlt
      have hdr : idxP p (xs.drop kk) kk = if p (xs.getD kk z) = true then (kk : Int) else idxP p (xs.drop (kk + 1)) (kk + 1) := by
        rw [List.drop_eq_getElem_cons hlt, idxP, List.getD_eq_getElem?_getD, List.getElem?_eq_getElem hlt]; rfl
      have HD := Sd.mk hdr
      clear hdr
      generalize p (xs.getD kk z) = q at hcall HD
      cases q with
      | true =>
        have HT2 := Sd.mk (show idxP p xs 0 = (kk : Int) from by rw [HT.out, HD.out, if_pos rfl])
        go_wp2_with (go_at_fn g; refine hcall.mono ?_; rintro e w' ⟨rfl, hb'⟩; have HB1 := Sd.mk (HB.out.trans (hb'.mono HB.out.size)); clear hb')
        go_ret
        exact ⟨by rw [HT2.out]; rfl, HB1.out⟩
      | false =>
        have HT2 := Sd.mk (show idxP p xs 0 = idxP p (xs.drop (kk + 1)) (kk + 1) from by rw [HT.out, HD.out, if_neg (by simp)])
        go_wp2_with (go_at_fn g; refine hcall.mono ?_; rintro e w' ⟨rfl, hb'⟩; have HB1 := Sd.mk (HB.out.trans (hb'.mono HB.out.size)); clear hb')
        go_roundg (xs.length - (kk + 1))
        case measure => have := HK.out; omega
        case rel => exact ⟨kk + 1, by omega, by go_num, ⟨rfl⟩, ⟨HT2.out⟩, HB1⟩
    · have HT2 := Sd.mk (show idxP p xs 0 = -1 from by rw [HT.out, List.drop_of_length_le (by omega)]; rfl)
      go_wp2
      go_ret
      exact ⟨by rw [HT2.out]; rfl, HB.out⟩
theorem containsFunc (L : SlLaysH0.n8 P ρ) (d : Kd α) (z : α) (aE : ∀ w, (isAgg (ρ.t 23)).run P w = .ok true w) (zE : ∀ w, (Go.sizeOf (ρ.t 23)).run P w = .ok d.sz w) (p : α → Bool) (g : Nat) (lb : Array Value) (eg : ∀ args w, (callFunc g args).run P w = .ok (.enter g args) w)
    (A : Option Addr) (c : Nat) (xs : List α) (w : World) (hr : Kd.C d w A xs.length xs)
    (hp : ∀ x ∈ xs, ∀ w1 cs, Below w.heap.size w w1 → d.K w1 x cs → Calls P g (#[.agg cs.toArray] ++ lb) w1 fun e w' => e = .returned (.bool (p x)) ∧ Below w1.heap.size w1 w') :
    Calls P (ρ.f 8) #[.slice A xs.length c, .func (.func g) #[] lb] w fun e w' => e = .returned (.bool (xs.any p)) ∧ Below w.heap.size w w' := by
  rw [← idxP_ge p xs 0]
  have hi := indexFunc { L with } d z aE zE p g lb eg A c xs w hr hp
  generalize idxP p xs 0 = r at hi
  have HI := Sd.mk hi
  clear hi hp hr
  have mixed := L.mixed; have t0 := L.t0; have a0 := L.a0; have z0 := L.z0; have v0 := L.v0; have t3 := L.t3; have a3 := L.a3; have z3 := L.z3; have v3 := L.v3; have t4 := L.t4; have a4 := L.a4; have z4 := L.z4; have v4 := L.v4; have t22 := L.t22; have a22 := L.a22; have z22 := L.z22; have v22 := L.v22; have t25 := L.t25; have a25 := L.a25; have z25 := L.z25; have v25 := L.v25
  have e6 : ∀ args w, (callFunc (ρ.f 6) args).run P w = .ok (.enter (ρ.f 6) args) w := L.f6.enters rfl
  obtain ⟨_, _, FG⟩ := L.f8
  go_enter FG, SlBodyH.n8_ntmps ρ
  go_wp2_with (go_at_fn (ρ.f 6); refine HI.out.mono ?_; rintro e w' ⟨rfl, hb'⟩)
  go_ret
  exact ⟨rfl, hb'⟩
end Go.Proofs.YtcmiehddjgfjaaaGreatDoor.I
namespace Go.Proofs.YtcmiehddjgfjaaaGreatDoor.A
open Go.RowKit Go.Proofs.YtcmiehddjgfjaaaGreatDoorW.PrintWords Go.Proofs.YtcmiehddjgfjaaaGreatDoorW.PrintLast Go.Proofs.YtcmiehddjgfjaaaGreatDoorW.PrintMore
set_option linter.unusedVariables false
set_option linter.unusedSimpArgs false
def layV_ren : Go.Shelf.Ren := ⟨fun | 6 => 81 | 8 => 41 | n => n, fun | 22 => 22 | 23 => 25 | 25 => 31 | n => n, fun | n => n⟩
theorem layV : Go.Proofs.SlLaysH0.n8 Tryz.prog layV_ren := {
  mixed := by kernel_rfl
  f6 := ⟨Tryz.f81.name, by decide, Tryz.func81.trans (congrArg some (by kernel_rfl))⟩
  f8 := ⟨Tryz.f41.name, by decide, Tryz.func41.trans (congrArg some (by kernel_rfl))⟩
  t0 := Tryz.underlying0
  a0 := Tryz.isAgg0
  z0 := Tryz.sizeOf0
  v0 := Tryz.zeroValue0
  t3 := Tryz.underlying3
  a3 := Tryz.isAgg3
  z3 := Tryz.sizeOf3
  v3 := Tryz.zeroValue3
  t4 := Tryz.underlying4
  a4 := Tryz.isAgg4
  z4 := Tryz.sizeOf4
  v4 := Tryz.zeroValue4
  t22 := Tryz.underlying22
  a22 := Tryz.isAgg22
  z22 := Tryz.sizeOf22
  v22 := Tryz.zeroValue22
  t25 := Tryz.underlying31
  a25 := Tryz.isAgg31
  z25 := Tryz.sizeOf31
  v25 := Tryz.zeroValue31 }
abbrev sv (x : S25) : V := (x.f0, x.f1)
def badV (x : S25) : Bool := !decide (isV (sv x))
theorem check1_calls (x : S25) (w : World) : Calls Tryz.prog 42 #[.agg #[.int .i64 x.f0, .int .i64 x.f1]] w fun e w' => e = .returned (.bool (badV x)) ∧ Below w.heap.size w w' :=
  v_Check_1.calls x.f0 x.f1 _ w (by
    unfold v_Check_1.f
    rw [is_is (sv x)]; rfl)
def v_Check.f (l : List S25) : Option Int := some (if l.any badV then 80 else 0)
set_option maxHeartbeats 2000000 in
theorem v_Check.calls (A0 : Option Addr) (c0 : Nat) (l0 : List S25) (r : Int) (w : World) (hr0 : Kd.C k25 w A0 l0.length l0) (hc0 : l0.length ≤ c0) (h : v_Check.f l0 = some r) :
    Calls Tryz.prog 17 #[.slice A0 l0.length c0] w fun e w' => e = .returned (.int .i64 r) ∧ Below w.heap.size w w' := by
  injection h with h
  subst h
  have eg : ∀ args w, (callFunc 42 args).run Tryz.prog w = .ok (.enter 42 args) w := enters_of Tryz.func42 (by kernel_rfl) rfl
  have hi := Go.Proofs.YtcmiehddjgfjaaaGreatDoor.I.containsFunc layV k25 z25 Tryz.isAgg25 Tryz.sizeOf25 badV 42 #[] eg A0 c0 l0 w hr0 (fun x _ w1 cs _ hK => by
    obtain rfl := k25_open hK
    exact check1_calls x w1)
  change Calls Tryz.prog 41 _ _ _ at hi
  generalize l0.any badV = r at hi
  have HI := Sd.mk hi
  clear hi hr0
  go_enter Tryz.func17, Tryz.ntmps17
  go_wp2_with (go_at_call 41; refine HI.out.mono ?_; rintro e w' ⟨rfl, hb'⟩; have HB := Sd.mk hb'; clear hb')
  all_goals
    go_ret
    exact ⟨by simp_all, HB.out⟩
end Go.Proofs.YtcmiehddjgfjaaaGreatDoor.A
namespace Go.Proofs.YtcmiehddjgfjaaaGreatDoor.A
open Go.RowKit Go.Proofs.YtcmiehddjgfjaaaGreatDoorW.PrintWords Go.Proofs.YtcmiehddjgfjaaaGreatDoorW.PrintLast Go.Proofs.YtcmiehddjgfjaaaGreatDoorW.PrintMore Go.Proofs.YtcmiehddjgfjaaaGreatDoor.H Go.Sort
set_option linter.unusedVariables false
set_option linter.unusedSimpArgs false
theorem below_grown' (w : World) (k : Nat) (os : Array Obj) : Below w.heap.size w (grow (w.drewN k) os) :=
  ⟨rfl, rfl, rfl, by simp [grow], fun b hb => by
    show (w.heap ++ os)[b]? = w.heap[b]?
    rw [Array.getElem?_append_left hb]⟩
theorem itoa_len (x : Int) (h0 : 0 ≤ x) : 1 ≤ (Lib.itoa x).length := by
  unfold Lib.itoa
  rw [if_neg (by omega)]
  unfold Lib.decDigits
  split <;> simp
theorem fmt_calls (x : Int) (h0 : 0 ≤ x) (h1 : x ≤ 1000000000000000) (w : World) (G : Glob w) : Calls Tryz.prog 49 #[.int .i64 x, .int .i64 10] w fun e w' => e = .returned (.string (sb (Lib.itoa x))) ∧ Below w.heap.size w w' :=
  (strconv_FormatInt_10 x (by omega) (by omega) w G.tab).mono fun e w' ⟨he, k, os, hw⟩ => ⟨he, by subst hw; exact below_grown' _ k os⟩
theorem dec_le : ∀ u : Nat, (Lib.decDigits u).length ≤ u + 1 := by
  intro u
  induction u using Nat.strongRecOn with
  | _ u ih =>
    unfold Lib.decDigits
    split
    · simp
    · have := ih (u / 10) (by omega)
      rw [List.length_append, List.length_singleton]
      omega
theorem itoa_le (x : Int) (h0 : 0 ≤ x) : (Lib.itoa x).length ≤ x.toNat + 1 := by
  unfold Lib.itoa
  rw [if_neg (by omega)]
  exact dec_le _
theorem trim_le (l : List UInt8) (c : UInt8) : (Lib.trimRightB l c).length ≤ l.length := by
  unfold Lib.trimRightB
  rw [List.length_reverse]
  exact Nat.le_trans (List.Sublist.length_le (List.dropWhile_sublist _)) (by simp)
theorem sb_app (a b : List UInt8) : (sb a ++ sb b : ByteArray) = sb (a ++ b) := by
  apply ByteArray.ext
  simp [ByteArray.data_append]
theorem sb_lit (c : UInt8) (l : List UInt8) : ((⟨#[c]⟩ : ByteArray) ++ sb l) = sb (c :: l) := sb_app [c] l
theorem sb_drop (l : List UInt8) : (sb l).extract 1 l.length = sb (l.drop 1) := by
  apply ByteArray.ext
  simp
  exact List.take_of_length_le (by simp)
theorem trim_calls (l : List UInt8) (h : l.length ≤ 10000) (w : World) : Calls Tryz.prog 50 #[.string ((sb l).extract 1 l.length), .string ⟨#[48]⟩] w fun e w' => e = .returned (.string (sb (Lib.trimRightB (l.drop 1) 48))) ∧ w' = w := by
  rw [sb_drop]
  refine (strings_TrimRight_one (sb (l.drop 1)) 48 (by decide) w ?_).mono fun e w' h => h
  show (l.drop 1).toArray.size ≤ _
  simp; omega
/-- The text of m thousandths, with a sign. -/
def sText (b : Bool) (l : List UInt8) : List UInt8 := if b = true then 45 :: l else l
set_option maxHeartbeats 4000000 in
set_option maxRecDepth 100000 in
theorem print_num (n m : Int) (b : Bool) (w : World) (G : Glob w) (hn0 : -1000000000000000 ≤ n) (hn1 : n ≤ 1000000000000000) (hm : max n (-n) = m) (hs : decide (n < 0) = b) (h0 : 0 ≤ m) (h1 : m ≤ 1000000000000000) :
    Calls Tryz.prog 33 #[.agg #[.int .i64 1, .int .i64 n]] w fun e w' => e = .returned (.string (sb (sText b (pBody m)))) ∧ Below w.heap.size w w' := by
  have HI := Sd.mk (fun w1 => is_calls 1 n w1)
  rw [decide_eq_true (show isV (1, n) from .inl ⟨rfl, hn0, hn1⟩)] at HI
  have HG := Sd.mk G
  have k0 : (w.alloc (.cells #[.int .i64 1, .int .i64 n] 25)).cell? ⟨w.heap.size, 0, none⟩ = some (.int .i64 1) := by simp
  have k1 : (w.alloc (.cells #[.int .i64 1, .int .i64 n] 25)).cell? ⟨w.heap.size, 1, none⟩ = some (.int .i64 n) := by simp
  obtain ⟨l1, hl1⟩ : ∃ l, Lib.itoa (m / 1000) = l := ⟨_, rfl⟩
  obtain ⟨l2, hl2⟩ : ∃ l, Lib.itoa (1000 + m % 1000) = l := ⟨_, rfl⟩
  have hlen : 1 ≤ l2.length := by rw [← hl2]; exact itoa_len _ (by omega)
  have hlen2 : l2.length ≤ 10000 := by
    rw [← hl2]
    have := itoa_le (1000 + m % 1000) (by omega)
    omega
  have hlen1 : l1.length ≤ 10000000000000 := by
    rw [← hl1]
    have := itoa_le (m / 1000) (by omega)
    omega
  have HQ := Sd.mk (fun w1 g => fmt_calls (m / 1000) (by omega) (by omega) w1 g)
  have HR := Sd.mk (fun w1 g => fmt_calls (1000 + m % 1000) (by omega) (by omega) w1 g)
  have hp : pBody m = l1 ++ (if m % 1000 > 0 then 46 :: Lib.trimRightB (l2.drop 1) 48 else []) := by unfold pBody; rw [hl1, hl2]
  rw [hp]
  rw [hl1] at HQ
  rw [hl2] at HR
  have HT := Sd.mk (fun w1 => trim_calls l2 hlen2 w1)
  have ht : (Lib.trimRightB (l2.drop 1) 48).length ≤ 10000 := Nat.le_trans (trim_le _ _) (by rw [List.length_drop]; omega)
  generalize Lib.trimRightB (l2.drop 1) 48 = t at HT ht ⊢
  clear G hp hl1 hl2 hlen2
  by_cases hr : m % 1000 > 0
  · have hr' : decide (m % 1000 > 0) = true := decide_eq_true hr
    rw [if_pos hr]
    cases b
    all_goals
      go_enter Tryz.func33, Tryz.ntmps33
      go_wp2_with (first
        | (go_at_call 43; refine (HI.out _).mono ?_; rintro e w1 ⟨rfl, hb1⟩; have k0 := pw_cell_below hb1 k0; have k1 := pw_cell_below hb1 k1; have HB := Sd.mk (below_step (bal (Below.refl w.heap.size w) _) hb1); clear hb1)
        | (go_at_call 49; refine (HQ.out _ (HG.out.below HB.out)).mono ?_; rintro e w1 ⟨rfl, hb1⟩; have k0 := pw_cell_below hb1 k0; have k1 := pw_cell_below hb1 k1; have HB := Sd.mk (HB.out.trans (hb1.mono HB.out.size)); clear hb1)
        | (go_at_call 49; refine (HR.out _ (HG.out.below HB.out)).mono ?_; rintro e w1 ⟨rfl, hb1⟩; have k0 := pw_cell_below hb1 k0; have k1 := pw_cell_below hb1 k1; have HB := Sd.mk (HB.out.trans (hb1.mono HB.out.size)); clear hb1)
        | (go_at_call 50; refine (HT.out _).mono ?_; rintro e w1 ⟨rfl, rfl⟩))
      all_goals first
        | (exfalso; omega)
        | (go_ret; exact ⟨by simp [sText, sb_app, sb_lit], HB.out⟩)
  · have hr' : decide (m % 1000 > 0) = false := decide_eq_false hr
    rw [if_neg hr]
    cases b
    all_goals
      go_enter Tryz.func33, Tryz.ntmps33
      go_wp2_with (first
        | (go_at_call 43; refine (HI.out _).mono ?_; rintro e w1 ⟨rfl, hb1⟩; have k0 := pw_cell_below hb1 k0; have k1 := pw_cell_below hb1 k1; have HB := Sd.mk (below_step (bal (Below.refl w.heap.size w) _) hb1); clear hb1)
        | (go_at_call 49; refine (HQ.out _ (HG.out.below HB.out)).mono ?_; rintro e w1 ⟨rfl, hb1⟩; have k0 := pw_cell_below hb1 k0; have k1 := pw_cell_below hb1 k1; have HB := Sd.mk (HB.out.trans (hb1.mono HB.out.size)); clear hb1)
        | (go_at_call 49; refine (HR.out _ (HG.out.below HB.out)).mono ?_; rintro e w1 ⟨rfl, hb1⟩; have k0 := pw_cell_below hb1 k0; have k1 := pw_cell_below hb1 k1; have HB := Sd.mk (HB.out.trans (hb1.mono HB.out.size)); clear hb1)
        | (go_at_call 50; refine (HT.out _).mono ?_; rintro e w1 ⟨rfl, rfl⟩))
      all_goals first
        | (exfalso; omega)
        | (go_ret; exact ⟨by simp [sText, sb_app, sb_lit], HB.out⟩)
theorem print_calls (k n : Int) (w : World) (G : Glob w) : Calls Tryz.prog 33 #[.agg #[.int .i64 k, .int .i64 n]] w fun e w' => e = .returned (.string (sb (vPrint (k, n)))) ∧ Below w.heap.size w w' := by
  by_cases hv : isV (k, n)
  · have e : vPrint (k, n) = pText (k, n) := if_pos hv
    rw [e]
    rcases hv with ⟨hk, h1, h2⟩ | ⟨hk, h1⟩
    · have hk' : k = 1 := hk
      subst hk'
      have h1' : -1000000000000000 ≤ n := h1
      have h2' : n ≤ 1000000000000000 := h2
      have et : pText (1, n) = if n < 0 then 45 :: pBody (-n) else pBody n := by
        unfold pText
        simp
      rw [et]
      by_cases hn : n < 0
      · rw [if_pos hn]
        exact print_num n (-n) true w G h1' h2' (by omega) (decide_eq_true hn) (by omega) (by omega)
      · rw [if_neg hn]
        exact print_num n n false w G h1' h2' (by omega) (decide_eq_false hn) (by omega) (by omega)
    · exact print_odd k n w (.inr ⟨hk, h1⟩) hk
  · have e : vPrint (k, n) = [] := if_neg hv
    rw [e]
    exact print_not k n w hv
end Go.Proofs.YtcmiehddjgfjaaaGreatDoor.A
namespace Go.Proofs.YtcmiehddjgfjaaaGreatDoor.A
set_option linter.unusedVariables false
set_option linter.unusedSimpArgs false
/-- A run of digits, read behind a number. -/
def pu (acc : Nat) : List UInt8 → Option Nat
  | [] => some acc
  | c :: r => if 48 ≤ c.toNat ∧ c.toNat ≤ 57 then pu (acc * 10 + (c.toNat - 48)) r else none
abbrev dg8 (d : Nat) : UInt8 := UInt8.ofNat (48 + d)
theorem dg8_toNat {d : Nat} (h : d < 10) : (dg8 d).toNat = 48 + d := by
  rw [UInt8.toNat_ofNat']; omega
theorem dec_small {u : Nat} (h : u < 10) : Lib.decDigits u = [dg8 u] := by rw [Lib.decDigits, dif_pos h]
theorem dec_big {u : Nat} (h : ¬ u < 10) : Lib.decDigits u = Lib.decDigits (u / 10) ++ [dg8 (u % 10)] := by rw [Lib.decDigits, dif_neg h]
theorem pu_dg {d acc : Nat} (h : d < 10) (r : List UInt8) : pu acc (dg8 d :: r) = pu (acc * 10 + d) r := by
  have e := dg8_toNat h
  rw [pu, if_pos (by omega), e, show 48 + d - 48 = d by omega]
theorem pu_dec (u : Nat) : ∀ rest, pu 0 (Lib.decDigits u ++ rest) = pu u rest := by
  induction u using Nat.strongRecOn with
  | _ u ih =>
    intro rest
    by_cases h : u < 10
    · rw [dec_small h]
      show pu 0 (dg8 u :: rest) = _
      rw [pu_dg h]; simp
    · rw [dec_big h, List.append_assoc, ih (u / 10) (by omega)]
      show pu _ (dg8 (u % 10) :: rest) = _
      rw [pu_dg (by omega), show u / 10 * 10 + u % 10 = u by omega]
theorem dec_digits (u : Nat) : ∀ c ∈ Lib.decDigits u, 48 ≤ c.toNat ∧ c.toNat ≤ 57 := by
  induction u using Nat.strongRecOn with
  | _ u ih =>
    intro c hc
    by_cases h : u < 10
    · rw [dec_small h] at hc
      obtain rfl := List.mem_singleton.1 hc
      have := dg8_toNat h
      omega
    · rw [dec_big h] at hc
      rcases List.mem_append.1 hc with hc | hc
      · exact ih _ (by omega) c hc
      · obtain rfl := List.mem_singleton.1 hc
        have := dg8_toNat (show u % 10 < 10 by omega)
        omega
theorem dec_len : ∀ (k u : Nat), u < 10 ^ (k + 1) → (Lib.decDigits u).length ≤ k + 1
  | 0, u, h => by rw [dec_small (by simpa using h)]; simp
  | k + 1, u, h => by
    by_cases h' : u < 10
    · rw [dec_small h']; simp
    · have := dec_len k (u / 10) (by rw [Nat.pow_succ] at h; omega)
      rw [dec_big h', List.length_append, List.length_singleton]; omega
theorem dec_ne (u : Nat) : Lib.decDigits u ≠ [] := by
  by_cases h : u < 10
  · rw [dec_small h]; simp
  · rw [dec_big h]; simp
/-- The first byte of a numeral is a digit. -/
theorem dec_head (u : Nat) : ∃ c r, Lib.decDigits u = c :: r ∧ 48 ≤ c.toNat ∧ c.toNat ≤ 57 := by
  have h := dec_digits u
  cases e : Lib.decDigits u with
  | nil => exact absurd e (dec_ne u)
  | cons c r => rw [e] at h; exact ⟨c, r, rfl, h c (by simp)⟩
theorem index_free : ∀ l : List UInt8, (∀ c ∈ l, c ≠ 46) → Lib.index l [46] = -1
  | [], _ => rfl
  | b :: l, h => by
    have hb : b ≠ 46 := h b (by simp)
    have ih := index_free l (fun c hc => h c (by simp [hc]))
    unfold Lib.index
    rw [ih]
    simp [List.isPrefixOf, Ne.symm hb]
theorem index_dot (r : List UInt8) : ∀ l : List UInt8, (∀ c ∈ l, c ≠ 46) → Lib.index (l ++ 46 :: r) [46] = l.length
  | [], _ => by
    show Lib.index (46 :: r) [46] = 0
    unfold Lib.index
    simp [List.isPrefixOf]
  | b :: l, h => by
    have hb : b ≠ 46 := h b (by simp)
    have ih := index_dot r l (fun c hc => h c (by simp [hc]))
    show Lib.index (b :: (l ++ 46 :: r)) [46] = _
    unfold Lib.index
    rw [ih]
    have : ¬ ((l.length : Int) = -1) := by omega
    simp [List.isPrefixOf, Ne.symm hb, this]
theorem cut_free (l : List UInt8) (h : ∀ c ∈ l, c ≠ 46) : Lib.cut l [46] = (l, [], false) := by
  unfold Lib.cut
  rw [index_free l h, if_neg (by omega)]
theorem cut_dot (l r : List UInt8) (h : ∀ c ∈ l, c ≠ 46) : Lib.cut (l ++ 46 :: r) [46] = (l, r, true) := by
  unfold Lib.cut
  rw [index_dot r l h, if_pos (by omega)]
  simp
/-- The three places behind the point. -/
theorem dec_1000 (r : Nat) (h : r < 1000) : Lib.decDigits (1000 + r) = [49, dg8 (r / 100), dg8 (r / 10 % 10), dg8 (r % 10)] := by
  have e1 : (1000 + r) / 10 / 10 / 10 = 1 := by omega
  have e2 : (1000 + r) / 10 / 10 % 10 = r / 100 := by omega
  have e3 : (1000 + r) / 10 % 10 = r / 10 % 10 := by omega
  have e4 : (1000 + r) % 10 = r % 10 := by omega
  rw [dec_big (show ¬ 1000 + r < 10 by omega), dec_big (show ¬ (1000 + r) / 10 < 10 by omega), dec_big (show ¬ (1000 + r) / 10 / 10 < 10 by omega), dec_small (show (1000 + r) / 10 / 10 / 10 < 10 by omega), e1, e2, e3, e4]
  rfl
def frac (r : Nat) : List UInt8 := Lib.trimRightB [dg8 (r / 100), dg8 (r / 10 % 10), dg8 (r % 10)] 48
theorem dg8_zero {d : Nat} (h : d < 10) : (dg8 d == 48) = decide (d = 0) := by
  rw [Bool.eq_iff_iff]
  simp only [beq_iff_eq, decide_eq_true_eq]
  constructor
  · intro e
    have := dg8_toNat h
    rw [e] at this
    have h48 : (48 : UInt8).toNat = 48 := rfl
    omega
  · rintro rfl; rfl
theorem frac_cases (r : Nat) (h0 : 0 < r) (h : r < 1000) :
    (r % 10 ≠ 0 ∧ frac r = [dg8 (r / 100), dg8 (r / 10 % 10), dg8 (r % 10)]) ∨ (r % 10 = 0 ∧ r / 10 % 10 ≠ 0 ∧ frac r = [dg8 (r / 100), dg8 (r / 10 % 10)]) ∨ (r % 10 = 0 ∧ r / 10 % 10 = 0 ∧ frac r = [dg8 (r / 100)]) := by
  have z2 := dg8_zero (show r / 100 < 10 by omega)
  have z1 := dg8_zero (show r / 10 % 10 < 10 by omega)
  have z0 := dg8_zero (show r % 10 < 10 by omega)
  unfold frac Lib.trimRightB
  by_cases c0 : r % 10 = 0
  · by_cases c1 : r / 10 % 10 = 0
    · have c2 : r / 100 ≠ 0 := by omega
      refine .inr (.inr ⟨c0, c1, ?_⟩)
      rw [decide_eq_true c0] at z0
      rw [decide_eq_true c1] at z1
      rw [decide_eq_false c2] at z2
      simp only [List.reverse_cons, List.reverse_nil, List.nil_append, List.cons_append, List.dropWhile, z0, z1, z2]
    · refine .inr (.inl ⟨c0, c1, ?_⟩)
      rw [decide_eq_true c0] at z0
      rw [decide_eq_false c1] at z1
      simp only [List.reverse_cons, List.reverse_nil, List.nil_append, List.cons_append, List.dropWhile, z0, z1]
  · refine .inl ⟨c0, ?_⟩
    rw [decide_eq_false c0] at z0
    simp only [List.reverse_cons, List.reverse_nil, List.nil_append, List.cons_append, List.dropWhile, z0]
/-- What stands behind the point, filled up to three places, is read as the rest. -/
theorem pu_frac (q r : Nat) (h0 : 0 < r) (h : r < 1000) : pu q (frac r ++ List.replicate (3 - (frac r).length) 48) = some (q * 1000 + r) := by
  have d2 : r / 100 < 10 := by omega
  have d1 : r / 10 % 10 < 10 := by omega
  have d0 : r % 10 < 10 := by omega
  have e48 : (48 : UInt8) = dg8 0 := rfl
  rcases frac_cases r h0 h with ⟨c0, e⟩ | ⟨c0, c1, e⟩ | ⟨c0, c1, e⟩ <;> rw [e]
  · show pu q [dg8 (r / 100), dg8 (r / 10 % 10), dg8 (r % 10)] = _
    rw [pu_dg d2, pu_dg d1, pu_dg d0]
    show some _ = some _
    congr 1; omega
  · show pu q [dg8 (r / 100), dg8 (r / 10 % 10), dg8 0] = _
    rw [pu_dg d2, pu_dg d1, pu_dg (by omega)]
    show some _ = some _
    congr 1; omega
  · show pu q [dg8 (r / 100), dg8 0, dg8 0] = _
    rw [pu_dg d2, pu_dg (by omega), pu_dg (by omega)]
    show some _ = some _
    congr 1; omega
theorem frac_len (r : Nat) (h0 : 0 < r) (h : r < 1000) : 1 ≤ (frac r).length ∧ (frac r).length ≤ 3 := by
  rcases frac_cases r h0 h with ⟨c0, e⟩ | ⟨c0, c1, e⟩ | ⟨c0, c1, e⟩ <;> rw [e] <;> simp
end Go.Proofs.YtcmiehddjgfjaaaGreatDoor.A
namespace Go.Proofs.YtcmiehddjgfjaaaGreatDoor.A
open Go.RowKit Go.Proofs.YtcmiehddjgfjaaaGreatDoorW.PrintWords Go.Proofs.YtcmiehddjgfjaaaGreatDoorW.PrintLast Go.Proofs.YtcmiehddjgfjaaaGreatDoorW.PrintMore Go.Proofs.YtcmiehddjgfjaaaGreatDoor.H Go.Sort
set_option linter.unusedVariables false
set_option linter.unusedSimpArgs false
/-- The results: a number, or an error. -/
def puEnd (r : Option Nat) : Value := match r with
  | some n => .tuple #[.int .u64 n, .nilIface]
  | none => .tuple #[.int .u64 0, .iface 110 (.int .i64 2)]
theorem lower_calls (c : Int) (w : World) : Calls Tryz.prog 110 #[.int .u8 c] w fun e w' => e = .returned (.int .u8 (Go.bits .or .u8 c 32)) ∧ w' = w := by
  go_enter Tryz.func110, Tryz.ntmps110
  go_wp2
  go_ret
  exact ⟨rfl, rfl⟩
set_option maxHeartbeats 8000000 in
set_option maxRecDepth 100000 in
theorem uint_inner (t : ByteArray) (hne : t.size ≠ 0) (hmax : t.size ≤ 16) (w : World) :
    Calls Tryz.prog 84 #[.string t, .int .i64 10, .int .i64 62] w fun e w' => e = .returned (puEnd (pu 0 t.data.toList)) ∧ w' = Lib.bytesWorld w 5 t := by
  have hemp : t.toList.isEmpty = false := by
    rw [← decide_eq_emptyBytes]
    exact decide_eq_false (fun h => hne (by rw [h]; rfl))
  have hcv := Lib.run_convert_string_bytes (P := Tryz.prog) w 9 88 5 t (u := .string) Tryz.underlying9 Tryz.underlying88 Tryz.underlying5
  have hB : ∀ j, j < t.size → (Lib.bytesWorld w 5 t).cell? ⟨w.heap.size, j, none⟩ = some (.int .u8 (t.data.toList.getD j 0).toNat) := fun j hj => Lib.bytesWorld_cell w 5 t j hj
  obtain ⟨W1, hW1⟩ : ∃ W1, W1 = Lib.bytesWorld w 5 t := ⟨_, rfl⟩
  rw [← hW1] at hcv hB ⊢
  clear hW1
  obtain ⟨bs, hL⟩ : ∃ bs, bs = t.data.toList := ⟨_, rfl⟩
  have hLn : bs.length = t.size := by rw [hL, Lib.size_eq]
  rw [← hL] at hB ⊢
  clear hL
  have hmv : IntKind.u64.wrap (IntKind.u64.wrap 4611686018427387904 - 1) = 4611686018427387903 := by
    rw [IntKind.wrap_u64, IntKind.wrap_u64]
    decide
  go_enter Tryz.func84, Tryz.ntmps84
  go_wp2
  go_loop [12, 13, 101] (fun vu vn vi => ∃ (k acc : Nat) (a : Int), vu = .bool false ∧ vn = .int .u64 a ∧ vi = .int .i64 k ∧ k ≤ t.size ∧ Hid (a = (acc : Int) ∧ acc < 10 ^ k ∧ pu 0 bs = pu acc (bs.drop k)))
    (fun _ _ vi => t.size - (intOf vi).toNat)
  case atStart => exact ⟨0, 0, 0, rfl, rfl, rfl, by omega, rfl, by omega, rfl⟩
  case round =>
    obtain ⟨k, acc, a, rfl, rfl, rfl, hk, hh⟩ := hrel
    obtain ⟨ha, hacc, hdec⟩ := hh.out
    clear hh
    have hp : 10 ^ k ≤ 10 ^ 16 := Nat.pow_le_pow_right (by omega) (by omega)
    have a0 : 0 ≤ a := by omega
    have a1 : a < 10000000000000000 := by omega
    by_cases hkn : k < t.size
    · have hp' : 10 ^ k ≤ 10 ^ 15 := Nat.pow_le_pow_right (by omega) (by omega)
      have a2 : a < 1000000000000000 := by omega
      have hc := hB k hkn
      have hdrop : bs.drop k = bs[k]'(by omega) :: bs.drop (k + 1) := List.drop_eq_getElem_cons (by omega)
      have hget : bs.getD k 0 = bs[k]'(by omega) := by simp [List.getD, List.getElem?_eq_getElem (show k < bs.length by omega)]
      rw [hdrop] at hdec
      rw [hget] at hc
      generalize bs[k]'(by omega) = c at hc hdec
      have hc256 : c.toNat < 256 := c.toNat_lt
      clear hB hdrop hget
      by_cases hdig : 48 ≤ c.toNat ∧ c.toNat ≤ 57
      · obtain ⟨hd0, hd1⟩ := hdig
        have hF : pu acc (c :: bs.drop (k + 1)) = pu (acc * 10 + (c.toNat - 48)) (bs.drop (k + 1)) := by rw [pu, if_pos ⟨hd0, hd1⟩]
        have HN : Hid (a * 10 + ((c.toNat : Int) - 48) = ((acc * 10 + (c.toNat - 48) : Nat) : Int) ∧ acc * 10 + (c.toNat - 48) < 10 ^ (k + 1) ∧ pu 0 bs = pu (acc * 10 + (c.toNat - 48)) (bs.drop (k + 1))) := Lib.hid ⟨by omega, by rw [Nat.pow_succ]; omega, hdec.trans hF⟩
        clear hacc hF hdec ha hp hp'
        go_wp2
        refine ⟨⟨k + 1, acc * 10 + (c.toNat - 48), a * 10 + ((c.toNat : Int) - 48), rfl, (by first | rfl | (congr 1; omega)), (by first | rfl | (congr 1; omega)), by omega, HN⟩, by simp [intOf]; omega⟩
      · -- no digit
        have hF : pu acc (c :: bs.drop (k + 1)) = none := by rw [pu, if_neg hdig]
        rw [hF] at hdec
        clear hacc hF ha hp hp'
        have hv0 := bits_lo_u8 .or (c.toNat : Int) 32
        have hv1 := bits_hi_u8 .or (c.toNat : Int) 32
        have hu0 := bits_lo_u8 .or 95 32
        have hu1 := bits_hi_u8 .or 95 32
        go_wp2_with (go_at_call 110; refine (lower_calls _ _).mono ?_; rintro e w' ⟨rfl, rfl⟩)
        all_goals go_ret2
        all_goals first | exact ⟨rfl, rfl⟩ | exact ⟨by rw [hdec]; rfl, rfl⟩
    · -- the bytes are at an end
      have hkk : k = t.size := by omega
      subst hkk
      have hF : pu acc (bs.drop t.size) = some acc := by rw [List.drop_eq_nil_of_le (by omega)]; rfl
      rw [hF] at hdec
      subst ha
      clear hacc hF a0 a1 hp
      go_wp2
      go_ret2
      exact ⟨rfl, rfl⟩
theorem bytesWorld_below (w : World) (t : ByteArray) : Below w.heap.size w (Lib.bytesWorld w 5 t) := bytes_below (Below.refl _ _) (Nat.le_refl _) 5 t
/-- What ParseUint hands back: a number and no error; or 0 and an error. -/
def PuPost (r : Option Nat) (w : World) (e : Ending) (w' : World) : Prop :=
  Below w.heap.size w w' ∧ ((∃ n : Nat, r = some n ∧ e = .returned (.tuple #[.int .u64 n, .nilIface])) ∨ (r = none ∧ ∃ p, e = .returned (.tuple #[.int .u64 0, .iface 113 (.pointer (some p))])))
set_option maxHeartbeats 4000000 in
set_option maxRecDepth 100000 in
theorem parseUint_calls (t : ByteArray) (hne : t.size ≠ 0) (hmax : t.size ≤ 16) (w : World) (G : Glob w) :
    Calls Tryz.prog 46 #[.string t, .int .i64 10, .int .i64 62] w (PuPost (pu 0 t.data.toList) w) := by
  have HI := uint_inner t hne hmax w
  have hb := bytesWorld_below w t
  have G1 := G.below hb
  obtain ⟨ev, hv, hev⟩ := G1.syn
  have HE := strconv_toError_syntax ⟨#[80, 97, 114, 115, 101, 85, 105, 110, 116]⟩ t 10 62 ev (Lib.bytesWorld w 5 t) (by omega) hv hev
  generalize Lib.bytesWorld w 5 t = W1 at *
  have HE := Sd.mk HE
  have HB := Sd.mk hb
  clear hb hv hev G G1 hne hmax
  cases hr : pu 0 t.data.toList with
  | some n =>
    rw [hr] at HI
    simp only [puEnd] at HI
    have HI := Sd.mk HI
    clear hr
    go_enter Tryz.func46, Tryz.ntmps46
    go_wp2_with (go_at_call 84; refine HI.out.mono ?_; rintro e w1 ⟨rfl, rfl⟩)
    go_ret2
    exact ⟨HB.out, .inl ⟨n, rfl, rfl⟩⟩
  | none =>
    rw [hr] at HI
    simp only [puEnd] at HI
    have HI := Sd.mk HI
    clear hr
    go_enter Tryz.func46, Tryz.ntmps46
    go_wp2_with (first
      | (go_at_call 84; refine HI.out.mono ?_; rintro e w1 ⟨rfl, rfl⟩)
      | (go_at_call 85; refine HE.out.mono ?_; rintro e w1 ⟨N, rfl, _, _, hb1⟩; have HB2 := Sd.mk (HB.out.trans (hb1.mono HB.out.size)); clear hb1))
    go_ret2
    exact ⟨HB2.out, .inr ⟨rfl, _, rfl⟩⟩
end Go.Proofs.YtcmiehddjgfjaaaGreatDoor.A
namespace Go.Proofs.YtcmiehddjgfjaaaGreatDoor.V
open Go.RowKit Go.Proofs.YtcmiehddjgfjaaaGreatDoorW.PrintWords Go.Proofs.YtcmiehddjgfjaaaGreatDoorW.PrintLast Go.Proofs.YtcmiehddjgfjaaaGreatDoorW.PrintMore
set_option linter.unusedVariables false
set_option linter.unusedSimpArgs false
/-- The entries, in the order in which they were laid. -/
def ents : List (ByteArray × Value) → Nat → List MapEntry
  | [], _ => []
  | (s, v) :: l, n => { key := .string s, val := v, born := n } :: ents l (n + 1)
theorem ents_snoc (s : ByteArray) (v : Value) : ∀ (l : List (ByteArray × Value)) (n : Nat), ents (l ++ [(s, v)]) n = ents l n ++ [{ key := .string s, val := v, born := n + l.length }]
  | [], n => rfl
  | (t, u) :: l, n => by
    rw [List.cons_append, ents, ents, ents_snoc s v l (n + 1), List.cons_append, List.length_cons]
    congr 4; omega
theorem find_some (op : ByteArray) : ∀ (l : List (ByteArray × Value)) (n i : Nat), ∃ j, Instr.findNow .string (.string op) (ents l n) i = some ((l.lookup op).map fun v => (j, v))
  | [], n, i => ⟨0, rfl⟩
  | (s, v) :: l, n, i => by
    rw [ents, List.lookup_cons]
    unfold Instr.findNow
    simp only [Instr.sameNow]
    cases h : op == s with
    | true => exact ⟨i, rfl⟩
    | false => exact find_some op l (n + 1) (i + 1)
/-- Block r is the map of these entries. -/
def HM (w : World) (r : Nat) (l : List (ByteArray × Value)) : Prop := w.heap[r]? = some (.map (ents l 0).toArray l.length)
theorem HM.below {w w' : World} {r : Nat} {l : List (ByteArray × Value)} (h : HM w r l) (hb : Below w.heap.size w w') : HM w' r l :=
  (hb.block r (Array.getElem?_eq_some_iff.1 h).1).trans h
section
variable {P : Program} {w : World} {r : Nat} {l : List (ByteArray × Value)} {T ks el : TypeId}
theorem run_find (ht : P.underlying T = some (.map ks el)) (hs : P.underlying ks = some .string) (h : HM w r l) (s : ByteArray) (z : Value) (hz : (zeroValue el).run P w = .ok z w) :
    (Instr.lookup T (.map (some r)) (.string s) true).run P w = .ok (match l.lookup s with | some v => .tuple #[v, .bool true] | none => .tuple #[z, .bool false]) w := by
  obtain ⟨j, hf⟩ := find_some s l 0 0
  have hget : w.heap[r]? = some (.map (ents l 0).toArray l.length) := h
  have hfk : (Instr.findKey ks (.string s) (ents l 0)).run P w = .ok ((l.lookup s).map fun v => (j, v)) w := MapKept.run_findKey hs hf
  have hck : ∀ b, (Instr.checkKey b 10000 ks (.string s)).run P w = .ok () w := fun b => MapKept.run_checkKey hs (by simp [MapKept.IsKey]) b 9999
  cases hl : l.lookup s with
  | none =>
    rw [hl] at hfk
    simp [Instr.lookup, run_underlying ht, hck, MapKept.run_getObj_map hget, hfk, hz]
  | some v =>
    rw [hl] at hfk
    simp [Instr.lookup, run_underlying ht, hck, MapKept.run_getObj_map hget, hfk]
end
end Go.Proofs.YtcmiehddjgfjaaaGreatDoor.V
namespace Go.Proofs.YtcmiehddjgfjaaaGreatDoor.A
open Go.RowKit Go.Proofs.YtcmiehddjgfjaaaGreatDoorW.PrintWords Go.Proofs.YtcmiehddjgfjaaaGreatDoorW.PrintLast Go.Proofs.YtcmiehddjgfjaaaGreatDoorW.PrintMore Go.Proofs.YtcmiehddjgfjaaaGreatDoor.V
set_option linter.unusedVariables false
set_option linter.unusedSimpArgs false
abbrev vv (a : V) : Value := .agg #[.int .i64 a.1, .int .i64 a.2]
theorem blk_new2' (w : World) (o o' : Obj) : ((w.alloc o).alloc o').heap[w.heap.size + 1]? = some o' := by
  have := blk_new (w.alloc o) o'
  simpa using this
theorem fz_below {w w1 : World} (h : Below w.heap.size w w1) {a : Addr} {v : Value} (hc : w.cell? a = some v) (hf : w.frozen? a = false) : w1.frozen? a = false := (h.frozen (World.block_lt_of_cell? w a hc)).trans hf
def vPlain (F : Int → Int) (a : V) : V := if a.1 = 2 then a else if a.1 = 3 then a else vNum (F (vRank a))
/-- A function of a whole number. -/
def IsI (g : Nat) (F : Int → Int) : Prop := (∀ args w, (callFunc g args).run Tryz.prog w = .ok (.enter g args) w) ∧ ∀ w1 n, -1000000000000001 ≤ n → n ≤ 1000000000000001 → Calls Tryz.prog g #[.int .i64 n] w1 fun e w' => e = .returned (.int .i64 (F n)) ∧ Below w1.heap.size w1 w'
set_option maxHeartbeats 4000000 in
set_option maxRecDepth 100000 in
theorem plain1_calls (g : Nat) (F : Int → Int) (hI : IsI g F) (b : Nat) (a : V) (w : World) (hv : isV a) (hc : w.cell? ⟨b, 0, none⟩ = some (.func (.func g) #[] #[])) :
    Calls Tryz.prog 97 #[vv a, .pointer (some ⟨b, 0, none⟩)] w fun e w' => e = .returned (vv (vPlain F a)) ∧ Below w.heap.size w w' := by
  obtain ⟨eg, hf⟩ := hI
  have hlt : b < w.heap.size := World.block_lt_of_cell? w _ hc
  have hr := isV_rank hv
  obtain ⟨ak, an⟩ := a
  have HR := Sd.mk (rank_is (ak, an))
  have HF := Sd.mk hf
  have HRR := Sd.mk hr
  clear hf hr
  by_cases h2 : ak = 2
  · have e : vPlain F (ak, an) = (ak, an) := if_pos h2
    rw [e]
    have c1 : (ak == 2) = true := beq_iff_eq.2 h2
    clear h2 e HR HRR hv
    go_enter Tryz.func97, Tryz.ntmps97
    go_wp2
    refine bodyPost_ret (v := vv (ak, an)) (by simp [results, Tryz.results97, go_sem]) rfl ⟨rfl, ?_⟩
    repeat (first | exact Below.refl _ _ | (refine Below.alloc ?_ (by simp) _) | (refine Below.setCell ?_ (by simp) _))
  · have c1 : (ak == 2) = false := beq_eq_false_iff_ne.2 h2
    by_cases h3 : ak = 3
    · have e : vPlain F (ak, an) = (ak, an) := by unfold vPlain; rw [if_neg h2, if_pos h3]
      rw [e]
      have c2 : (ak == 3) = true := beq_iff_eq.2 h3
      clear h2 h3 e HR HRR hv
      go_enter Tryz.func97, Tryz.ntmps97
      go_wp2
      refine bodyPost_ret (v := vv (ak, an)) (by simp [results, Tryz.results97, go_sem]) rfl ⟨rfl, ?_⟩
      repeat (first | exact Below.refl _ _ | (refine Below.alloc ?_ (by simp) _) | (refine Below.setCell ?_ (by simp) _))
    · have e : vPlain F (ak, an) = vNum (F (vRank (ak, an))) := by unfold vPlain; rw [if_neg h2, if_neg h3]
      rw [e]
      obtain ⟨r1, r2, hrr⟩ : ∃ r1 r2, vNum (F (vRank (ak, an))) = (r1, r2) := ⟨_, _, rfl⟩
      have HBK := Sd.mk ((back_is (F (vRank (ak, an)))).trans (congrArg some hrr))
      rw [hrr]
      clear hrr
      obtain ⟨q, hq⟩ : ∃ q, vRank (ak, an) = q := ⟨_, rfl⟩
      rw [hq] at HR HRR HBK
      clear hq
      obtain ⟨fq, hfq⟩ : ∃ fq, F q = fq := ⟨_, rfl⟩
      have HFQ := Sd.mk (fun w1 (h0 : -1000000000000001 ≤ q) (h1 : q ≤ 1000000000000001) => HF.out w1 q h0 h1)
      rw [hfq] at HBK HFQ
      clear hfq
      have c2 : (ak == 3) = false := beq_eq_false_iff_ne.2 h3
      clear h2 h3 e hv
      go_enter Tryz.func97, Tryz.ntmps97
      go_wp2_with fail
      have hb0 : Below w.heap.size w ((w.alloc (.cells #[.int .i64 ak, .int .i64 an] 25)).alloc (.cells #[.int .i64 0, .int .i64 0] 25)) := ((Below.refl _ _).alloc (Nat.le_refl _) _).alloc (by simp) _
      have s0 : ((w.alloc (.cells #[.int .i64 ak, .int .i64 an] 25)).alloc (.cells #[.int .i64 0, .int .i64 0] 25)).heap.size = w.heap.size + 2 := by simp
      have cb : ((w.alloc (.cells #[.int .i64 ak, .int .i64 an] 25)).alloc (.cells #[.int .i64 0, .int .i64 0] 25)).cell? ⟨b, 0, none⟩ = some (.func (.func g) #[] #[]) := (hb0.cell hlt).trans hc
      have k0 : ((w.alloc (.cells #[.int .i64 ak, .int .i64 an] 25)).alloc (.cells #[.int .i64 0, .int .i64 0] 25)).cell? ⟨w.heap.size, 0, none⟩ = some (.int .i64 ak) := by simp
      have k1 : ((w.alloc (.cells #[.int .i64 ak, .int .i64 an] 25)).alloc (.cells #[.int .i64 0, .int .i64 0] 25)).cell? ⟨w.heap.size, 1, none⟩ = some (.int .i64 an) := by simp
      have r0 : ((w.alloc (.cells #[.int .i64 ak, .int .i64 an] 25)).alloc (.cells #[.int .i64 0, .int .i64 0] 25)).heap[w.heap.size + 1]? = some (.cells #[.int .i64 0, .int .i64 0] 25 (0, 0)) := blk_new2' _ _ _
      have m0 := cell_of_row _ _ 0 _ _ _ r0
      have m1 := cell_of_row _ _ 1 _ _ _ r0
      have z0 := blk_frozen r0 0
      have z1 := blk_frozen r0 1
      simp only [List.getElem?_toArray, List.getElem?_cons_zero, List.getElem?_cons_succ] at m0 m1
      have HB0 := Sd.mk hb0
      have RB := Sd.mk r0
      have SZ := Sd.mk s0
      generalize (w.alloc (.cells #[.int .i64 ak, .int .i64 an] 25)).alloc (.cells #[.int .i64 0, .int .i64 0] 25) = W2 at HB0 RB SZ cb k0 k1 m0 m1 z0 z1 ⊢
      clear hb0 r0 s0 hc
      have n0 : q ≤ 1000000000000001 := HRR.out.2
      have n1 : -1000000000000001 ≤ q := HRR.out.1
      go_region_with (first
          | (go_at_call 63; refine (v_rank.calls ak an q _ HR.out).mono ?_; rintro e w1 ⟨rfl, hb1⟩; have m0_ := m0; have m1_ := m1; have cb := pw_cell_below hb1 cb; have k0 := pw_cell_below hb1 k0; have k1 := pw_cell_below hb1 k1; have m0 := pw_cell_below hb1 m0_; have m1 := pw_cell_below hb1 m1_; have z0 := fz_below hb1 m0_ z0; have z1 := fz_below hb1 m1_ z1; clear m0_ m1_; have HB1 := Sd.mk (HB0.out.trans ((Below.refl W2.heap.size W2).drew.trans hb1 |>.mono HB0.out.size)); clear hb1)
          | (go_at_fn g; refine (HFQ.out _ n1 n0).mono ?_; rintro e w2 ⟨rfl, hb2⟩; have m0_ := m0; have m1_ := m1; have cb := pw_cell_below hb2 cb; have k0 := pw_cell_below hb2 k0; have k1 := pw_cell_below hb2 k1; have m0 := pw_cell_below hb2 m0_; have m1 := pw_cell_below hb2 m1_; have z0 := fz_below hb2 m0_ z0; have z1 := fz_below hb2 m1_ z1; clear m0_ m1_; have HB2 := Sd.mk (HB1.out.trans (hb2.mono HB1.out.size)); clear hb2)
          | (go_at_call 62; refine (v_back.calls fq r1 r2 _ HBK.out).mono ?_; rintro e w3 ⟨rfl, hb3⟩; have m0_ := m0; have m1_ := m1; have cb := pw_cell_below hb3 cb; have k0 := pw_cell_below hb3 k0; have k1 := pw_cell_below hb3 k1; have m0 := pw_cell_below hb3 m0_; have m1 := pw_cell_below hb3 m1_; have z0 := fz_below hb3 m0_ z0; have z1 := fz_below hb3 m1_ z1; clear m0_ m1_; have HB3 := Sd.mk (HB2.out.trans (hb3.mono HB2.out.size)); clear hb3))
      all_goals
        go_wp2_with fail
        exact bodyPost_ret (v := vv (r1, r2)) (by simp [results, Tryz.results97, go_sem, m0, m1]) rfl ⟨rfl, (HB3.out.setCell (by simp) _).setCell (by simp) _⟩
end Go.Proofs.YtcmiehddjgfjaaaGreatDoor.A
namespace Go.Proofs.YtcmiehddjgfjaaaGreatDoor.A
open Go.RowKit Go.Proofs.YtcmiehddjgfjaaaGreatDoorW.PrintWords Go.Proofs.YtcmiehddjgfjaaaGreatDoorW.PrintLast Go.Proofs.YtcmiehddjgfjaaaGreatDoorW.PrintMore Go.Proofs.YtcmiehddjgfjaaaGreatDoor.V
set_option linter.unusedVariables false
set_option linter.unusedSimpArgs false
theorem blk_new3' (w : World) (o o' o'' : Obj) : (((w.alloc o).alloc o').alloc o'').heap[w.heap.size + 2]? = some o'' := by
  have := blk_new ((w.alloc o).alloc o') o''
  simpa using this
theorem below_one (w : World) (o : Obj) : Below w.heap.size w (w.alloc o) := (Below.refl _ _).alloc (Nat.le_refl _) _
theorem below_two (w : World) (o o' : Obj) : Below w.heap.size w ((w.alloc o).alloc o') := (below_one w o).alloc (by simp) _
theorem cell_new0 (w : World) (a b : Value) (t : TypeId) : (w.alloc (.cells #[a, b] t)).cell? ⟨w.heap.size, 0, none⟩ = some a := by simp
theorem cell_new1 (w : World) (a b : Value) (t : TypeId) : (w.alloc (.cells #[a, b] t)).cell? ⟨w.heap.size, 1, none⟩ = some b := by simp
/-- A function of two values. -/
def IsP (g : Nat) (F : V → V → V) : Prop := (∀ args w, (callFunc g args).run Tryz.prog w = .ok (.enter g args) w) ∧ ∀ w1 a b, isV a → isV b → Calls Tryz.prog g #[vv a, vv b] w1 fun e w' => e = .returned (vv (F a b)) ∧ Below w1.heap.size w1 w'
def vNumbers (F : V → V → V) (a b : V) : V := if a.1 = 3 ∨ b.1 = 3 then (3, 0) else F a b
set_option maxHeartbeats 4000000 in
set_option maxRecDepth 100000 in
theorem numbers1_calls (g : Nat) (F : V → V → V) (hI : IsP g F) (b : Nat) (x y : V) (w : World) (hx : isV x) (hy : isV y) (hc : w.cell? ⟨b, 0, none⟩ = some (.func (.func g) #[] #[])) :
    Calls Tryz.prog 100 #[vv x, vv y, .pointer (some ⟨b, 0, none⟩)] w fun e w' => e = .returned (vv (vNumbers F x y)) ∧ Below w.heap.size w w' := by
  obtain ⟨eg, hf⟩ := hI
  have hlt : b < w.heap.size := World.block_lt_of_cell? w _ hc
  have HF := Sd.mk (fun w1 => hf w1 x y hx hy)
  clear hf hx hy
  obtain ⟨r1, r2, hrr⟩ : ∃ r1 r2, F x y = (r1, r2) := ⟨_, _, rfl⟩
  rw [hrr] at HF
  have e : vNumbers F x y = if x.1 = 3 ∨ y.1 = 3 then (3, 0) else (r1, r2) := by unfold vNumbers; rw [hrr]
  rw [e]
  clear e hrr
  obtain ⟨xk, xn⟩ := x
  obtain ⟨yk, yn⟩ := y
  have hb0 : Below w.heap.size w (((w.alloc (.cells #[.int .i64 xk, .int .i64 xn] 25)).alloc (.cells #[.int .i64 yk, .int .i64 yn] 25)).alloc (.cells #[.int .i64 0, .int .i64 0] 25)) := (((Below.refl _ _).alloc (Nat.le_refl _) _).alloc (by simp) _).alloc (by simp; omega) _
  have cb : (((w.alloc (.cells #[.int .i64 xk, .int .i64 xn] 25)).alloc (.cells #[.int .i64 yk, .int .i64 yn] 25)).alloc (.cells #[.int .i64 0, .int .i64 0] 25)).cell? ⟨b, 0, none⟩ = some (.func (.func g) #[] #[]) := (hb0.cell hlt).trans hc
  have k0 : (((w.alloc (.cells #[.int .i64 xk, .int .i64 xn] 25)).alloc (.cells #[.int .i64 yk, .int .i64 yn] 25)).alloc (.cells #[.int .i64 0, .int .i64 0] 25)).cell? ⟨w.heap.size, 0, none⟩ = some (.int .i64 xk) := pw_cell_below (below_two (w.alloc _) _ _) (cell_new0 w _ _ _)
  have k1 : (((w.alloc (.cells #[.int .i64 xk, .int .i64 xn] 25)).alloc (.cells #[.int .i64 yk, .int .i64 yn] 25)).alloc (.cells #[.int .i64 0, .int .i64 0] 25)).cell? ⟨w.heap.size, 1, none⟩ = some (.int .i64 xn) := pw_cell_below (below_two (w.alloc _) _ _) (cell_new1 w _ _ _)
  have l0 : (((w.alloc (.cells #[.int .i64 xk, .int .i64 xn] 25)).alloc (.cells #[.int .i64 yk, .int .i64 yn] 25)).alloc (.cells #[.int .i64 0, .int .i64 0] 25)).cell? ⟨w.heap.size + 1, 0, none⟩ = some (.int .i64 yk) := pw_cell_below (below_one ((w.alloc _).alloc _) _) (by simp)
  have l1 : (((w.alloc (.cells #[.int .i64 xk, .int .i64 xn] 25)).alloc (.cells #[.int .i64 yk, .int .i64 yn] 25)).alloc (.cells #[.int .i64 0, .int .i64 0] 25)).cell? ⟨w.heap.size + 1, 1, none⟩ = some (.int .i64 yn) := pw_cell_below (below_one ((w.alloc _).alloc _) _) (by simp)
  have r0 : (((w.alloc (.cells #[.int .i64 xk, .int .i64 xn] 25)).alloc (.cells #[.int .i64 yk, .int .i64 yn] 25)).alloc (.cells #[.int .i64 0, .int .i64 0] 25)).heap[w.heap.size + 2]? = some (.cells #[.int .i64 0, .int .i64 0] 25 (0, 0)) := blk_new3' _ _ _ _
  have m0 := cell_of_row _ _ 0 _ _ _ r0
  have m1 := cell_of_row _ _ 1 _ _ _ r0
  have z0 := blk_frozen r0 0
  have z1 := blk_frozen r0 1
  simp only [List.getElem?_toArray, List.getElem?_cons_zero, List.getElem?_cons_succ] at m0 m1
  have HB0 := Sd.mk hb0
  by_cases h1 : xk = 3
  · subst h1
    rw [if_pos (Or.inl rfl)]
    clear HF eg hc r0
    go_enter Tryz.func100, Tryz.ntmps100
    go_wp2_with fail
    generalize ((w.alloc (.cells #[.int .i64 3, .int .i64 xn] 25)).alloc (.cells #[.int .i64 yk, .int .i64 yn] 25)).alloc (.cells #[.int .i64 0, .int .i64 0] 25) = W2 at HB0 cb k0 k1 l0 l1 m0 m1 z0 z1 ⊢
    clear hb0
    go_wp2_with (go_at_call 25; refine (v_NaN.calls 3 0 _ (by rfl)).mono ?_; rintro e w1 ⟨rfl, hb1⟩; have m0_ := m0; have m1_ := m1; have m0 := pw_cell_below hb1 m0_; have m1 := pw_cell_below hb1 m1_; have z0 := fz_below hb1 m0_ z0; have z1 := fz_below hb1 m1_ z1; clear m0_ m1_; have HB1 := Sd.mk (HB0.out.trans (hb1.mono HB0.out.size)); clear hb1)
    exact bodyPost_ret (v := vv (3, 0)) (by simp [results, Tryz.results100, go_sem, m0, m1]) rfl ⟨rfl, (HB1.out.setCell (by simp; omega) _).setCell (by simp; omega) _⟩
  · have c1 : (xk == 3) = false := beq_eq_false_iff_ne.2 h1
    by_cases h2 : yk = 3
    · subst h2
      rw [if_pos (Or.inr rfl)]
      clear h1
      clear HF eg hc r0
      go_enter Tryz.func100, Tryz.ntmps100
      go_wp2_with fail
      generalize ((w.alloc (.cells #[.int .i64 xk, .int .i64 xn] 25)).alloc (.cells #[.int .i64 3, .int .i64 yn] 25)).alloc (.cells #[.int .i64 0, .int .i64 0] 25) = W2 at HB0 cb k0 k1 l0 l1 m0 m1 z0 z1 ⊢
      clear hb0
      go_wp2_with (go_at_call 25; refine (v_NaN.calls 3 0 _ (by rfl)).mono ?_; rintro e w1 ⟨rfl, hb1⟩; have m0_ := m0; have m1_ := m1; have m0 := pw_cell_below hb1 m0_; have m1 := pw_cell_below hb1 m1_; have z0 := fz_below hb1 m0_ z0; have z1 := fz_below hb1 m1_ z1; clear m0_ m1_; have HB1 := Sd.mk (HB0.out.trans (hb1.mono HB0.out.size)); clear hb1)
      exact bodyPost_ret (v := vv (3, 0)) (by simp [results, Tryz.results100, go_sem, m0, m1]) rfl ⟨rfl, (HB1.out.setCell (by simp; omega) _).setCell (by simp; omega) _⟩
    · have c2 : (yk == 3) = false := beq_eq_false_iff_ne.2 h2
      rw [if_neg (fun h => h.elim h1 h2)]
      clear h1 h2 hc r0
      go_enter Tryz.func100, Tryz.ntmps100
      go_wp2_with fail
      generalize ((w.alloc (.cells #[.int .i64 xk, .int .i64 xn] 25)).alloc (.cells #[.int .i64 yk, .int .i64 yn] 25)).alloc (.cells #[.int .i64 0, .int .i64 0] 25) = W2 at HB0 cb k0 k1 l0 l1 m0 m1 z0 z1 ⊢
      clear hb0
      go_wp2_with (go_at_fn g; refine (HF.out _).mono ?_; rintro e w1 ⟨rfl, hb1⟩; have m0_ := m0; have m1_ := m1; have m0 := pw_cell_below hb1 m0_; have m1 := pw_cell_below hb1 m1_; have z0 := fz_below hb1 m0_ z0; have z1 := fz_below hb1 m1_ z1; clear m0_ m1_; have HB1 := Sd.mk (HB0.out.trans (hb1.mono HB0.out.size)); clear hb1)
      exact bodyPost_ret (v := vv (r1, r2)) (by simp [results, Tryz.results100, go_sem, m0, m1]) rfl ⟨rfl, (HB1.out.setCell (by simp; omega) _).setCell (by simp; omega) _⟩
end Go.Proofs.YtcmiehddjgfjaaaGreatDoor.A
namespace Go.Proofs.YtcmiehddjgfjaaaGreatDoor.A
open Go.RowKit Go.Proofs.YtcmiehddjgfjaaaGreatDoorW.PrintWords Go.Proofs.YtcmiehddjgfjaaaGreatDoorW.PrintLast Go.Proofs.YtcmiehddjgfjaaaGreatDoorW.PrintMore Go.Proofs.YtcmiehddjgfjaaaGreatDoor.V
set_option linter.unusedVariables false
set_option linter.unusedSimpArgs false
theorem rank_calls (k n : Int) (w : World) : Calls Tryz.prog 63 #[.agg #[.int .i64 k, .int .i64 n]] w fun e w' => e = .returned (.int .i64 (vRank (k, n))) ∧ Below w.heap.size w w' := v_rank.calls k n _ w (rank_is (k, n))
/-- A test of two whole numbers. -/
def IsB (g : Nat) (F : Int → Int → Bool) : Prop := (∀ args w, (callFunc g args).run Tryz.prog w = .ok (.enter g args) w) ∧ ∀ w1 m n, Calls Tryz.prog g #[.int .i64 m, .int .i64 n] w1 fun e w' => e = .returned (.bool (F m n)) ∧ Drawn0 w1 w'
def vOrder (no : Bool) (F : Int → Int → Bool) (a b : V) : V := vTruth (if a.1 = 3 ∨ b.1 = 3 then no else F (vRank a) (vRank b))
set_option maxHeartbeats 4000000 in
set_option maxRecDepth 100000 in
theorem order1_calls (g : Nat) (no : Bool) (F : Int → Int → Bool) (hI : IsB g F) (b d : Nat) (x y : V) (w : World) (hc : w.cell? ⟨b, 0, none⟩ = some (.bool no)) (hd : w.cell? ⟨d, 0, none⟩ = some (.func (.func g) #[] #[])) :
    Calls Tryz.prog 105 #[vv x, vv y, .pointer (some ⟨b, 0, none⟩), .pointer (some ⟨d, 0, none⟩)] w fun e w' => e = .returned (vv (vOrder no F x y)) ∧ Below w.heap.size w w' := by
  obtain ⟨eg, hf⟩ := hI
  have hlt : b < w.heap.size := World.block_lt_of_cell? w _ hc
  have hlt' : d < w.heap.size := World.block_lt_of_cell? w _ hd
  obtain ⟨r1, r2, hrr⟩ : ∃ r1 r2, vOrder no F x y = (r1, r2) := ⟨_, _, rfl⟩
  have HT := Sd.mk ((truth_is (if x.1 = 3 ∨ y.1 = 3 then no else F (vRank x) (vRank y))).trans (congrArg some hrr))
  have HF := Sd.mk (fun w1 => hf w1 (vRank x) (vRank y))
  rw [hrr]
  clear hrr hf
  generalize F (vRank x) (vRank y) = fb at HF HT
  obtain ⟨xk, xn⟩ := x
  obtain ⟨yk, yn⟩ := y
  have hb0 : Below w.heap.size w (((w.alloc (.cells #[.int .i64 xk, .int .i64 xn] 25)).alloc (.cells #[.int .i64 yk, .int .i64 yn] 25)).alloc (.cells #[.int .i64 0, .int .i64 0] 25)) := (((Below.refl _ _).alloc (Nat.le_refl _) _).alloc (by simp) _).alloc (by simp; omega) _
  have cb : (((w.alloc (.cells #[.int .i64 xk, .int .i64 xn] 25)).alloc (.cells #[.int .i64 yk, .int .i64 yn] 25)).alloc (.cells #[.int .i64 0, .int .i64 0] 25)).cell? ⟨b, 0, none⟩ = some (.bool no) := (hb0.cell hlt).trans hc
  have cc : (((w.alloc (.cells #[.int .i64 xk, .int .i64 xn] 25)).alloc (.cells #[.int .i64 yk, .int .i64 yn] 25)).alloc (.cells #[.int .i64 0, .int .i64 0] 25)).cell? ⟨d, 0, none⟩ = some (.func (.func g) #[] #[]) := (hb0.cell hlt').trans hd
  have k0 : (((w.alloc (.cells #[.int .i64 xk, .int .i64 xn] 25)).alloc (.cells #[.int .i64 yk, .int .i64 yn] 25)).alloc (.cells #[.int .i64 0, .int .i64 0] 25)).cell? ⟨w.heap.size, 0, none⟩ = some (.int .i64 xk) := pw_cell_below (below_two (w.alloc _) _ _) (cell_new0 w _ _ _)
  have k1 : (((w.alloc (.cells #[.int .i64 xk, .int .i64 xn] 25)).alloc (.cells #[.int .i64 yk, .int .i64 yn] 25)).alloc (.cells #[.int .i64 0, .int .i64 0] 25)).cell? ⟨w.heap.size, 1, none⟩ = some (.int .i64 xn) := pw_cell_below (below_two (w.alloc _) _ _) (cell_new1 w _ _ _)
  have l0 : (((w.alloc (.cells #[.int .i64 xk, .int .i64 xn] 25)).alloc (.cells #[.int .i64 yk, .int .i64 yn] 25)).alloc (.cells #[.int .i64 0, .int .i64 0] 25)).cell? ⟨w.heap.size + 1, 0, none⟩ = some (.int .i64 yk) := pw_cell_below (below_one ((w.alloc _).alloc _) _) (by simp)
  have l1 : (((w.alloc (.cells #[.int .i64 xk, .int .i64 xn] 25)).alloc (.cells #[.int .i64 yk, .int .i64 yn] 25)).alloc (.cells #[.int .i64 0, .int .i64 0] 25)).cell? ⟨w.heap.size + 1, 1, none⟩ = some (.int .i64 yn) := pw_cell_below (below_one ((w.alloc _).alloc _) _) (by simp)
  have r0 : (((w.alloc (.cells #[.int .i64 xk, .int .i64 xn] 25)).alloc (.cells #[.int .i64 yk, .int .i64 yn] 25)).alloc (.cells #[.int .i64 0, .int .i64 0] 25)).heap[w.heap.size + 2]? = some (.cells #[.int .i64 0, .int .i64 0] 25 (0, 0)) := blk_new3' _ _ _ _
  have m0 := cell_of_row _ _ 0 _ _ _ r0
  have m1 := cell_of_row _ _ 1 _ _ _ r0
  have z0 := blk_frozen r0 0
  have z1 := blk_frozen r0 1
  simp only [List.getElem?_toArray, List.getElem?_cons_zero, List.getElem?_cons_succ] at m0 m1
  have HB0 := Sd.mk hb0
  by_cases h1 : xk = 3
  · subst h1
    rw [if_pos (Or.inl rfl)] at HT
    clear HF eg hc hd r0
    go_enter Tryz.func105, Tryz.ntmps105
    go_wp2_with fail
    generalize ((w.alloc (.cells #[.int .i64 3, .int .i64 xn] 25)).alloc (.cells #[.int .i64 yk, .int .i64 yn] 25)).alloc (.cells #[.int .i64 0, .int .i64 0] 25) = W2 at HB0 cb cc k0 k1 l0 l1 m0 m1 z0 z1 ⊢
    clear hb0
    go_wp2_with (go_at_call 21; refine (v_Truth.calls _ r1 r2 _ HT.out).mono ?_; rintro e w1 ⟨rfl, hb1⟩; have m0_ := m0; have m1_ := m1; have cb := pw_cell_below hb1 cb; have cc := pw_cell_below hb1 cc; have k0 := pw_cell_below hb1 k0; have k1 := pw_cell_below hb1 k1; have l0 := pw_cell_below hb1 l0; have l1 := pw_cell_below hb1 l1; have m0 := pw_cell_below hb1 m0_; have m1 := pw_cell_below hb1 m1_; have z0 := fz_below hb1 m0_ z0; have z1 := fz_below hb1 m1_ z1; clear m0_ m1_; have HB0 := Sd.mk (HB0.out.trans (hb1.mono HB0.out.size)); clear hb1)
    exact bodyPost_ret (v := vv (r1, r2)) (by simp [results, Tryz.results105, go_sem, m0, m1]) rfl ⟨rfl, (HB0.out.setCell (by simp; omega) _).setCell (by simp; omega) _⟩
  · have c1 : (xk == 3) = false := beq_eq_false_iff_ne.2 h1
    by_cases h2 : yk = 3
    · subst h2
      rw [if_pos (Or.inr rfl)] at HT
      clear h1
      clear HF eg hc hd r0
      go_enter Tryz.func105, Tryz.ntmps105
      go_wp2_with fail
      generalize ((w.alloc (.cells #[.int .i64 xk, .int .i64 xn] 25)).alloc (.cells #[.int .i64 3, .int .i64 yn] 25)).alloc (.cells #[.int .i64 0, .int .i64 0] 25) = W2 at HB0 cb cc k0 k1 l0 l1 m0 m1 z0 z1 ⊢
      clear hb0
      go_wp2_with (go_at_call 21; refine (v_Truth.calls _ r1 r2 _ HT.out).mono ?_; rintro e w1 ⟨rfl, hb1⟩; have m0_ := m0; have m1_ := m1; have cb := pw_cell_below hb1 cb; have cc := pw_cell_below hb1 cc; have k0 := pw_cell_below hb1 k0; have k1 := pw_cell_below hb1 k1; have l0 := pw_cell_below hb1 l0; have l1 := pw_cell_below hb1 l1; have m0 := pw_cell_below hb1 m0_; have m1 := pw_cell_below hb1 m1_; have z0 := fz_below hb1 m0_ z0; have z1 := fz_below hb1 m1_ z1; clear m0_ m1_; have HB0 := Sd.mk (HB0.out.trans (hb1.mono HB0.out.size)); clear hb1)
      exact bodyPost_ret (v := vv (r1, r2)) (by simp [results, Tryz.results105, go_sem, m0, m1]) rfl ⟨rfl, (HB0.out.setCell (by simp; omega) _).setCell (by simp; omega) _⟩
    · have c2 : (yk == 3) = false := beq_eq_false_iff_ne.2 h2
      rw [if_neg (fun h => h.elim h1 h2)] at HT
      clear h1 h2 hc hd r0
      go_enter Tryz.func105, Tryz.ntmps105
      go_wp2_with fail
      generalize ((w.alloc (.cells #[.int .i64 xk, .int .i64 xn] 25)).alloc (.cells #[.int .i64 yk, .int .i64 yn] 25)).alloc (.cells #[.int .i64 0, .int .i64 0] 25) = W2 at HB0 cb cc k0 k1 l0 l1 m0 m1 z0 z1 ⊢
      clear hb0
      go_region_with (first
          | (go_at_call 63; refine (rank_calls _ _ _).mono ?_; rintro e w1 ⟨rfl, hb1⟩; first | (have m0_ := m0; have m1_ := m1; have cb := pw_cell_below hb1 cb; have cc := pw_cell_below hb1 cc; have k0 := pw_cell_below hb1 k0; have k1 := pw_cell_below hb1 k1; have l0 := pw_cell_below hb1 l0; have l1 := pw_cell_below hb1 l1; have m0 := pw_cell_below hb1 m0_; have m1 := pw_cell_below hb1 m1_; have z0 := fz_below hb1 m0_ z0; have z1 := fz_below hb1 m1_ z1; clear m0_ m1_; have HB0 := Sd.mk (HB0.out.trans (hb1.mono HB0.out.size)); clear hb1) | (have m0_ := m0; have m1_ := m1; have cb := pw_cell_below hb1 cb; have cc := pw_cell_below hb1 cc; have k0 := pw_cell_below hb1 k0; have k1 := pw_cell_below hb1 k1; have l0 := pw_cell_below hb1 l0; have l1 := pw_cell_below hb1 l1; have m0 := pw_cell_below hb1 m0_; have m1 := pw_cell_below hb1 m1_; have z0 := fz_below hb1 m0_ z0; have z1 := fz_below hb1 m1_ z1; clear m0_ m1_; have HB0 := Sd.mk (HB0.out.trans (((Below.refl _ _).drew.trans hb1).mono HB0.out.size)); clear hb1))
          | (go_at_fn g; refine (HF.out _).mono ?_; rintro e w1 ⟨rfl, hb1'⟩; have hb1 := hb1'.below; clear hb1'; have m0_ := m0; have m1_ := m1; have cb := pw_cell_below hb1 cb; have cc := pw_cell_below hb1 cc; have k0 := pw_cell_below hb1 k0; have k1 := pw_cell_below hb1 k1; have l0 := pw_cell_below hb1 l0; have l1 := pw_cell_below hb1 l1; have m0 := pw_cell_below hb1 m0_; have m1 := pw_cell_below hb1 m1_; have z0 := fz_below hb1 m0_ z0; have z1 := fz_below hb1 m1_ z1; clear m0_ m1_; have HB0 := Sd.mk (HB0.out.trans (hb1.mono HB0.out.size)); clear hb1)
          | (go_at_call 21; refine (v_Truth.calls _ r1 r2 _ HT.out).mono ?_; rintro e w1 ⟨rfl, hb1⟩; have m0_ := m0; have m1_ := m1; have cb := pw_cell_below hb1 cb; have cc := pw_cell_below hb1 cc; have k0 := pw_cell_below hb1 k0; have k1 := pw_cell_below hb1 k1; have l0 := pw_cell_below hb1 l0; have l1 := pw_cell_below hb1 l1; have m0 := pw_cell_below hb1 m0_; have m1 := pw_cell_below hb1 m1_; have z0 := fz_below hb1 m0_ z0; have z1 := fz_below hb1 m1_ z1; clear m0_ m1_; have HB0 := Sd.mk (HB0.out.trans (hb1.mono HB0.out.size)); clear hb1))
      all_goals
        go_wp2_with fail
        exact bodyPost_ret (v := vv (r1, r2)) (by simp [results, Tryz.results105, go_sem, m0, m1]) rfl ⟨rfl, (HB0.out.setCell (by simp; omega) _).setCell (by simp; omega) _⟩
end Go.Proofs.YtcmiehddjgfjaaaGreatDoor.A
namespace Go.Proofs.YtcmiehddjgfjaaaGreatDoor.A
open Go.RowKit Go.Proofs.YtcmiehddjgfjaaaGreatDoorW.PrintWords Go.Proofs.YtcmiehddjgfjaaaGreatDoorW.PrintLast Go.Proofs.YtcmiehddjgfjaaaGreatDoorW.PrintMore Go.Proofs.YtcmiehddjgfjaaaGreatDoor.V
set_option linter.unusedVariables false
set_option linter.unusedSimpArgs false
def layC_ren : Go.Shelf.Ren := ⟨fun | 29 => 126 | 31 => 99 | n => n, fun | 22 => 103 | 23 => 3 | n => n, fun | n => n⟩
theorem layC : Go.Proofs.SlLaysE.n31 Tryz.prog layC_ren := {
  mixed := by kernel_rfl
  f29 := ⟨Tryz.f126.name, by decide, Tryz.func126.trans (congrArg some (by kernel_rfl))⟩
  f31 := ⟨Tryz.f99.name, by decide, Tryz.func99.trans (congrArg some (by kernel_rfl))⟩
  t0 := Tryz.underlying0
  a0 := Tryz.isAgg0
  z0 := Tryz.sizeOf0
  v0 := Tryz.zeroValue0
  t3 := Tryz.underlying3
  a3 := Tryz.isAgg3
  z3 := Tryz.sizeOf3
  v3 := Tryz.zeroValue3
  t4 := Tryz.underlying4
  a4 := Tryz.isAgg4
  z4 := Tryz.sizeOf4
  v4 := Tryz.zeroValue4
  t22 := Tryz.underlying103
  a22 := Tryz.isAgg103
  z22 := Tryz.sizeOf103
  v22 := Tryz.zeroValue103
  a23 := Tryz.isAgg3
  z23 := Tryz.sizeOf3 }
def vKind (ks : List Int) (a : V) : V := vTruth (ks.any fun y => a.1 == y)
set_option maxHeartbeats 4000000 in
set_option maxRecDepth 100000 in
theorem kind1_calls (ks : List Int) (bb cap b : Nat) (x : V) (w : World) (hl : ks.length ≤ 9223372036854775807) (hc : w.cell? ⟨b, 0, none⟩ = some (.slice (some ⟨bb, 0, none⟩) ks.length cap)) (hk : ∀ j, j < ks.length → w.cell? ⟨bb, j, none⟩ = some (.int .i64 ks[j]!)) :
    Calls Tryz.prog 98 #[vv x, .pointer (some ⟨b, 0, none⟩)] w fun e w' => e = .returned (vv (vKind ks x)) ∧ Below w.heap.size w w' := by
  have hlt : b < w.heap.size := World.block_lt_of_cell? w _ hc
  obtain ⟨xk, xn⟩ := x
  have HCON := Sd.mk (fun (w1 : World) (h1 : Below w.heap.size w w1) => AnyE.slices_Contains layC (Value.int .i64) (fun x y => x == y) (EqlAt.int _ _ .i64) bb 0 ks.length cap ks xk w1 (Nat.le_refl _) hl (fun j hj => (h1.cell (p := ⟨bb, 0 + j, none⟩) (World.block_lt_of_cell? w ⟨bb, j, none⟩ (hk j hj))).trans (by rw [Nat.zero_add]; exact hk j hj)))
  obtain ⟨r1, r2, hrr⟩ : ∃ r1 r2, vKind ks (xk, xn) = (r1, r2) := ⟨_, _, rfl⟩
  have HT := Sd.mk ((truth_is (ks.any fun y => xk == y)).trans (congrArg some hrr))
  rw [hrr]
  clear hrr hk
  rw [List.take_length] at HCON
  generalize (ks.any fun y => xk == y) = q at HT HCON
  generalize ks.length = n at hc HCON
  have hb0 : Below w.heap.size w ((w.alloc (.cells #[.int .i64 xk, .int .i64 xn] 25)).alloc (.cells #[.int .i64 0, .int .i64 0] 25)) := below_two w _ _
  have cb : ((w.alloc (.cells #[.int .i64 xk, .int .i64 xn] 25)).alloc (.cells #[.int .i64 0, .int .i64 0] 25)).cell? ⟨b, 0, none⟩ = some (.slice (some ⟨bb, 0, none⟩) n cap) := (hb0.cell hlt).trans hc
  have k0 : ((w.alloc (.cells #[.int .i64 xk, .int .i64 xn] 25)).alloc (.cells #[.int .i64 0, .int .i64 0] 25)).cell? ⟨w.heap.size, 0, none⟩ = some (.int .i64 xk) := pw_cell_below (below_one (w.alloc _) _) (cell_new0 w _ _ _)
  have r0 : ((w.alloc (.cells #[.int .i64 xk, .int .i64 xn] 25)).alloc (.cells #[.int .i64 0, .int .i64 0] 25)).heap[w.heap.size + 1]? = some (.cells #[.int .i64 0, .int .i64 0] 25 (0, 0)) := blk_new2' _ _ _
  have m0 := cell_of_row _ _ 0 _ _ _ r0
  have m1 := cell_of_row _ _ 1 _ _ _ r0
  have z0 := blk_frozen r0 0
  have z1 := blk_frozen r0 1
  simp only [List.getElem?_toArray, List.getElem?_cons_zero, List.getElem?_cons_succ] at m0 m1
  have HB0 := Sd.mk hb0
  clear hc r0 hl
  go_enter Tryz.func98, Tryz.ntmps98
  go_wp2_with fail
  generalize (w.alloc (.cells #[.int .i64 xk, .int .i64 xn] 25)).alloc (.cells #[.int .i64 0, .int .i64 0] 25) = W2 at HB0 cb k0 m0 m1 z0 z1 ⊢
  clear hb0
  go_wp2_with (first
    | (go_at_call 99; refine (HCON.out _ HB0.out).mono ?_; rintro e w' ⟨rfl, rfl⟩)
    | (go_at_call 21; refine (v_Truth.calls _ r1 r2 _ HT.out).mono ?_; rintro e w1 ⟨rfl, hb1⟩; have m0_ := m0; have m1_ := m1; have m0 := pw_cell_below hb1 m0_; have m1 := pw_cell_below hb1 m1_; have z0 := fz_below hb1 m0_ z0; have z1 := fz_below hb1 m1_ z1; clear m0_ m1_; have HB0 := Sd.mk (HB0.out.trans (hb1.mono HB0.out.size)); clear hb1))
  exact bodyPost_ret (v := vv (r1, r2)) (by simp [results, Tryz.results98, go_sem, m0, m1]) rfl ⟨rfl, (HB0.out.setCell (by simp) _).setCell (by simp) _⟩
end Go.Proofs.YtcmiehddjgfjaaaGreatDoor.A
namespace Go.Proofs.YtcmiehddjgfjaaaGreatDoor.V
open Go.RowKit Go.Proofs.YtcmiehddjgfjaaaGreatDoorW.PrintWords Go.Proofs.YtcmiehddjgfjaaaGreatDoorW.PrintLast Go.Proofs.YtcmiehddjgfjaaaGreatDoorW.PrintMore
set_option linter.unusedVariables false
set_option linter.unusedSimpArgs false
/-- All blocks but r are as they were. -/
def Keeps (r : Nat) (w w1 : World) : Prop := w.heap.size ≤ w1.heap.size ∧ ∀ b, b < w.heap.size → b ≠ r → w1.heap[b]? = w.heap[b]?
theorem Keeps.refl (r : Nat) (w : World) : Keeps r w w := ⟨Nat.le_refl _, fun _ _ _ => rfl⟩
theorem Keeps.trans {r : Nat} {w w1 w2 : World} (h : Keeps r w w1) (h' : Keeps r w1 w2) : Keeps r w w2 := ⟨Nat.le_trans h.1 h'.1, fun b hb hn => (h'.2 b (Nat.lt_of_lt_of_le hb h.1) hn).trans (h.2 b hb hn)⟩
theorem Keeps.of_below {r : Nat} {w w1 : World} (h : Below w.heap.size w w1) : Keeps r w w1 := ⟨h.size, fun b hb _ => h.block b hb⟩
theorem cell_of_block {w w1 : World} {a : Addr} (h : w1.heap[a.block]? = w.heap[a.block]?) : w1.cell? a = w.cell? a := by
  unfold World.cell?
  rw [h]
theorem Keeps.cell {r : Nat} {w w1 : World} (h : Keeps r w w1) {b o : Nat} {v : Value} (hn : b ≠ r) (hc : w.cell? ⟨b, o, none⟩ = some v) : w1.cell? ⟨b, o, none⟩ = some v :=
  (cell_of_block (a := ⟨b, o, none⟩) (h.2 b (World.block_lt_of_cell? w _ hc) hn)).trans hc
section
variable {P : Program} {w : World} {r : Nat} {l : List (ByteArray × Value)} {T ks el : TypeId}
theorem run_insertK (ht : P.underlying T = some (.map ks el)) (hs : P.underlying ks = some .string) (h : HM w r l) (s : ByteArray) (v : Value) (hno : l.lookup s = none) :
    ∃ w', (Instr.mapUpdate T (.map (some r)) (.string s) v).run P w = .ok () w' ∧ HM w' r (l ++ [(s, v)]) ∧ (∀ B w0, B ≤ r → Below B w0 w → Below B w0 w') ∧ Keeps r w w' := by
  have hlt : r < w.heap.size := (Array.getElem?_eq_some_iff.1 h).1
  obtain ⟨j, hf⟩ := find_some s l 0 0
  rw [hno] at hf
  refine ⟨{ w with heap := w.heap.setIfInBounds r (.map ((ents l 0).toArray.push { key := .string s, val := v, born := l.length }) (l.length + 1)) }, ?_, ?_, ?_, ?_⟩
  · have hget : w.heap[r]? = some (.map (ents l 0).toArray l.length) := h
    have hfk : (Instr.findKey ks (.string s) (ents l 0)).run P w = .ok none w := MapKept.run_findKey hs hf
    have hck : (Instr.checkKey false 10000 ks (.string s)).run P w = .ok () w := MapKept.run_checkKey hs (by simp [MapKept.IsKey]) false 9999
    have hst := fun o => MapKept.run_setObj_map (P := P) o hget
    simp [Instr.mapUpdate, run_underlying ht, hck, MapKept.run_getObj_map hget, hst, hfk]
  · unfold HM
    simp [hlt, ents_snoc]
  · intro B w0 hB hb
    refine hb.trans ⟨rfl, rfl, rfl, by simp, fun k hk => ?_⟩
    simp only
    rw [Array.getElem?_setIfInBounds_ne (by omega)]
  · refine ⟨by simp, fun b hb hn => ?_⟩
    simp only
    rw [Array.getElem?_setIfInBounds_ne (by omega)]
end
section
variable {P : Program} {ops : Array Oper} {rest : List Oper} {o : Oper} {a : Act} {Q : Exit → Act → World → Prop} {w w0 : World} {r B : Nat} {l : List (ByteArray × Value)} {T ks el : TypeId}
/-- One entry more, in a literal. -/
theorem wpList_insertK (s : ByteArray) {m v : Operand} (hd : o.dst = none) (hgd : o.guard = none) (ho : o.op = .insert T m (.const (.string s)) v) (ht : P.underlying T = some (.map ks el)) (hs : P.underlying ks = some .string)
    (u : Value) (hm : a.eval m = .map (some r)) (hv : a.eval v = u) (h : HM w r l) (hno : l.lookup s = none) (hB : B ≤ r) (HB : Below B w0 w)
    (hK : ∀ w', HM w' r (l ++ [(s, u)]) → Below B w0 w' → Keeps r w w' → wpList P ops Q rest a w') : wpList P ops Q (o :: rest) a w := by
  subst hv
  obtain ⟨w', h1, h2, h3, h4⟩ := run_insertK ht hs h s (a.eval v) hno
  refine wpList_plain hgd fun K hK' => ?_
  unfold Oper.wp execOp
  have hc : a.eval (.const (.string s)) = .string s := rfl
  simp only [ho, hm, hc, Sem.run_bind, Sem.run_pure, Result.andThen_ok, h1]
  show K (a.put o.dst undef) _
  rw [hd]
  exact hK' a _ (hK w' h2 (h3 B w0 hB HB) h4)
end
end Go.Proofs.YtcmiehddjgfjaaaGreatDoor.V
namespace Go.Proofs.YtcmiehddjgfjaaaGreatDoor.A
open Go.RowKit Go.Proofs.YtcmiehddjgfjaaaGreatDoorW.PrintWords Go.Proofs.YtcmiehddjgfjaaaGreatDoorW.PrintLast Go.Proofs.YtcmiehddjgfjaaaGreatDoorW.PrintMore Go.Proofs.YtcmiehddjgfjaaaGreatDoor.V
set_option linter.unusedVariables false
set_option linter.unusedSimpArgs false
/-- f tells F of a value, in whatever world in which all but block r lies as it does here. -/
def At1 (f : Value) (r : Nat) (w : World) (F : V → V) : Prop := ∃ (g : Nat) (cb : Array Value), f = .func (.func g) #[] cb ∧ (∀ args w, (callFunc g args).run Tryz.prog w = .ok (.enter g args) w) ∧
  ∀ w1, Keeps r w w1 → ∀ a, isV a → Calls Tryz.prog g (#[vv a] ++ cb) w1 fun e w' => e = .returned (vv (F a)) ∧ Below w1.heap.size w1 w'
def At2 (f : Value) (r : Nat) (w : World) (F : V → V → V) : Prop := ∃ (g : Nat) (cb : Array Value), f = .func (.func g) #[] cb ∧ (∀ args w, (callFunc g args).run Tryz.prog w = .ok (.enter g args) w) ∧
  ∀ w1, Keeps r w w1 → ∀ a b, isV a → isV b → Calls Tryz.prog g (#[vv a, vv b] ++ cb) w1 fun e w' => e = .returned (vv (F a b)) ∧ Below w1.heap.size w1 w'
theorem At1.keeps {f : Value} {r : Nat} {w w' : World} {F : V → V} (h : At1 f r w F) (hb : Keeps r w w') : At1 f r w' F := by
  obtain ⟨g, cb, rfl, eg, hc⟩ := h
  exact ⟨g, cb, rfl, eg, fun w1 h1 => hc w1 (hb.trans h1)⟩
theorem At2.keeps {f : Value} {r : Nat} {w w' : World} {F : V → V → V} (h : At2 f r w F) (hb : Keeps r w w') : At2 f r w' F := by
  obtain ⟨g, cb, rfl, eg, hc⟩ := h
  exact ⟨g, cb, rfl, eg, fun w1 h1 => hc w1 (hb.trans h1)⟩
set_option maxRecDepth 100000 in
theorem plain_calls (g : Nat) (F : Int → Int) (hI : IsI g F) (r : Nat) (w : World) (hr : r < w.heap.size) :
    Calls Tryz.prog 52 #[.func (.func g) #[] #[]] w fun e w' => ∃ f, e = .returned f ∧ At1 f r w' (vPlain F) ∧ Below w.heap.size w w' := by
  have HI := Sd.mk hI
  clear hI
  go_enter Tryz.func52, Tryz.ntmps52
  go_wp2
  go_ret
  refine ⟨_, rfl, ⟨97, #[.pointer (some ⟨w.heap.size, 0, none⟩)], rfl, enters_of Tryz.func97 (by kernel_rfl) rfl, fun w1 h1 a ha => ?_⟩, below_one w _⟩
  exact plain1_calls g F HI.out w.heap.size a w1 ha (h1.cell (by omega) (by simp))
set_option maxRecDepth 100000 in
theorem numbers_calls (g : Nat) (F : V → V → V) (hI : IsP g F) (r : Nat) (w : World) (hr : r < w.heap.size) :
    Calls Tryz.prog 59 #[.func (.func g) #[] #[]] w fun e w' => ∃ f, e = .returned f ∧ At2 f r w' (vNumbers F) ∧ Below w.heap.size w w' := by
  have HI := Sd.mk hI
  clear hI
  go_enter Tryz.func59, Tryz.ntmps59
  go_wp2
  go_ret
  refine ⟨_, rfl, ⟨100, #[.pointer (some ⟨w.heap.size, 0, none⟩)], rfl, enters_of Tryz.func100 (by kernel_rfl) rfl, fun w1 h1 a b ha hb => ?_⟩, below_one w _⟩
  exact numbers1_calls g F HI.out w.heap.size a b w1 ha hb (h1.cell (by omega) (by simp))
set_option maxRecDepth 100000 in
theorem order_calls (no : Bool) (g : Nat) (F : Int → Int → Bool) (hI : IsB g F) (r : Nat) (w : World) (hr : r < w.heap.size) :
    Calls Tryz.prog 66 #[.bool no, .func (.func g) #[] #[]] w fun e w' => ∃ f, e = .returned f ∧ At2 f r w' (vOrder no F) ∧ Below w.heap.size w w' := by
  have HI := Sd.mk hI
  clear hI
  go_enter Tryz.func66, Tryz.ntmps66
  go_wp2
  go_ret
  refine ⟨_, rfl, ⟨105, #[.pointer (some ⟨w.heap.size, 0, none⟩), .pointer (some ⟨w.heap.size + 1, 0, none⟩)], rfl, enters_of Tryz.func105 (by kernel_rfl) rfl, fun w1 h1 a b ha hb => ?_⟩, below_two w _ _⟩
  exact order1_calls g no F HI.out w.heap.size (w.heap.size + 1) a b w1 (h1.cell (by omega) (by simp)) (h1.cell (by omega) (by simp))
set_option maxRecDepth 100000 in
theorem kind_calls (ks : List Int) (bb cap r : Nat) (w : World) (hr : r < w.heap.size) (hbr : bb ≠ r) (hl : ks.length ≤ 9223372036854775807) (hk : ∀ j, j < ks.length → w.cell? ⟨bb, j, none⟩ = some (.int .i64 ks[j]!)) :
    Calls Tryz.prog 58 #[.slice (some ⟨bb, 0, none⟩) ks.length cap] w fun e w' => ∃ f, e = .returned f ∧ At1 f r w' (vKind ks) ∧ Below w.heap.size w w' := by
  have HK := Sd.mk hk
  clear hk
  go_enter Tryz.func58, Tryz.ntmps58
  go_wp2
  go_ret
  refine ⟨_, rfl, ⟨98, #[.pointer (some ⟨w.heap.size, 0, none⟩)], rfl, enters_of Tryz.func98 (by kernel_rfl) rfl, fun w1 h1 a ha => ?_⟩, below_one w _⟩
  exact kind1_calls ks bb cap w.heap.size a w1 hl (h1.cell (by omega) (by simp)) fun j hj => h1.cell hbr (pw_cell_below (below_one w _) (HK.out j hj))
theorem ones1_is : IsI 53 (fun n => -n) := ⟨enters_of Tryz.func53 (by kernel_rfl) rfl, fun w1 n h0 h1 => by
  refine (v_ones_1.calls n (-n) w1 ?_).mono fun e w' h => ⟨h.1, h.2.below⟩
  unfold v_ones_1.f
  rw [wrap_id (by omega) (by omega)]⟩
def vMax (n : Int) : Int := if n < -n then -n else n
theorem ones2_is : IsI 54 vMax := ⟨enters_of Tryz.func54 (by kernel_rfl) rfl, fun w1 n h0 h1 => by
  refine v_ones_2.calls n (vMax n) w1 ?_
  unfold v_ones_2.f
  rw [wrap_id (by omega) (by omega)]; rfl⟩
def vFloor (a : V) : V := if a.1 = 1 then vNum (a.2 - (a.2.tmod 1000 + 1000).tmod 1000) else a
def vNot (a : V) : V := if a.1 = 2 then a else vTruth (!vTrue a)
theorem tmod_bd (x : Int) : -1000 < x.tmod 1000 ∧ x.tmod 1000 < 1000 := ⟨Int.lt_tmod_of_pos x (by decide), Int.tmod_lt_of_pos x (by decide)⟩
theorem ones3_is {a : V} (ha : isV a) : v_ones_3.f a.1 a.2 = some (vFloor a) := by
  unfold v_ones_3.f vFloor
  have e : v_finite.f a.1 a.2 = some (decide (a.1 = 1)) := by
    unfold v_finite.f
    first | rfl | (congr 1)
  rw [e]
  show (if decide (a.1 = 1) = true then _ else _) = _
  by_cases h : a.1 = 1
  · have hb : -1000000000000000 ≤ a.2 ∧ a.2 ≤ 1000000000000000 := by
      rcases ha with ⟨_, h1, h2⟩ | ⟨_, h2⟩
      · exact ⟨h1, h2⟩
      · omega
    rw [if_pos (decide_eq_true h), if_pos h]
    have t1 := tmod_bd a.2
    have t2 := tmod_bd (a.2.tmod 1000 + 1000)
    have e1 : wrap64 (a.2.tmod 1000 + 1000) = a.2.tmod 1000 + 1000 := wrap_id (by omega) (by omega)
    rw [e1, wrap_id (by omega) (by omega), num_is]; rfl
  · rw [if_neg (by simpa using h), if_neg h]
theorem ones4_is (a : V) : v_ones_4.f a.1 a.2 = some (vNot a) := by
  unfold v_ones_4.f vNot
  rw [true_is a]
  by_cases h : a.1 = 2
  · rw [if_pos h, if_pos h]
  · rw [if_neg h, if_neg h]
    show (v_Truth.f (!vTrue a)).bind _ = _
    rw [truth_is]; rfl
theorem is1_ones3 (r : Nat) (w : World) : At1 (.func (.func 55) #[] #[]) r w vFloor := ⟨_, _, rfl, enters_of Tryz.func55 (by kernel_rfl) rfl, fun w1 _ a ha => v_ones_3.calls a.1 a.2 _ _ w1 (ones3_is ha)⟩
theorem is1_ones4 (r : Nat) (w : World) : At1 (.func (.func 57) #[] #[]) r w vNot := ⟨_, _, rfl, enters_of Tryz.func57 (by kernel_rfl) rfl, fun w1 _ a ha => v_ones_4.calls a.1 a.2 _ _ w1 (ones4_is a)⟩
theorem add_isP : IsP 60 vAdd := ⟨enters_of Tryz.func60 (by kernel_rfl) rfl, fun w1 a b ha hb => v_add.calls 3 a.1 a.2 b.1 b.2 _ _ w1 (add_is ha hb)⟩
theorem mul_isP : IsP 64 vMul := ⟨enters_of Tryz.func64 (by kernel_rfl) rfl, fun w1 a b ha hb => v_mul.calls 1 a.1 a.2 b.1 b.2 _ _ w1 (mul_is ha hb)⟩
theorem div_isP : IsP 65 vDiv := ⟨enters_of Tryz.func65 (by kernel_rfl) rfl, fun w1 a b ha hb => v_div.calls 2 a.1 a.2 b.1 b.2 _ _ w1 (div_is ha hb)⟩
def vSub (a b : V) : V := vAdd a (vNum (-vRank b))
theorem sub_is {a b : V} (ha : isV a) (hb : isV b) : v_twos_1.f 3 a.1 a.2 b.1 b.2 = some (vSub a b) := by
  have hr := isV_rank hb
  unfold v_twos_1.f vSub
  rw [rank_is b]
  show (v_back.f (wrap64 (-vRank b))).bind _ = _
  rw [wrap_id (by omega) (by omega), back_is]
  show (v_add.f 3 a.1 a.2 (vNum (-vRank b)).1 (vNum (-vRank b)).2).bind _ = _
  rw [add_is ha isV_num]; rfl
theorem sub_isP : IsP 61 vSub := ⟨enters_of Tryz.func61 (by kernel_rfl) rfl, fun w1 a b ha hb => v_twos_1.calls 3 a.1 a.2 b.1 b.2 _ _ w1 (sub_is ha hb)⟩
theorem eq_isB : IsB 67 (fun m n => m == n) := ⟨enters_of Tryz.func67 (by kernel_rfl) rfl, fun w1 m n => v_twos_2.calls m n _ w1 rfl⟩
theorem ne_isB : IsB 68 (fun m n => m != n) := ⟨enters_of Tryz.func68 (by kernel_rfl) rfl, fun w1 m n => v_twos_3.calls m n _ w1 rfl⟩
theorem lt_isB : IsB 69 (fun m n => decide (m < n)) := ⟨enters_of Tryz.func69 (by kernel_rfl) rfl, fun w1 m n => v_twos_4.calls m n _ w1 rfl⟩
theorem le_isB : IsB 70 (fun m n => decide (m ≤ n)) := ⟨enters_of Tryz.func70 (by kernel_rfl) rfl, fun w1 m n => v_twos_5.calls m n _ w1 rfl⟩
theorem gt_isB : IsB 71 (fun m n => decide (m > n)) := ⟨enters_of Tryz.func71 (by kernel_rfl) rfl, fun w1 m n => v_twos_6.calls m n _ w1 rfl⟩
theorem ge_isB : IsB 72 (fun m n => decide (m ≥ n)) := ⟨enters_of Tryz.func72 (by kernel_rfl) rfl, fun w1 m n => v_twos_7.calls m n _ w1 rfl⟩
def vAnd (a b : V) : V := vTruth (vTrue a && vTrue b)
def vOr (a b : V) : V := vTruth (vTrue a || vTrue b)
theorem and_is (a b : V) : v_twos_8.f a.1 a.2 b.1 b.2 = some (vAnd a b) := by
  unfold v_twos_8.f vAnd
  rw [true_is a, true_is b]
  cases vTrue a <;> simp [truth_is]
theorem or_is (a b : V) : v_twos_9.f a.1 a.2 b.1 b.2 = some (vOr a b) := by
  unfold v_twos_9.f vOr
  rw [true_is a, true_is b]
  cases vTrue a <;> simp [truth_is]
theorem is2_and (r : Nat) (w : World) : At2 (.func (.func 73) #[] #[]) r w vAnd := ⟨_, _, rfl, enters_of Tryz.func73 (by kernel_rfl) rfl, fun w1 _ a b ha hb => v_twos_8.calls a.1 a.2 b.1 b.2 _ _ w1 (and_is a b)⟩
theorem is2_or (r : Nat) (w : World) : At2 (.func (.func 74) #[] #[]) r w vOr := ⟨_, _, rfl, enters_of Tryz.func74 (by kernel_rfl) rfl, fun w1 _ a b ha hb => v_twos_9.calls a.1 a.2 b.1 b.2 _ _ w1 (or_is a b)⟩
def oneI (g : Nat) : Int → Int := if g = 53 then (fun n => -n) else vMax
theorem oneI_is {g : Nat} (h : g = 53 ∨ g = 54) : IsI g (oneI g) := by
  rcases h with rfl | rfl
  · exact ones1_is
  · exact ones2_is
def twoP (g : Nat) : V → V → V := if g = 60 then vAdd else if g = 61 then vSub else if g = 64 then vMul else vDiv
theorem twoP_is {g : Nat} (h : g = 60 ∨ g = 61 ∨ g = 64 ∨ g = 65) : IsP g (twoP g) := by
  rcases h with rfl | rfl | rfl | rfl
  · exact add_isP
  · exact sub_isP
  · exact mul_isP
  · exact div_isP
def twoB (g : Nat) : Int → Int → Bool := if g = 67 then (fun m n => m == n) else if g = 68 then (fun m n => m != n) else if g = 69 then (fun m n => decide (m < n)) else if g = 70 then (fun m n => decide (m ≤ n)) else if g = 71 then (fun m n => decide (m > n)) else (fun m n => decide (m ≥ n))
theorem twoB_is {g : Nat} (h : g = 67 ∨ g = 68 ∨ g = 69 ∨ g = 70 ∨ g = 71 ∨ g = 72) : IsB g (twoB g) := by
  rcases h with rfl | rfl | rfl | rfl | rfl | rfl
  · exact eq_isB
  · exact ne_isB
  · exact lt_isB
  · exact le_isB
  · exact gt_isB
  · exact ge_isB
theorem kind_one (k : Int) (r : Nat) (w : World) (hr : r < w.heap.size) : Calls Tryz.prog 58 #[.slice (some ⟨w.heap.size, 0, none⟩) 1 1] (w.alloc (.cells #[.int .i64 k] 3)) fun e w' => ∃ f, e = .returned f ∧ At1 f r w' (vKind [k]) ∧ Below w.heap.size w w' :=
  (kind_calls [k] w.heap.size 1 r _ (by simp; omega) (by omega) (by simp) (fun j hj => by
    have : j = 0 := by simp at hj; exact hj
    subst this; simp)).mono fun e w' ⟨f, h1, h2, h3⟩ => ⟨f, h1, h2, (below_one w _).trans (h3.mono (by simp))⟩
theorem kind_two (k l : Int) (r : Nat) (w : World) (hr : r < w.heap.size) : Calls Tryz.prog 58 #[.slice (some ⟨w.heap.size, 0, none⟩) 2 2] (w.alloc (.cells #[.int .i64 k, .int .i64 l] 3)) fun e w' => ∃ f, e = .returned f ∧ At1 f r w' (vKind [k, l]) ∧ Below w.heap.size w w' :=
  (kind_calls [k, l] w.heap.size 2 r _ (by simp; omega) (by omega) (by simp) (fun j hj => by
    have : j = 0 ∨ j = 1 := by simp at hj; omega
    rcases this with rfl | rfl <;> simp)).mono fun e w' ⟨f, h1, h2, h3⟩ => ⟨f, h1, h2, (below_one w _).trans (h3.mono (by simp))⟩
end Go.Proofs.YtcmiehddjgfjaaaGreatDoor.A
namespace Go.Proofs.YtcmiehddjgfjaaaGreatDoor.A
open Go.RowKit Go.Proofs.YtcmiehddjgfjaaaGreatDoorW.PrintWords Go.Proofs.YtcmiehddjgfjaaaGreatDoorW.PrintLast Go.Proofs.YtcmiehddjgfjaaaGreatDoorW.PrintMore Go.Proofs.YtcmiehddjgfjaaaGreatDoor.V
set_option linter.unusedVariables false
set_option linter.unusedSimpArgs false
/-- The entries are these functions. -/
inductive Ents1 (r : Nat) (w : World) : List (ByteArray × Value) → List (ByteArray × (V → V)) → Prop
  | nil : Ents1 r w [] []
  | snoc {l t s f F} : Ents1 r w l t → At1 f r w F → Ents1 r w (l ++ [(s, f)]) (t ++ [(s, F)])
inductive Ents2 (r : Nat) (w : World) : List (ByteArray × Value) → List (ByteArray × (V → V → V)) → Prop
  | nil : Ents2 r w [] []
  | snoc {l t s f F} : Ents2 r w l t → At2 f r w F → Ents2 r w (l ++ [(s, f)]) (t ++ [(s, F)])
theorem Ents1.keeps {r : Nat} {w w' : World} {l t} (h : Ents1 r w l t) (hk : Keeps r w w') : Ents1 r w' l t := by
  induction h with
  | nil => exact .nil
  | snoc _ hf ih => exact .snoc ih (hf.keeps hk)
theorem Ents2.keeps {r : Nat} {w w' : World} {l t} (h : Ents2 r w l t) (hk : Keeps r w w') : Ents2 r w' l t := by
  induction h with
  | nil => exact .nil
  | snoc _ hf ih => exact .snoc ih (hf.keeps hk)
theorem lookup_snoc {α : Type} (op s : ByteArray) (f : α) : ∀ l : List (ByteArray × α), (l ++ [(s, f)]).lookup op = (l.lookup op).or (if (op == s) = true then some f else none)
  | [] => by rw [List.nil_append, List.lookup_cons]; cases op == s <;> rfl
  | (t, g) :: l => by
    rw [List.cons_append, List.lookup_cons, List.lookup_cons]
    cases op == t
    · exact lookup_snoc op s f l
    · rfl
/-- What is found. -/
theorem Ents1.find {r : Nat} {w : World} {l t} (h : Ents1 r w l t) (op : ByteArray) : (l.lookup op = none ∧ t.lookup op = none) ∨ ∃ f F, l.lookup op = some f ∧ t.lookup op = some F ∧ At1 f r w F := by
  induction h with
  | nil => exact .inl ⟨rfl, rfl⟩
  | @snoc l t s f F _ hf ih =>
    rw [lookup_snoc, lookup_snoc]
    rcases ih with ⟨h1, h2⟩ | ⟨f', F', h1, h2, h3⟩
    · rw [h1, h2]
      cases hs : op == s
      · exact .inl ⟨rfl, rfl⟩
      · exact .inr ⟨f, F, rfl, rfl, hf⟩
    · rw [h1, h2]
      exact .inr ⟨f', F', rfl, rfl, h3⟩
theorem Ents2.find {r : Nat} {w : World} {l t} (h : Ents2 r w l t) (op : ByteArray) : (l.lookup op = none ∧ t.lookup op = none) ∨ ∃ f F, l.lookup op = some f ∧ t.lookup op = some F ∧ At2 f r w F := by
  induction h with
  | nil => exact .inl ⟨rfl, rfl⟩
  | @snoc l t s f F _ hf ih =>
    rw [lookup_snoc, lookup_snoc]
    rcases ih with ⟨h1, h2⟩ | ⟨f', F', h1, h2, h3⟩
    · rw [h1, h2]
      cases hs : op == s
      · exact .inl ⟨rfl, rfl⟩
      · exact .inr ⟨f, F, rfl, rfl, hf⟩
    · rw [h1, h2]
      exact .inr ⟨f', F', rfl, rfl, h3⟩
/-- A map in the making. -/
structure Mk1 (w0 : World) (r : Nat) (l : List (ByteArray × Value)) (t : List (ByteArray × (V → V))) (w : World) : Prop where
  m : HM w r l
  e : Ents1 r w l t
  b : Below w0.heap.size w0 w
  h : w0.heap.size ≤ r
structure Mk2 (w0 : World) (r : Nat) (l : List (ByteArray × Value)) (t : List (ByteArray × (V → V → V))) (w : World) : Prop where
  m : HM w r l
  e : Ents2 r w l t
  b : Below w0.heap.size w0 w
  h : w0.heap.size ≤ r
theorem Mk1.lt {w0 w : World} {r l t} (h : Mk1 w0 r l t w) : r < w.heap.size := (Array.getElem?_eq_some_iff.1 h.m).1
theorem Mk2.lt {w0 w : World} {r l t} (h : Mk2 w0 r l t w) : r < w.heap.size := (Array.getElem?_eq_some_iff.1 h.m).1
theorem Mk1.below {w0 w w' : World} {r l t} (h : Mk1 w0 r l t w) (hb : Below w.heap.size w w') : Mk1 w0 r l t w' := ⟨h.m.below hb, h.e.keeps (.of_below hb), h.b.trans (hb.mono h.b.size), h.h⟩
theorem Mk2.below {w0 w w' : World} {r l t} (h : Mk2 w0 r l t w) (hb : Below w.heap.size w w') : Mk2 w0 r l t w' := ⟨h.m.below hb, h.e.keeps (.of_below hb), h.b.trans (hb.mono h.b.size), h.h⟩
theorem Mk1.more {w0 w w' : World} {r l t s f F} (h : Mk1 w0 r l t w) (hf : At1 f r w F) (hm : HM w' r (l ++ [(s, f)])) (hb : Below w0.heap.size w0 w') (hk : Keeps r w w') : Mk1 w0 r (l ++ [(s, f)]) (t ++ [(s, F)]) w' := ⟨hm, .snoc (h.e.keeps hk) (hf.keeps hk), hb, h.h⟩
theorem Mk2.more {w0 w w' : World} {r l t s f F} (h : Mk2 w0 r l t w) (hf : At2 f r w F) (hm : HM w' r (l ++ [(s, f)])) (hb : Below w0.heap.size w0 w') (hk : Keeps r w w') : Mk2 w0 r (l ++ [(s, f)]) (t ++ [(s, F)]) w' := ⟨hm, .snoc (h.e.keeps hk) (hf.keeps hk), hb, h.h⟩
def tab1 : List (ByteArray × (V → V)) := [(⟨#[45]⟩, vPlain (oneI 53)), (⟨#[97, 98, 115]⟩, vPlain (oneI 54)), (⟨#[102, 108, 111, 111, 114]⟩, vFloor), (⟨#[33]⟩, vNot), (⟨#[105, 115, 95, 110, 117, 108, 108]⟩, vKind [2]), (⟨#[105, 115, 95, 110, 97, 110]⟩, vKind [3]), (⟨#[105, 115, 95, 105, 110, 102]⟩, vKind [4, 5]), (⟨#[105, 115, 95, 110, 117, 109, 98, 101, 114]⟩, vKind [1])]
def tab2 : List (ByteArray × (V → V → V)) := [(⟨#[43]⟩, vNumbers (twoP 60)), (⟨#[45]⟩, vNumbers (twoP 61)), (⟨#[42]⟩, vNumbers (twoP 64)), (⟨#[47]⟩, vNumbers (twoP 65)), (⟨#[61, 61]⟩, vOrder false (twoB 67)), (⟨#[33, 61]⟩, vOrder true (twoB 68)), (⟨#[60]⟩, vOrder false (twoB 69)), (⟨#[60, 61]⟩, vOrder false (twoB 70)), (⟨#[62]⟩, vOrder false (twoB 71)), (⟨#[62, 61]⟩, vOrder false (twoB 72)), (⟨#[38, 38]⟩, vAnd), (⟨#[124, 124]⟩, vOr)]
set_option maxHeartbeats 8000000 in
set_option maxRecDepth 100000 in
theorem ones_calls (w : World) : Calls Tryz.prog 37 #[] w fun e w' => ∃ r l, e = .returned (.map (some r)) ∧ Mk1 w r l tab1 w' := by
  have hut := Tryz.underlying48
  have hus := Tryz.underlying9
  have hmm := @Go.RowKit.run_makeMap Tryz.prog
  have MK := Sd.mk (show Mk1 w w.heap.size [] [] (w.alloc (.map #[] 0)) from ⟨by exact blk_new w _, .nil, below_one w _, Nat.le_refl _⟩)
  go_enter Tryz.func37, Tryz.ntmps37
  go_wp2_with (first
    | (go_at_call 52; refine (plain_calls _ (oneI _) (oneI_is (by decide)) _ _ MK.out.lt).mono ?_; rintro e w1 ⟨f, rfl, hf, hb⟩; have MK := Sd.mk (MK.out.below hb); have HF := Sd.mk hf; clear hf hb)
    | (go_at_call 58; refine (kind_one _ _ _ MK.out.lt).mono ?_; rintro e w1 ⟨f, rfl, hf, hb⟩; have MK := Sd.mk (MK.out.below hb); have HF := Sd.mk hf; clear hf hb)
    | (go_at_call 58; refine (kind_two _ _ _ _ MK.out.lt).mono ?_; rintro e w1 ⟨f, rfl, hf, hb⟩; have MK := Sd.mk (MK.out.below hb); have HF := Sd.mk hf; clear hf hb)
    | ((with_reducible refine gate_ (.insert 48 (.tmp 1) (.const (.string ⟨#[45]⟩)) _) rfl ?_); refine wpList_insertK ⟨#[45]⟩ rfl rfl rfl hut hus _ rfl rfl MK.out.m (by first | rfl | decide) MK.out.h MK.out.b ?_; intro w1 hm hb hk; have MK := Sd.mk (MK.out.more HF.out hm hb hk); clear hm hb hk)
    | ((with_reducible refine gate_ (.insert 48 (.tmp 1) (.const (.string ⟨#[97, 98, 115]⟩)) _) rfl ?_); refine wpList_insertK ⟨#[97, 98, 115]⟩ rfl rfl rfl hut hus _ rfl rfl MK.out.m (by first | rfl | decide) MK.out.h MK.out.b ?_; intro w1 hm hb hk; have MK := Sd.mk (MK.out.more HF.out hm hb hk); clear hm hb hk)
    | ((with_reducible refine gate_ (.insert 48 (.tmp 1) (.const (.string ⟨#[102, 108, 111, 111, 114]⟩)) _) rfl ?_); refine wpList_insertK ⟨#[102, 108, 111, 111, 114]⟩ rfl rfl rfl hut hus _ rfl rfl MK.out.m (by first | rfl | decide) MK.out.h MK.out.b ?_; intro w1 hm hb hk; have MK := Sd.mk (MK.out.more (is1_ones3 _ _) hm hb hk); clear hm hb hk)
    | ((with_reducible refine gate_ (.insert 48 (.tmp 1) (.const (.string ⟨#[33]⟩)) _) rfl ?_); refine wpList_insertK ⟨#[33]⟩ rfl rfl rfl hut hus _ rfl rfl MK.out.m (by first | rfl | decide) MK.out.h MK.out.b ?_; intro w1 hm hb hk; have MK := Sd.mk (MK.out.more (is1_ones4 _ _) hm hb hk); clear hm hb hk)
    | ((with_reducible refine gate_ (.insert 48 (.tmp 1) (.const (.string ⟨#[105, 115, 95, 110, 117, 108, 108]⟩)) _) rfl ?_); refine wpList_insertK ⟨#[105, 115, 95, 110, 117, 108, 108]⟩ rfl rfl rfl hut hus _ rfl rfl MK.out.m (by first | rfl | decide) MK.out.h MK.out.b ?_; intro w1 hm hb hk; have MK := Sd.mk (MK.out.more HF.out hm hb hk); clear hm hb hk)
    | ((with_reducible refine gate_ (.insert 48 (.tmp 1) (.const (.string ⟨#[105, 115, 95, 110, 97, 110]⟩)) _) rfl ?_); refine wpList_insertK ⟨#[105, 115, 95, 110, 97, 110]⟩ rfl rfl rfl hut hus _ rfl rfl MK.out.m (by first | rfl | decide) MK.out.h MK.out.b ?_; intro w1 hm hb hk; have MK := Sd.mk (MK.out.more HF.out hm hb hk); clear hm hb hk)
    | ((with_reducible refine gate_ (.insert 48 (.tmp 1) (.const (.string ⟨#[105, 115, 95, 105, 110, 102]⟩)) _) rfl ?_); refine wpList_insertK ⟨#[105, 115, 95, 105, 110, 102]⟩ rfl rfl rfl hut hus _ rfl rfl MK.out.m (by first | rfl | decide) MK.out.h MK.out.b ?_; intro w1 hm hb hk; have MK := Sd.mk (MK.out.more HF.out hm hb hk); clear hm hb hk)
    | ((with_reducible refine gate_ (.insert 48 (.tmp 1) (.const (.string ⟨#[105, 115, 95, 110, 117, 109, 98, 101, 114]⟩)) _) rfl ?_); refine wpList_insertK ⟨#[105, 115, 95, 110, 117, 109, 98, 101, 114]⟩ rfl rfl rfl hut hus _ rfl rfl MK.out.m (by first | rfl | decide) MK.out.h MK.out.b ?_; intro w1 hm hb hk; have MK := Sd.mk (MK.out.more HF.out hm hb hk); clear hm hb hk))
  go_ret
  exact ⟨_, _, rfl, MK.out⟩
set_option maxHeartbeats 8000000 in
set_option maxRecDepth 100000 in
theorem twos_calls (w : World) : Calls Tryz.prog 38 #[] w fun e w' => ∃ r l, e = .returned (.map (some r)) ∧ Mk2 w r l tab2 w' := by
  have hut := Tryz.underlying52
  have hus := Tryz.underlying9
  have hmm := @Go.RowKit.run_makeMap Tryz.prog
  have MK := Sd.mk (show Mk2 w w.heap.size [] [] (w.alloc (.map #[] 0)) from ⟨by exact blk_new w _, .nil, below_one w _, Nat.le_refl _⟩)
  go_enter Tryz.func38, Tryz.ntmps38
  go_wp2_with (first
    | (go_at_call 59; refine (numbers_calls _ (twoP _) (twoP_is (by decide)) _ _ MK.out.lt).mono ?_; rintro e w1 ⟨f, rfl, hf, hb⟩; have MK := Sd.mk (MK.out.below hb); have HF := Sd.mk hf; clear hf hb)
    | (go_at_call 66; refine (order_calls _ _ (twoB _) (twoB_is (by decide)) _ _ MK.out.lt).mono ?_; rintro e w1 ⟨f, rfl, hf, hb⟩; have MK := Sd.mk (MK.out.below hb); have HF := Sd.mk hf; clear hf hb)
    | ((with_reducible refine gate_ (.insert 52 (.tmp 1) (.const (.string ⟨#[43]⟩)) _) rfl ?_); refine wpList_insertK ⟨#[43]⟩ rfl rfl rfl hut hus _ rfl rfl MK.out.m (by first | rfl | decide) MK.out.h MK.out.b ?_; intro w1 hm hb hk; have MK := Sd.mk (MK.out.more HF.out hm hb hk); clear hm hb hk)
    | ((with_reducible refine gate_ (.insert 52 (.tmp 1) (.const (.string ⟨#[45]⟩)) _) rfl ?_); refine wpList_insertK ⟨#[45]⟩ rfl rfl rfl hut hus _ rfl rfl MK.out.m (by first | rfl | decide) MK.out.h MK.out.b ?_; intro w1 hm hb hk; have MK := Sd.mk (MK.out.more HF.out hm hb hk); clear hm hb hk)
    | ((with_reducible refine gate_ (.insert 52 (.tmp 1) (.const (.string ⟨#[42]⟩)) _) rfl ?_); refine wpList_insertK ⟨#[42]⟩ rfl rfl rfl hut hus _ rfl rfl MK.out.m (by first | rfl | decide) MK.out.h MK.out.b ?_; intro w1 hm hb hk; have MK := Sd.mk (MK.out.more HF.out hm hb hk); clear hm hb hk)
    | ((with_reducible refine gate_ (.insert 52 (.tmp 1) (.const (.string ⟨#[47]⟩)) _) rfl ?_); refine wpList_insertK ⟨#[47]⟩ rfl rfl rfl hut hus _ rfl rfl MK.out.m (by first | rfl | decide) MK.out.h MK.out.b ?_; intro w1 hm hb hk; have MK := Sd.mk (MK.out.more HF.out hm hb hk); clear hm hb hk)
    | ((with_reducible refine gate_ (.insert 52 (.tmp 1) (.const (.string ⟨#[61, 61]⟩)) _) rfl ?_); refine wpList_insertK ⟨#[61, 61]⟩ rfl rfl rfl hut hus _ rfl rfl MK.out.m (by first | rfl | decide) MK.out.h MK.out.b ?_; intro w1 hm hb hk; have MK := Sd.mk (MK.out.more HF.out hm hb hk); clear hm hb hk)
    | ((with_reducible refine gate_ (.insert 52 (.tmp 1) (.const (.string ⟨#[33, 61]⟩)) _) rfl ?_); refine wpList_insertK ⟨#[33, 61]⟩ rfl rfl rfl hut hus _ rfl rfl MK.out.m (by first | rfl | decide) MK.out.h MK.out.b ?_; intro w1 hm hb hk; have MK := Sd.mk (MK.out.more HF.out hm hb hk); clear hm hb hk)
    | ((with_reducible refine gate_ (.insert 52 (.tmp 1) (.const (.string ⟨#[60]⟩)) _) rfl ?_); refine wpList_insertK ⟨#[60]⟩ rfl rfl rfl hut hus _ rfl rfl MK.out.m (by first | rfl | decide) MK.out.h MK.out.b ?_; intro w1 hm hb hk; have MK := Sd.mk (MK.out.more HF.out hm hb hk); clear hm hb hk)
    | ((with_reducible refine gate_ (.insert 52 (.tmp 1) (.const (.string ⟨#[60, 61]⟩)) _) rfl ?_); refine wpList_insertK ⟨#[60, 61]⟩ rfl rfl rfl hut hus _ rfl rfl MK.out.m (by first | rfl | decide) MK.out.h MK.out.b ?_; intro w1 hm hb hk; have MK := Sd.mk (MK.out.more HF.out hm hb hk); clear hm hb hk)
    | ((with_reducible refine gate_ (.insert 52 (.tmp 1) (.const (.string ⟨#[62]⟩)) _) rfl ?_); refine wpList_insertK ⟨#[62]⟩ rfl rfl rfl hut hus _ rfl rfl MK.out.m (by first | rfl | decide) MK.out.h MK.out.b ?_; intro w1 hm hb hk; have MK := Sd.mk (MK.out.more HF.out hm hb hk); clear hm hb hk)
    | ((with_reducible refine gate_ (.insert 52 (.tmp 1) (.const (.string ⟨#[62, 61]⟩)) _) rfl ?_); refine wpList_insertK ⟨#[62, 61]⟩ rfl rfl rfl hut hus _ rfl rfl MK.out.m (by first | rfl | decide) MK.out.h MK.out.b ?_; intro w1 hm hb hk; have MK := Sd.mk (MK.out.more HF.out hm hb hk); clear hm hb hk)
    | ((with_reducible refine gate_ (.insert 52 (.tmp 1) (.const (.string ⟨#[38, 38]⟩)) _) rfl ?_); refine wpList_insertK ⟨#[38, 38]⟩ rfl rfl rfl hut hus _ rfl rfl MK.out.m (by first | rfl | decide) MK.out.h MK.out.b ?_; intro w1 hm hb hk; have MK := Sd.mk (MK.out.more (is2_and _ _) hm hb hk); clear hm hb hk)
    | ((with_reducible refine gate_ (.insert 52 (.tmp 1) (.const (.string ⟨#[124, 124]⟩)) _) rfl ?_); refine wpList_insertK ⟨#[124, 124]⟩ rfl rfl rfl hut hus _ rfl rfl MK.out.m (by first | rfl | decide) MK.out.h MK.out.b ?_; intro w1 hm hb hk; have MK := Sd.mk (MK.out.more (is2_or _ _) hm hb hk); clear hm hb hk))
  go_ret
  exact ⟨_, _, rfl, MK.out⟩
end Go.Proofs.YtcmiehddjgfjaaaGreatDoor.A
namespace Go.Proofs.YtcmiehddjgfjaaaGreatDoor.A
open Go.RowKit Go.Proofs.YtcmiehddjgfjaaaGreatDoorW.PrintWords Go.Proofs.YtcmiehddjgfjaaaGreatDoorW.PrintLast Go.Proofs.YtcmiehddjgfjaaaGreatDoorW.PrintMore Go.Proofs.YtcmiehddjgfjaaaGreatDoor.V
set_option linter.unusedVariables false
set_option linter.unusedSimpArgs false
def vDo (op : ByteArray) (l : List V) : V × Int :=
  if l.any (fun x => !decide (isV x)) = true then ((0, 0), 80) else
  match l with
  | [a] => (match tab1.lookup op with | some F => (F a, 0) | none => ((0, 0), 2))
  | [a, b] => (match tab2.lookup op with | some F => (if a.1 = 2 ∨ b.1 = 2 then ((2, 0), 0) else (F a b, 0)) | none => ((0, 0), 2))
  | _ => ((0, 0), 2)
theorem any_sv (l : List S25) : (l.map sv).any (fun x => !decide (isV x)) = l.any badV := by rw [List.any_map]; rfl
theorem Ents1.find_none {r : Nat} {w : World} {l t} (h : Ents1 r w l t) {op : ByteArray} (ht : t.lookup op = none) : l.lookup op = none := by
  rcases h.find op with ⟨h1, _⟩ | ⟨f, F, _, h2, _⟩
  · exact h1
  · rw [ht] at h2; exact absurd h2 (by simp)
theorem Ents1.find_some {r : Nat} {w : World} {l t} (h : Ents1 r w l t) {op : ByteArray} {F : V → V} (ht : t.lookup op = some F) : ∃ f, l.lookup op = some f ∧ At1 f r w F := by
  rcases h.find op with ⟨_, h2⟩ | ⟨f, F', h1, h2, h3⟩
  · rw [ht] at h2; exact absurd h2 (by simp)
  · rw [ht] at h2; injection h2 with h2; subst h2; exact ⟨f, h1, h3⟩
theorem Ents2.find_none {r : Nat} {w : World} {l t} (h : Ents2 r w l t) {op : ByteArray} (ht : t.lookup op = none) : l.lookup op = none := by
  rcases h.find op with ⟨h1, _⟩ | ⟨f, F, _, h2, _⟩
  · exact h1
  · rw [ht] at h2; exact absurd h2 (by simp)
theorem Ents2.find_some {r : Nat} {w : World} {l t} (h : Ents2 r w l t) {op : ByteArray} {F : V → V → V} (ht : t.lookup op = some F) : ∃ f, l.lookup op = some f ∧ At2 f r w F := by
  rcases h.find op with ⟨_, h2⟩ | ⟨f, F', h1, h2, h3⟩
  · rw [ht] at h2; exact absurd h2 (by simp)
  · rw [ht] at h2; injection h2 with h2; subst h2; exact ⟨f, h1, h3⟩
set_option maxRecDepth 100000 in
theorem null_calls (w : World) : Calls Tryz.prog 23 #[] w fun e w' => e = .returned (vv (2, 0)) ∧ Below w.heap.size w w' := by
  go_enter Tryz.func23, Tryz.ntmps23
  go_wp2
  refine bodyPost_ret (v := vv (2, 0)) (by simp [results, Tryz.results23, go_sem]) rfl ⟨rfl, ?_⟩
  repeat (first | exact Below.refl _ _ | (refine Below.alloc ?_ (by simp) _) | (refine Below.setCell ?_ (by simp) _))
section
variable (a0 : ByteArray) (c1 : Nat) (w : World)
set_option maxHeartbeats 4000000 in
set_option maxRecDepth 100000 in
theorem do_bad (A1 : Option Addr) (n : Nat) (hC : ∀ w1, Below w.heap.size w w1 → Calls Tryz.prog 17 #[.slice A1 n c1] w1 fun e w' => e = .returned (.int .i64 80) ∧ Below w1.heap.size w1 w') :
    Calls Tryz.prog 11 #[.string a0, .slice A1 n c1] w fun e w' => e = .returned (.tuple #[vv (0, 0), .int .i64 80]) ∧ Below w.heap.size w w' := by
  have hb0 : Below w.heap.size w (w.alloc (.cells #[.int .i64 0, .int .i64 0] 25)) := below_one w _
  have r0 : (w.alloc (.cells #[.int .i64 0, .int .i64 0] 25)).heap[w.heap.size]? = some (.cells #[.int .i64 0, .int .i64 0] 25 (0, 0)) := blk_new w _
  have m0 := cell_of_row _ _ 0 _ _ _ r0
  have m1 := cell_of_row _ _ 1 _ _ _ r0
  have z0 := blk_frozen r0 0
  have z1 := blk_frozen r0 1
  simp only [List.getElem?_toArray, List.getElem?_cons_zero, List.getElem?_cons_succ] at m0 m1
  have HB := Sd.mk hb0
  have HC := Sd.mk (hC _ hb0)
  clear hC
  go_enter Tryz.func11, Tryz.ntmps11
  go_wp2_with fail
  generalize w.alloc (.cells #[.int .i64 0, .int .i64 0] 25) = W1 at HB HC m0 m1 z0 z1 ⊢
  clear hb0 r0
  go_wp2_with (go_at_call 17; refine HC.out.mono ?_; rintro e w1 ⟨rfl, hb1⟩; have m0_ := m0; have m1_ := m1; have m0 := pw_cell_below hb1 m0_; have m1 := pw_cell_below hb1 m1_; have z0 := fz_below hb1 m0_ z0; have z1 := fz_below hb1 m1_ z1; clear m0_ m1_; have HB := Sd.mk (HB.out.trans (hb1.mono HB.out.size)); clear hb1)
  exact bodyPost_ret (v := .tuple #[vv (0, 0), .int .i64 80]) (by simp [results, Tryz.results11, go_sem, m0, m1]) rfl ⟨rfl, (HB.out.setCell (by simp) _).setCell (by simp) _⟩
set_option maxHeartbeats 4000000 in
set_option maxRecDepth 100000 in
theorem do_len (A1 : Option Addr) (n : Nat) (h1 : n ≠ 1) (h2 : n ≠ 2) (hC : ∀ w1, Below w.heap.size w w1 → Calls Tryz.prog 17 #[.slice A1 n c1] w1 fun e w' => e = .returned (.int .i64 0) ∧ Below w1.heap.size w1 w') :
    Calls Tryz.prog 11 #[.string a0, .slice A1 n c1] w fun e w' => e = .returned (.tuple #[vv (0, 0), .int .i64 2]) ∧ Below w.heap.size w w' := by
  have n1 : ((n : Int) == 1) = false := beq_eq_false_iff_ne.2 (by omega)
  have n2 : ((n : Int) == 2) = false := beq_eq_false_iff_ne.2 (by omega)
  clear h1 h2
  have hb0 : Below w.heap.size w (w.alloc (.cells #[.int .i64 0, .int .i64 0] 25)) := below_one w _
  have r0 : (w.alloc (.cells #[.int .i64 0, .int .i64 0] 25)).heap[w.heap.size]? = some (.cells #[.int .i64 0, .int .i64 0] 25 (0, 0)) := blk_new w _
  have m0 := cell_of_row _ _ 0 _ _ _ r0
  have m1 := cell_of_row _ _ 1 _ _ _ r0
  have z0 := blk_frozen r0 0
  have z1 := blk_frozen r0 1
  simp only [List.getElem?_toArray, List.getElem?_cons_zero, List.getElem?_cons_succ] at m0 m1
  have HB := Sd.mk hb0
  have HC := Sd.mk (hC _ hb0)
  clear hC
  go_enter Tryz.func11, Tryz.ntmps11
  go_wp2_with fail
  generalize w.alloc (.cells #[.int .i64 0, .int .i64 0] 25) = W1 at HB HC m0 m1 z0 z1 ⊢
  clear hb0 r0
  go_wp2_with (go_at_call 17; refine HC.out.mono ?_; rintro e w1 ⟨rfl, hb1⟩; have m0_ := m0; have m1_ := m1; have m0 := pw_cell_below hb1 m0_; have m1 := pw_cell_below hb1 m1_; have z0 := fz_below hb1 m0_ z0; have z1 := fz_below hb1 m1_ z1; clear m0_ m1_; have HB := Sd.mk (HB.out.trans (hb1.mono HB.out.size)); clear hb1)
  exact bodyPost_ret (v := .tuple #[vv (0, 0), .int .i64 2]) (by simp [results, Tryz.results11, go_sem, m0, m1]) rfl ⟨rfl, (HB.out.setCell (by simp) _).setCell (by simp) _⟩
set_option maxHeartbeats 4000000 in
set_option maxRecDepth 100000 in
theorem do_one_none (A : Addr) (x0 x1 : Int) (ht : tab1.lookup a0 = none) (hp0 : w.cell? A = some (.int .i64 x0)) (hp1 : w.cell? ⟨A.block, A.off + 1, none⟩ = some (.int .i64 x1)) (hC : ∀ w1, Below w.heap.size w w1 → Calls Tryz.prog 17 #[.slice (some A) 1 c1] w1 fun e w' => e = .returned (.int .i64 0) ∧ Below w1.heap.size w1 w') :
    Calls Tryz.prog 11 #[.string a0, .slice (some A) 1 c1] w fun e w' => e = .returned (.tuple #[vv (0, 0), .int .i64 2]) ∧ Below w.heap.size w w' := by
  have HT := Sd.mk ht
  clear ht
  have hb0 : Below w.heap.size w (w.alloc (.cells #[.int .i64 0, .int .i64 0] 25)) := below_one w _
  have r0 : (w.alloc (.cells #[.int .i64 0, .int .i64 0] 25)).heap[w.heap.size]? = some (.cells #[.int .i64 0, .int .i64 0] 25 (0, 0)) := blk_new w _
  have m0 := cell_of_row _ _ 0 _ _ _ r0
  have m1 := cell_of_row _ _ 1 _ _ _ r0
  have z0 := blk_frozen r0 0
  have z1 := blk_frozen r0 1
  simp only [List.getElem?_toArray, List.getElem?_cons_zero, List.getElem?_cons_succ] at m0 m1
  have HB := Sd.mk hb0
  have p0 := pw_cell_below hb0 hp0
  have p1 := pw_cell_below hb0 hp1
  have HC := Sd.mk (hC _ hb0)
  clear hC hp0 hp1
  go_enter Tryz.func11, Tryz.ntmps11
  go_wp2_with fail
  generalize w.alloc (.cells #[.int .i64 0, .int .i64 0] 25) = W1 at HB HC p0 p1 m0 m1 z0 z1 ⊢
  clear hb0 r0
  go_wp2_with (first
    | (go_at_call 17; refine HC.out.mono ?_; rintro e w1 ⟨rfl, hb1⟩; have p0 := pw_cell_below hb1 p0; have p1 := pw_cell_below hb1 p1; have m0_ := m0; have m1_ := m1; have m0 := pw_cell_below hb1 m0_; have m1 := pw_cell_below hb1 m1_; have z0 := fz_below hb1 m0_ z0; have z1 := fz_below hb1 m1_ z1; clear m0_ m1_; have HB := Sd.mk (HB.out.trans (hb1.mono HB.out.size)); clear hb1)
    | (go_at_call 37; refine (ones_calls _).mono ?_; rintro e w1 ⟨r, l, rfl, mk⟩; have hb1 := mk.b; have p0 := pw_cell_below hb1 p0; have p1 := pw_cell_below hb1 p1; have hlk := run_find (Tryz.underlying48) (Tryz.underlying9) mk.m a0 .nilFunc (Tryz.zeroValue46 _); rw [mk.e.find_none HT.out] at hlk; clear mk; have m0_ := m0; have m1_ := m1; have m0 := pw_cell_below hb1 m0_; have m1 := pw_cell_below hb1 m1_; have z0 := fz_below hb1 m0_ z0; have z1 := fz_below hb1 m1_ z1; clear m0_ m1_; have HB := Sd.mk (HB.out.trans (hb1.mono HB.out.size)); clear hb1))
  exact bodyPost_ret (v := .tuple #[vv (0, 0), .int .i64 2]) (by simp [results, Tryz.results11, go_sem, m0, m1]) rfl ⟨rfl, (HB.out.setCell (by simp) _).setCell (by simp) _⟩
set_option maxHeartbeats 4000000 in
set_option maxRecDepth 100000 in
theorem do_one (A : Addr) (x0 x1 : Int) (F : V → V) (ht : tab1.lookup a0 = some F) (r1 r2 : Int) (hF : F (x0, x1) = (r1, r2)) (hv : isV (x0, x1)) (hp0 : w.cell? A = some (.int .i64 x0)) (hp1 : w.cell? ⟨A.block, A.off + 1, none⟩ = some (.int .i64 x1)) (hC : ∀ w1, Below w.heap.size w w1 → Calls Tryz.prog 17 #[.slice (some A) 1 c1] w1 fun e w' => e = .returned (.int .i64 0) ∧ Below w1.heap.size w1 w') :
    Calls Tryz.prog 11 #[.string a0, .slice (some A) 1 c1] w fun e w' => e = .returned (.tuple #[vv (r1, r2), .int .i64 0]) ∧ Below w.heap.size w w' := by
  have HT := Sd.mk ht
  clear ht
  have HF := Sd.mk hF
  have HV := Sd.mk hv
  clear hF hv
  have hb0 : Below w.heap.size w (w.alloc (.cells #[.int .i64 0, .int .i64 0] 25)) := below_one w _
  have r0 : (w.alloc (.cells #[.int .i64 0, .int .i64 0] 25)).heap[w.heap.size]? = some (.cells #[.int .i64 0, .int .i64 0] 25 (0, 0)) := blk_new w _
  have m0 := cell_of_row _ _ 0 _ _ _ r0
  have m1 := cell_of_row _ _ 1 _ _ _ r0
  have z0 := blk_frozen r0 0
  have z1 := blk_frozen r0 1
  simp only [List.getElem?_toArray, List.getElem?_cons_zero, List.getElem?_cons_succ] at m0 m1
  have HB := Sd.mk hb0
  have p0 := pw_cell_below hb0 hp0
  have p1 := pw_cell_below hb0 hp1
  have HC := Sd.mk (hC _ hb0)
  clear hC hp0 hp1
  go_enter Tryz.func11, Tryz.ntmps11
  go_wp2_with fail
  generalize w.alloc (.cells #[.int .i64 0, .int .i64 0] 25) = W1 at HB HC p0 p1 m0 m1 z0 z1 ⊢
  clear hb0 r0
  go_wp2_with (first
    | (go_at_call 17; refine HC.out.mono ?_; rintro e w1 ⟨rfl, hb1⟩; have p0 := pw_cell_below hb1 p0; have p1 := pw_cell_below hb1 p1; have m0_ := m0; have m1_ := m1; have m0 := pw_cell_below hb1 m0_; have m1 := pw_cell_below hb1 m1_; have z0 := fz_below hb1 m0_ z0; have z1 := fz_below hb1 m1_ z1; clear m0_ m1_; have HB := Sd.mk (HB.out.trans (hb1.mono HB.out.size)); clear hb1)
    | (first
      | (go_at_call 37; refine (ones_calls _).mono ?_; rintro e w1 ⟨r, l, rfl, mk⟩; have hb1 := mk.b; have p0 := pw_cell_below hb1 p0; have p1 := pw_cell_below hb1 p1; obtain ⟨f, hf1, g, cb, rfl, eg, hf2⟩ := mk.e.find_some HT.out; have hlk := run_find (Tryz.underlying48) (Tryz.underlying9) mk.m a0 .nilFunc (Tryz.zeroValue46 _); rw [hf1] at hlk; have HG := Sd.mk (hf2 w1 (Keeps.refl _ _) (x0, x1) HV.out); clear mk hf1 hf2; simp only at hlk; have m0_ := m0; have m1_ := m1; have m0 := pw_cell_below hb1 m0_; have m1 := pw_cell_below hb1 m1_; have z0 := fz_below hb1 m0_ z0; have z1 := fz_below hb1 m1_ z1; clear m0_ m1_; have HB := Sd.mk (HB.out.trans (hb1.mono HB.out.size)); clear hb1; rw [HF.out] at HG)
      | (go_at_fn g; refine HG.out.mono ?_; rintro e w1 ⟨rfl, hb1⟩; have m0_ := m0; have m1_ := m1; have m0 := pw_cell_below hb1 m0_; have m1 := pw_cell_below hb1 m1_; have z0 := fz_below hb1 m0_ z0; have z1 := fz_below hb1 m1_ z1; clear m0_ m1_; have HB := Sd.mk (HB.out.trans (hb1.mono HB.out.size)); clear hb1)))
  exact bodyPost_ret (v := .tuple #[vv (r1, r2), .int .i64 0]) (by simp [results, Tryz.results11, go_sem, m0, m1]) rfl ⟨rfl, (HB.out.setCell (by simp) _).setCell (by simp) _⟩
set_option maxHeartbeats 8000000 in
set_option maxRecDepth 100000 in
theorem do_two_none (A : Addr) (x0 x1 y0 y1 : Int) (ht : tab2.lookup a0 = none) (hp0 : w.cell? A = some (.int .i64 x0)) (hp1 : w.cell? ⟨A.block, A.off + 1, none⟩ = some (.int .i64 x1)) (hq0 : w.cell? ⟨A.block, A.off + 2, none⟩ = some (.int .i64 y0)) (hq1 : w.cell? ⟨A.block, A.off + 2 + 1, none⟩ = some (.int .i64 y1)) (hC : ∀ w1, Below w.heap.size w w1 → Calls Tryz.prog 17 #[.slice (some A) 2 c1] w1 fun e w' => e = .returned (.int .i64 0) ∧ Below w1.heap.size w1 w') :
    Calls Tryz.prog 11 #[.string a0, .slice (some A) 2 c1] w fun e w' => e = .returned (.tuple #[vv (0, 0), .int .i64 2]) ∧ Below w.heap.size w w' := by
  have HT := Sd.mk ht
  clear ht
  have hb0 : Below w.heap.size w (w.alloc (.cells #[.int .i64 0, .int .i64 0] 25)) := below_one w _
  have r0 : (w.alloc (.cells #[.int .i64 0, .int .i64 0] 25)).heap[w.heap.size]? = some (.cells #[.int .i64 0, .int .i64 0] 25 (0, 0)) := blk_new w _
  have m0 := cell_of_row _ _ 0 _ _ _ r0
  have m1 := cell_of_row _ _ 1 _ _ _ r0
  have z0 := blk_frozen r0 0
  have z1 := blk_frozen r0 1
  simp only [List.getElem?_toArray, List.getElem?_cons_zero, List.getElem?_cons_succ] at m0 m1
  have HB := Sd.mk hb0
  have p0 := pw_cell_below hb0 hp0
  have p1 := pw_cell_below hb0 hp1
  have q0 := pw_cell_below hb0 hq0
  have q1 := pw_cell_below hb0 hq1
  have q2 : (w.alloc (.cells #[.int .i64 0, .int .i64 0] 25)).cell? ⟨A.block, A.off + 3, none⟩ = some (.int .i64 y1) := q1
  have HC := Sd.mk (hC _ hb0)
  clear hC hp0 hp1 hq0 hq1
  go_enter Tryz.func11, Tryz.ntmps11
  go_wp2_with fail
  generalize w.alloc (.cells #[.int .i64 0, .int .i64 0] 25) = W1 at HB HC p0 p1 q0 q1 q2 m0 m1 z0 z1 ⊢
  clear hb0 r0
  go_wp2_with (first
    | (go_at_call 17; refine HC.out.mono ?_; rintro e w1 ⟨rfl, hb1⟩; have p0 := pw_cell_below hb1 p0; have p1 := pw_cell_below hb1 p1; have q0 := pw_cell_below hb1 q0; have q1 := pw_cell_below hb1 q1; have q2 := pw_cell_below hb1 q2; have m0_ := m0; have m1_ := m1; have m0 := pw_cell_below hb1 m0_; have m1 := pw_cell_below hb1 m1_; have z0 := fz_below hb1 m0_ z0; have z1 := fz_below hb1 m1_ z1; clear m0_ m1_; have HB := Sd.mk (HB.out.trans (hb1.mono HB.out.size)); clear hb1)
    | (go_at_call 38; refine (twos_calls _).mono ?_; rintro e w1 ⟨r, l, rfl, mk⟩; have hb1 := mk.b; have p0 := pw_cell_below hb1 p0; have p1 := pw_cell_below hb1 p1; have q0 := pw_cell_below hb1 q0; have q1 := pw_cell_below hb1 q1; have q2 := pw_cell_below hb1 q2; have hlk := run_find (Tryz.underlying52) (Tryz.underlying9) mk.m a0 .nilFunc (Tryz.zeroValue50 _); rw [mk.e.find_none HT.out] at hlk; clear mk; have m0_ := m0; have m1_ := m1; have m0 := pw_cell_below hb1 m0_; have m1 := pw_cell_below hb1 m1_; have z0 := fz_below hb1 m0_ z0; have z1 := fz_below hb1 m1_ z1; clear m0_ m1_; have HB := Sd.mk (HB.out.trans (hb1.mono HB.out.size)); clear hb1))
  exact bodyPost_ret (v := .tuple #[vv (0, 0), .int .i64 2]) (by simp [results, Tryz.results11, go_sem, m0, m1]) rfl ⟨rfl, (HB.out.setCell (by simp) _).setCell (by simp) _⟩
set_option maxHeartbeats 8000000 in
set_option maxRecDepth 100000 in
theorem do_two_null (A : Addr) (x0 x1 y0 y1 : Int) (F : V → V → V) (ht : tab2.lookup a0 = some F) (hn : x0 = 2 ∨ y0 = 2) (hp0 : w.cell? A = some (.int .i64 x0)) (hp1 : w.cell? ⟨A.block, A.off + 1, none⟩ = some (.int .i64 x1)) (hq0 : w.cell? ⟨A.block, A.off + 2, none⟩ = some (.int .i64 y0)) (hq1 : w.cell? ⟨A.block, A.off + 2 + 1, none⟩ = some (.int .i64 y1)) (hC : ∀ w1, Below w.heap.size w w1 → Calls Tryz.prog 17 #[.slice (some A) 2 c1] w1 fun e w' => e = .returned (.int .i64 0) ∧ Below w1.heap.size w1 w') :
    Calls Tryz.prog 11 #[.string a0, .slice (some A) 2 c1] w fun e w' => e = .returned (.tuple #[vv (2, 0), .int .i64 0]) ∧ Below w.heap.size w w' := by
  have HT := Sd.mk ht
  clear ht
  have hb0 : Below w.heap.size w (w.alloc (.cells #[.int .i64 0, .int .i64 0] 25)) := below_one w _
  have r0 : (w.alloc (.cells #[.int .i64 0, .int .i64 0] 25)).heap[w.heap.size]? = some (.cells #[.int .i64 0, .int .i64 0] 25 (0, 0)) := blk_new w _
  have m0 := cell_of_row _ _ 0 _ _ _ r0
  have m1 := cell_of_row _ _ 1 _ _ _ r0
  have z0 := blk_frozen r0 0
  have z1 := blk_frozen r0 1
  simp only [List.getElem?_toArray, List.getElem?_cons_zero, List.getElem?_cons_succ] at m0 m1
  have HB := Sd.mk hb0
  have p0 := pw_cell_below hb0 hp0
  have p1 := pw_cell_below hb0 hp1
  have q0 := pw_cell_below hb0 hq0
  have q1 := pw_cell_below hb0 hq1
  have q2 : (w.alloc (.cells #[.int .i64 0, .int .i64 0] 25)).cell? ⟨A.block, A.off + 3, none⟩ = some (.int .i64 y1) := q1
  have HC := Sd.mk (hC _ hb0)
  clear hC hp0 hp1 hq0 hq1
  have c12 : (x0 = 2) ∨ ((x0 == 2) = false ∧ y0 = 2) := by
    by_cases h : x0 = 2
    · exact .inl h
    · exact .inr ⟨beq_eq_false_iff_ne.2 h, hn.resolve_left h⟩
  clear hn
  rcases c12 with rfl | ⟨c1, rfl⟩
  · go_enter Tryz.func11, Tryz.ntmps11
    go_wp2_with fail
    generalize w.alloc (.cells #[.int .i64 0, .int .i64 0] 25) = W1 at HB HC p0 p1 q0 q1 q2 m0 m1 z0 z1 ⊢
    clear hb0 r0
    go_wp2_with (first
      | (go_at_call 17; refine HC.out.mono ?_; rintro e w1 ⟨rfl, hb1⟩; have p0 := pw_cell_below hb1 p0; have p1 := pw_cell_below hb1 p1; have q0 := pw_cell_below hb1 q0; have q1 := pw_cell_below hb1 q1; have q2 := pw_cell_below hb1 q2; have m0_ := m0; have m1_ := m1; have m0 := pw_cell_below hb1 m0_; have m1 := pw_cell_below hb1 m1_; have z0 := fz_below hb1 m0_ z0; have z1 := fz_below hb1 m1_ z1; clear m0_ m1_; have HB := Sd.mk (HB.out.trans (hb1.mono HB.out.size)); clear hb1)
      | (go_at_call 38; refine (twos_calls _).mono ?_; rintro e w1 ⟨r, l, rfl, mk⟩; have hb1 := mk.b; have p0 := pw_cell_below hb1 p0; have p1 := pw_cell_below hb1 p1; have q0 := pw_cell_below hb1 q0; have q1 := pw_cell_below hb1 q1; have q2 := pw_cell_below hb1 q2; obtain ⟨f, hf1, g, cb, rfl, eg, hf2⟩ := mk.e.find_some HT.out; have hlk := run_find (Tryz.underlying52) (Tryz.underlying9) mk.m a0 .nilFunc (Tryz.zeroValue50 _); rw [hf1] at hlk; clear mk hf1 hf2; simp only at hlk; have m0_ := m0; have m1_ := m1; have m0 := pw_cell_below hb1 m0_; have m1 := pw_cell_below hb1 m1_; have z0 := fz_below hb1 m0_ z0; have z1 := fz_below hb1 m1_ z1; clear m0_ m1_; have HB := Sd.mk (HB.out.trans (hb1.mono HB.out.size)); clear hb1)
      | (go_at_call 23; refine (null_calls _).mono ?_; rintro e w1 ⟨rfl, hb1⟩; have m0_ := m0; have m1_ := m1; have m0 := pw_cell_below hb1 m0_; have m1 := pw_cell_below hb1 m1_; have z0 := fz_below hb1 m0_ z0; have z1 := fz_below hb1 m1_ z1; clear m0_ m1_; have HB := Sd.mk (HB.out.trans (hb1.mono HB.out.size)); clear hb1))
    exact bodyPost_ret (v := .tuple #[vv (2, 0), .int .i64 0]) (by simp [results, Tryz.results11, go_sem, m0, m1]) rfl ⟨rfl, (HB.out.setCell (by simp) _).setCell (by simp) _⟩
  · go_enter Tryz.func11, Tryz.ntmps11
    go_wp2_with fail
    generalize w.alloc (.cells #[.int .i64 0, .int .i64 0] 25) = W1 at HB HC p0 p1 q0 q1 q2 m0 m1 z0 z1 ⊢
    clear hb0 r0
    go_wp2_with (first
      | (go_at_call 17; refine HC.out.mono ?_; rintro e w1 ⟨rfl, hb1⟩; have p0 := pw_cell_below hb1 p0; have p1 := pw_cell_below hb1 p1; have q0 := pw_cell_below hb1 q0; have q1 := pw_cell_below hb1 q1; have q2 := pw_cell_below hb1 q2; have m0_ := m0; have m1_ := m1; have m0 := pw_cell_below hb1 m0_; have m1 := pw_cell_below hb1 m1_; have z0 := fz_below hb1 m0_ z0; have z1 := fz_below hb1 m1_ z1; clear m0_ m1_; have HB := Sd.mk (HB.out.trans (hb1.mono HB.out.size)); clear hb1)
      | (go_at_call 38; refine (twos_calls _).mono ?_; rintro e w1 ⟨r, l, rfl, mk⟩; have hb1 := mk.b; have p0 := pw_cell_below hb1 p0; have p1 := pw_cell_below hb1 p1; have q0 := pw_cell_below hb1 q0; have q1 := pw_cell_below hb1 q1; have q2 := pw_cell_below hb1 q2; obtain ⟨f, hf1, g, cb, rfl, eg, hf2⟩ := mk.e.find_some HT.out; have hlk := run_find (Tryz.underlying52) (Tryz.underlying9) mk.m a0 .nilFunc (Tryz.zeroValue50 _); rw [hf1] at hlk; clear mk hf1 hf2; simp only at hlk; have m0_ := m0; have m1_ := m1; have m0 := pw_cell_below hb1 m0_; have m1 := pw_cell_below hb1 m1_; have z0 := fz_below hb1 m0_ z0; have z1 := fz_below hb1 m1_ z1; clear m0_ m1_; have HB := Sd.mk (HB.out.trans (hb1.mono HB.out.size)); clear hb1)
      | (go_at_call 23; refine (null_calls _).mono ?_; rintro e w1 ⟨rfl, hb1⟩; have m0_ := m0; have m1_ := m1; have m0 := pw_cell_below hb1 m0_; have m1 := pw_cell_below hb1 m1_; have z0 := fz_below hb1 m0_ z0; have z1 := fz_below hb1 m1_ z1; clear m0_ m1_; have HB := Sd.mk (HB.out.trans (hb1.mono HB.out.size)); clear hb1))
    exact bodyPost_ret (v := .tuple #[vv (2, 0), .int .i64 0]) (by simp [results, Tryz.results11, go_sem, m0, m1]) rfl ⟨rfl, (HB.out.setCell (by simp) _).setCell (by simp) _⟩
set_option maxHeartbeats 8000000 in
set_option maxRecDepth 100000 in
theorem do_two (A : Addr) (x0 x1 y0 y1 : Int) (F : V → V → V) (ht : tab2.lookup a0 = some F) (r1 r2 : Int) (hn : ¬ (x0 = 2 ∨ y0 = 2)) (hF : F (x0, x1) (y0, y1) = (r1, r2)) (hv : isV (x0, x1)) (hu : isV (y0, y1)) (hp0 : w.cell? A = some (.int .i64 x0)) (hp1 : w.cell? ⟨A.block, A.off + 1, none⟩ = some (.int .i64 x1)) (hq0 : w.cell? ⟨A.block, A.off + 2, none⟩ = some (.int .i64 y0)) (hq1 : w.cell? ⟨A.block, A.off + 2 + 1, none⟩ = some (.int .i64 y1)) (hC : ∀ w1, Below w.heap.size w w1 → Calls Tryz.prog 17 #[.slice (some A) 2 c1] w1 fun e w' => e = .returned (.int .i64 0) ∧ Below w1.heap.size w1 w') :
    Calls Tryz.prog 11 #[.string a0, .slice (some A) 2 c1] w fun e w' => e = .returned (.tuple #[vv (r1, r2), .int .i64 0]) ∧ Below w.heap.size w w' := by
  have HT := Sd.mk ht
  clear ht
  have HF := Sd.mk hF
  have HV := Sd.mk hv
  have HU := Sd.mk hu
  have c1 : (x0 == 2) = false := beq_eq_false_iff_ne.2 fun h => hn (Or.inl h)
  have c2 : (y0 == 2) = false := beq_eq_false_iff_ne.2 fun h => hn (Or.inr h)
  clear hF hv hu hn
  have hb0 : Below w.heap.size w (w.alloc (.cells #[.int .i64 0, .int .i64 0] 25)) := below_one w _
  have r0 : (w.alloc (.cells #[.int .i64 0, .int .i64 0] 25)).heap[w.heap.size]? = some (.cells #[.int .i64 0, .int .i64 0] 25 (0, 0)) := blk_new w _
  have m0 := cell_of_row _ _ 0 _ _ _ r0
  have m1 := cell_of_row _ _ 1 _ _ _ r0
  have z0 := blk_frozen r0 0
  have z1 := blk_frozen r0 1
  simp only [List.getElem?_toArray, List.getElem?_cons_zero, List.getElem?_cons_succ] at m0 m1
  have HB := Sd.mk hb0
  have p0 := pw_cell_below hb0 hp0
  have p1 := pw_cell_below hb0 hp1
  have q0 := pw_cell_below hb0 hq0
  have q1 := pw_cell_below hb0 hq1
  have q2 : (w.alloc (.cells #[.int .i64 0, .int .i64 0] 25)).cell? ⟨A.block, A.off + 3, none⟩ = some (.int .i64 y1) := q1
  have HC := Sd.mk (hC _ hb0)
  clear hC hp0 hp1 hq0 hq1
  go_enter Tryz.func11, Tryz.ntmps11
  go_wp2_with fail
  generalize w.alloc (.cells #[.int .i64 0, .int .i64 0] 25) = W1 at HB HC p0 p1 q0 q1 q2 m0 m1 z0 z1 ⊢
  clear hb0 r0
  go_wp2_with (first
    | (go_at_call 17; refine HC.out.mono ?_; rintro e w1 ⟨rfl, hb1⟩; have p0 := pw_cell_below hb1 p0; have p1 := pw_cell_below hb1 p1; have q0 := pw_cell_below hb1 q0; have q1 := pw_cell_below hb1 q1; have q2 := pw_cell_below hb1 q2; have m0_ := m0; have m1_ := m1; have m0 := pw_cell_below hb1 m0_; have m1 := pw_cell_below hb1 m1_; have z0 := fz_below hb1 m0_ z0; have z1 := fz_below hb1 m1_ z1; clear m0_ m1_; have HB := Sd.mk (HB.out.trans (hb1.mono HB.out.size)); clear hb1)
    | (go_at_call 38; refine (twos_calls _).mono ?_; rintro e w1 ⟨r, l, rfl, mk⟩; have hb1 := mk.b; have p0 := pw_cell_below hb1 p0; have p1 := pw_cell_below hb1 p1; have q0 := pw_cell_below hb1 q0; have q1 := pw_cell_below hb1 q1; have q2 := pw_cell_below hb1 q2; obtain ⟨f, hf1, g, cb, rfl, eg, hf2⟩ := mk.e.find_some HT.out; have hlk := run_find (Tryz.underlying52) (Tryz.underlying9) mk.m a0 .nilFunc (Tryz.zeroValue50 _); rw [hf1] at hlk; have HG := Sd.mk (fun w2 (h2 : Keeps r w1 w2) => hf2 w2 h2 (x0, x1) (y0, y1) HV.out HU.out); clear mk hf1 hf2; simp only at hlk; have m0_ := m0; have m1_ := m1; have m0 := pw_cell_below hb1 m0_; have m1 := pw_cell_below hb1 m1_; have z0 := fz_below hb1 m0_ z0; have z1 := fz_below hb1 m1_ z1; clear m0_ m1_; have HB := Sd.mk (HB.out.trans (hb1.mono HB.out.size)); clear hb1; rw [HF.out] at HG))
  go_region_with (go_at_fn g; refine (HG.out _ (Keeps.of_below (Below.refl _ _).drew)).mono ?_; rintro e w1 ⟨rfl, hb1⟩; have m0_ := m0; have m1_ := m1; have m0 := pw_cell_below hb1 m0_; have m1 := pw_cell_below hb1 m1_; have z0 := fz_below hb1 m0_ z0; have z1 := fz_below hb1 m1_ z1; clear m0_ m1_; have HB := Sd.mk (HB.out.trans (((Below.refl _ _).drew.trans hb1).mono HB.out.size)); clear hb1)
  all_goals
    go_wp2_with fail
    exact bodyPost_ret (v := .tuple #[vv (r1, r2), .int .i64 0]) (by simp [results, Tryz.results11, go_sem, m0, m1]) rfl ⟨rfl, (HB.out.setCell (by simp) _).setCell (by simp) _⟩
end
def v_Do.f (a0 : ByteArray) (l1 : List S25) : Option (Int × Int × Int) := some ((vDo a0 (l1.map sv)).1.1, (vDo a0 (l1.map sv)).1.2, (vDo a0 (l1.map sv)).2)
theorem cellz {w : World} {A : Option Addr} {n : Nat} {xs : List S25} (h : Kd.C k25 w A n xs) (i : Nat) (h1 : i < n) : ∃ ad, A = some ad ∧ w.cell? (ad.add (i * 2)) = some (.int .i64 (rd_T25 xs i).f0) ∧ w.cell? ⟨(ad.add (i * 2)).block, (ad.add (i * 2)).off + 1, none⟩ = some (.int .i64 (rd_T25 xs i).f1) := by
  obtain ⟨ad, e, p0, p1⟩ := at_T25 h (i : Int) (by omega) (by omega)
  rw [Int.toNat_natCast] at p0 p1
  exact ⟨ad, e, p0, p1⟩
set_option maxRecDepth 10000 in
theorem v_Do.calls (a0 : ByteArray) (A1 : Option Addr) (c1 : Nat) (l1 : List S25) (r1 r2 r3 : Int) (w : World) (hr1 : Kd.C k25 w A1 l1.length l1) (hc1 : l1.length ≤ c1) (h : v_Do.f a0 l1 = some (r1, r2, r3)) :
    Calls Tryz.prog 11 #[.string a0, .slice A1 l1.length c1] w fun e w' => e = .returned (.tuple #[.agg #[.int .i64 r1, .int .i64 r2], .int .i64 r3]) ∧ Below w.heap.size w w' := by
  have hcall : Calls Tryz.prog 11 #[.string a0, .slice A1 l1.length c1] w fun e w' => e = .returned (.tuple #[vv (vDo a0 (l1.map sv)).1, .int .i64 (vDo a0 (l1.map sv)).2]) ∧ Below w.heap.size w w' := by
    clear h
    have hC : ∀ w1, Below w.heap.size w w1 → Calls Tryz.prog 17 #[.slice A1 l1.length c1] w1 fun e w' => e = .returned (.int .i64 (if l1.any badV then 80 else 0)) ∧ Below w1.heap.size w1 w' := fun w1 h1 => v_Check.calls A1 c1 l1 _ w1 (Kd.C_below hr1 h1) hc1 rfl
    by_cases hb : l1.any badV = true
    · rw [if_pos hb] at hC
      have e : vDo a0 (l1.map sv) = ((0, 0), 80) := by unfold vDo; rw [any_sv, if_pos hb]
      rw [e]
      exact do_bad a0 c1 w A1 l1.length hC
    · rw [if_neg hb] at hC
      match l1, hr1, hb, hC with
      | [], hr1, hb, hC =>
        have e : vDo a0 (([] : List S25).map sv) = ((0, 0), 2) := rfl
        rw [e]
        exact do_len a0 c1 w A1 0 (by decide) (by decide) hC
      | [x], hr1, hb, hC =>
        obtain ⟨ad, rfl, p0, p1⟩ := cellz hr1 0 (by simp)
        have hv : isV (x.f0, x.f1) := by simpa [badV, sv] using hb
        cases ht : tab1.lookup a0 with
        | none =>
          have e : vDo a0 ([x].map sv) = ((0, 0), 2) := by unfold vDo; rw [any_sv, if_neg hb]; simp [ht]
          rw [e]
          exact do_one_none a0 c1 w ad x.f0 x.f1 ht p0 p1 hC
        | some F =>
          have e : vDo a0 ([x].map sv) = (F (x.f0, x.f1), 0) := by unfold vDo; rw [any_sv, if_neg hb]; simp [ht]
          rw [e]
          exact do_one a0 c1 w ad x.f0 x.f1 F ht _ _ rfl hv p0 p1 hC
      | [x, y], hr1, hb, hC =>
        obtain ⟨ad, rfl, p0, p1⟩ := cellz hr1 0 (by simp)
        obtain ⟨ad', e', q0, q1⟩ := cellz hr1 1 (by simp)
        injection e' with e'
        subst e'
        have hv : isV (x.f0, x.f1) ∧ isV (y.f0, y.f1) := by simpa [badV, sv] using hb
        cases ht : tab2.lookup a0 with
        | none =>
          have e : vDo a0 ([x, y].map sv) = ((0, 0), 2) := by unfold vDo; rw [any_sv, if_neg hb]; simp [ht]
          rw [e]
          exact do_two_none a0 c1 w ad x.f0 x.f1 y.f0 y.f1 ht p0 p1 q0 q1 hC
        | some F =>
          by_cases hn : x.f0 = 2 ∨ y.f0 = 2
          · have e : vDo a0 ([x, y].map sv) = ((2, 0), 0) := by unfold vDo; rw [any_sv, if_neg hb]; simp [ht, hn]
            rw [e]
            exact do_two_null a0 c1 w ad x.f0 x.f1 y.f0 y.f1 F ht hn p0 p1 q0 q1 hC
          · have e : vDo a0 ([x, y].map sv) = (F (x.f0, x.f1) (y.f0, y.f1), 0) := by unfold vDo; rw [any_sv, if_neg hb]; simp [ht, hn]
            rw [e]
            exact do_two a0 c1 w ad x.f0 x.f1 y.f0 y.f1 F ht _ _ hn rfl hv.1 hv.2 p0 p1 q0 q1 hC
      | x :: y :: z :: l, hr1, hb, hC =>
        have e : vDo a0 ((x :: y :: z :: l).map sv) = ((0, 0), 2) := by unfold vDo; rw [any_sv, if_neg hb]; rfl
        rw [e]
        exact do_len a0 c1 w A1 _ (by simp) (by simp) hC
  injection h with h
  injection h with h1 h
  injection h with h2 h3
  subst h1 h2 h3
  exact hcall
end Go.Proofs.YtcmiehddjgfjaaaGreatDoor.A
