/- A part of the proof of LawValueDoes: contracts and plain laws, put together by a program of this session. -/
import Derived.Test.YtcmiehddjgfjaaaGreatDoorCDoe3
namespace Go.Proofs.YtcmiehddjgfjaaaGreatDoor.A
open Go.RowKit Go.Proofs.YtcmiehddjgfjaaaGreatDoorW.PrintWords Go.Proofs.YtcmiehddjgfjaaaGreatDoorW.PrintLast Go.Proofs.YtcmiehddjgfjaaaGreatDoorW.PrintMore
attribute [local go_sem] max2_int min2_int max_two min_two max_three min_three max_four min_four   -- for this text's walks alone
set_option linter.unusedVariables false
set_option linter.unusedSimpArgs false
mutual
def r8_times.j0 : Nat → Int → Bool → Int → Int → Int → Int → Option (Int × Int)
 | 0, _, _, _, _, _, _ => none
 | k + 1, x5, x22, x291000, x291001, x292000, x292001 => if x22 = true then ((r8_beyond.f x5).bind fun bt297 => (some (bt297.1, bt297.2))) else ((r8_size.f x291001).bind fun t299 => ((r8_size.f x292001).bind fun t300 => (if (wrap64 (Int.tdiv t299 1000)) > 0 then (if (wrap64 (Int.tdiv t299 1000)) = 0 then (none) else (r8_times.j1 k x5 t300 (wrap64 (Int.tdiv t299 1000)) (Int.tmod t299 1000) (decide (t300 > (wrap64 ((1000000000000000 : Int) / (wrap64 (Int.tdiv t299 1000)))))))) else (r8_times.j1 k x5 t300 (wrap64 (Int.tdiv t299 1000)) (Int.tmod t299 1000) false))))
def r8_times.j1 : Nat → Int → Int → Int → Int → Bool → Option (Int × Int)
 | 0, _, _, _, _, _ => none
 | k + 1, x5, x7, x8, x9, x42 => if x42 = true then ((r8_beyond.f x5).bind fun bt301 => (some (bt301.1, bt301.2))) else ((r8_Num.f (wrap64 (x5 * (wrap64 ((wrap64 (x8 * x7)) + (wrap64 (Int.tdiv (wrap64 (x9 * x7)) 1000))))))).bind fun bt303 => (some (bt303.1, bt303.2)))
end
def r8_times.f (k : Nat) (a0_0 : Int) (a0_1 : Int) (a1_0 : Int) (a1_1 : Int) : Option (Int × Int) := (r8_sign.f k a0_0 a0_1).bind fun t293 => ((r8_sign.f k a1_0 a1_1).bind fun t294 => ((r8_num.f a0_0 a0_1).bind fun t295 => (if t295 = true then ((r8_num.f a1_0 a1_1).bind fun t296 => (r8_times.j0 k (wrap64 (t293 * t294)) (!t296) a0_0 a0_1 a1_0 a1_1)) else (r8_times.j0 k (wrap64 (t293 * t294)) true a0_0 a0_1 a1_0 a1_1))))
theorem r8_times.mono_l : ∀ k, (∀ y0 y1 y2 y3 y4 y5, LeO (r8_times.j0 k y0 y1 y2 y3 y4 y5) (r8_times.j0 (k + 1) y0 y1 y2 y3 y4 y5)) ∧ (∀ y0 y1 y2 y3 y4, LeO (r8_times.j1 k y0 y1 y2 y3 y4) (r8_times.j1 (k + 1) y0 y1 y2 y3 y4))
 | 0 => ⟨fun _ _ _ _ _ _ r h => by simp [r8_times.j0] at h, fun _ _ _ _ _ r h => by simp [r8_times.j1] at h⟩
 | k + 1 => by
  obtain ⟨ih0, ih1⟩ := r8_times.mono_l k
  refine ⟨?_, ?_⟩
  ·intro y0 y1 y2 y3 y4 y5
   unfold r8_times.j0
   repeat' first
   | (with_reducible exact ih0 _ _ _ _ _ _)
   | (with_reducible exact ih1 _ _ _ _ _)
   | (with_reducible exact r8_sign.mono _ _ _)
   | (with_reducible exact LeO.refl _)
   | (with_reducible exact LeO.none _)
   | (with_reducible refine LeO.ite ?_ ?_)
   | (with_reducible refine LeO.bind ?_ (fun _ => ?_))
   | exact ih0 _ _ _ _ _ _
   | exact ih1 _ _ _ _ _
   | exact r8_sign.mono _ _ _
   | exact LeO.none _
   | refine LeO.ite ?_ ?_
   | refine LeO.bind ?_ (fun _ => ?_)
  ·intro y0 y1 y2 y3 y4
   unfold r8_times.j1
   repeat' first
   | (with_reducible exact ih0 _ _ _ _ _ _)
   | (with_reducible exact ih1 _ _ _ _ _)
   | (with_reducible exact r8_sign.mono _ _ _)
   | (with_reducible exact LeO.refl _)
   | (with_reducible exact LeO.none _)
   | (with_reducible refine LeO.ite ?_ ?_)
   | (with_reducible refine LeO.bind ?_ (fun _ => ?_))
   | exact ih0 _ _ _ _ _ _
   | exact ih1 _ _ _ _ _
   | exact r8_sign.mono _ _ _
   | exact LeO.none _
   | refine LeO.ite ?_ ?_
   | refine LeO.bind ?_ (fun _ => ?_)
theorem r8_times.mono : ∀ a0 a1 a2 a3 k, LeO (r8_times.f k a0 a1 a2 a3) (r8_times.f (k + 1) a0 a1 a2 a3) := by
 intro a0 a1 a2 a3 k
 obtain ⟨ih0, ih1⟩ := r8_times.mono_l k
 unfold r8_times.f
 repeat' first
   | (with_reducible exact ih0 _ _ _ _ _ _)
   | (with_reducible exact ih1 _ _ _ _ _)
   | (with_reducible exact r8_sign.mono _ _ _)
   | (with_reducible exact LeO.refl _)
   | (with_reducible exact LeO.none _)
   | (with_reducible refine LeO.ite ?_ ?_)
   | (with_reducible refine LeO.bind ?_ (fun _ => ?_))
   | exact ih0 _ _ _ _ _ _
   | exact ih1 _ _ _ _ _
   | exact r8_sign.mono _ _ _
   | exact LeO.none _
   | refine LeO.ite ?_ ?_
   | refine LeO.bind ?_ (fun _ => ?_)
def r8_times.T4 : Bool × List (List Nat × List Nat) := (true, [([], []), ([0], [0]), ([1], [1]), ([], []), ([3], [3]), ([4, 2], [4]), ([2, 5, 0, 1, 2], [2]), ([5, 6, 0, 1, 2, 3, 4, 5, 6], [5])])
def r8_times.B4 : List Nat := [0, 1, 3, 0, 8, 31, 63, 127]
theorem r8_times.tab4 : rtab .any (opsOf Tryz.f79 4) = r8_times.T4 := by kernel_rfl
theorem r8_times.bits4 : waitsOk r8_times.T4.2 r8_times.B4 = true := by kernel_rfl
set_option maxHeartbeats 8000000 in
set_option maxRecDepth 100000 in
theorem r8_times.calls (k : Nat) (a0_0 : Int) (a0_1 : Int) (a1_0 : Int) (a1_1 : Int) (r1 : Int) (r2 : Int) (w : World) (h : r8_times.f k a0_0 a0_1 a1_0 a1_1 = some (r1, r2)) :
  Calls Tryz.prog 79 #[.agg #[.int .i64 a0_0, .int .i64 a0_1], .agg #[.int .i64 a1_0, .int .i64 a1_1]] w fun e w' => e = .returned (.agg #[.int .i64 r1, .int .i64 r2]) ∧ Below w.heap.size w w' := by
 have hu25 := Tryz.underlying25
 have HB := Sd.mk (Below.refl w.heap.size w)
 have H : ((r8_sign.f k a0_0 a0_1).bind fun t293 => ((r8_sign.f k a1_0 a1_1).bind fun t294 => ((r8_num.f a0_0 a0_1).bind fun t295 => (if t295 = true then ((r8_num.f a1_0 a1_1).bind fun t296 => (r8_times.j0 k (wrap64 (t293 * t294)) (!t296) a0_0 a0_1 a1_0 a1_1)) else (r8_times.j0 k (wrap64 (t293 * t294)) true a0_0 a0_1 a1_0 a1_1))))) = some (r1, r2) := h
 clear h
 replace H := Option.bind_eq_some_iff.mp H
 obtain ⟨t293, A30, H⟩ := H
 replace H : ((r8_sign.f k a1_0 a1_1).bind fun t294 => ((r8_num.f a0_0 a0_1).bind fun t295 => (if t295 = true then ((r8_num.f a1_0 a1_1).bind fun t296 => (r8_times.j0 k (wrap64 (t293 * t294)) (!t296) a0_0 a0_1 a1_0 a1_1)) else (r8_times.j0 k (wrap64 (t293 * t294)) true a0_0 a0_1 a1_0 a1_1)))) = some (r1, r2) := H
 have A3 := Sd.mk A30
 clear A30
 replace H := Option.bind_eq_some_iff.mp H
 obtain ⟨t294, A40, H⟩ := H
 replace H : ((r8_num.f a0_0 a0_1).bind fun t295 => (if t295 = true then ((r8_num.f a1_0 a1_1).bind fun t296 => (r8_times.j0 k (wrap64 (t293 * t294)) (!t296) a0_0 a0_1 a1_0 a1_1)) else (r8_times.j0 k (wrap64 (t293 * t294)) true a0_0 a0_1 a1_0 a1_1))) = some (r1, r2) := H
 have A4 := Sd.mk A40
 clear A40
 have HC5 := Sd.mk H
 clear H
 go_enter Tryz.func79, Tryz.ntmps79
 try go_wp2_with (first | ((with_reducible refine gate_dst (N := 2) rfl ?_); refine box_event ?hg (N := 2) ?hd (cs := #[.int .i64 a0_0, .int .i64 a0_1]) (t := 25) ?hr ?_; (case hd => rfl); (case hg => rfl); (case hr => first | (go_simp; done) | (go_simp; rfl)); intro gb290 hg w6 hbox hb; have n0_ := Sd.mk (below_step (by exact blwF HB.out) hb); have n1_ := Sd.mk (hbox); have n2_ := Sd.mk ((by rw [hg]; exact (below_size (by exact blwF HB.out)) : w.heap.size ≤ gb290)); have n3_ := Sd.mk ((by rw [hg]; exact (below_size (by exact blwF HB.out)) : w.heap.size ≤ gb290)); clear HB; have HB := n0_; have BK290 := n1_; have GW290 := n2_; have GE290 := n3_; clear n0_ n1_ n2_ n3_; clear hb hbox hg) | ((with_reducible refine gate_dst (N := 3) rfl ?_); refine box_event ?hg (N := 3) ?hd (cs := #[.int .i64 a1_0, .int .i64 a1_1]) (t := 25) ?hr ?_; (case hd => rfl); (case hg => rfl); (case hr => first | (go_simp; done) | (go_simp; rfl)); intro gb291 hg w7 hbox hb; have n0_ := Sd.mk (blk_below (g := gb290) (o := .cells #[.int .i64 a0_0, .int .i64 a0_1] 25 (0, 0)) (by exact blkF BK290.out) hb); have n1_ := Sd.mk (below_step (by repeat (first | (with_reducible first | exact HB.out | apply bal | apply pbd | apply bd1 | refine bst ?_ GE290.out) | exact HB.out)) hb); have n2_ := Sd.mk (hbox); have n3_ := Sd.mk ((by rw [hg]; exact (below_size (by repeat (first | (with_reducible first | exact HB.out | apply bal | apply pbd | apply bd1 | refine bst ?_ GE290.out) | exact HB.out))) : w.heap.size ≤ gb291)); have n4_ := Sd.mk ((by rw [hg]; exact (below_size (by repeat (first | (with_reducible first | exact HB.out | apply bal | apply pbd | apply bd1 | refine bst ?_ GE290.out) | exact HB.out))) : w.heap.size ≤ gb291)); have n5_ := Sd.mk ((by rw [hg]; exact Nat.ne_of_lt (blk_lt (g := gb290) (o := .cells #[.int .i64 a0_0, .int .i64 a0_1] 25 (0, 0)) (by exact blkF BK290.out)) : gb290 ≠ gb291)); have n6_ := Sd.mk ((by rw [hg]; exact Nat.ne_of_gt (blk_lt (g := gb290) (o := .cells #[.int .i64 a0_0, .int .i64 a0_1] 25 (0, 0)) (by exact blkF BK290.out)) : gb291 ≠ gb290)); clear BK290; clear HB; have BK290 := n0_; have HB := n1_; have BK291 := n2_; have GW291 := n3_; have GE291 := n4_; have NB290_291 := n5_; have NB291_290 := n6_; clear n0_ n1_ n2_ n3_ n4_ n5_ n6_; clear hb hbox hg) | ((with_reducible refine gate_dst (N := 4) rfl ?_); refine box_event ?hg (N := 4) ?hd (cs := #[.int .i64 0, .int .i64 0]) (t := 25) ?hr ?_; (case hd => rfl); (case hg => rfl); (case hr => first | (go_simp; done) | (go_simp; rfl)); intro gb292 hg w8 hbox hb; have n0_ := Sd.mk (blk_below (g := gb290) (o := .cells #[.int .i64 a0_0, .int .i64 a0_1] 25 (0, 0)) (by exact blkF BK290.out) hb); have n1_ := Sd.mk (blk_below (g := gb291) (o := .cells #[.int .i64 a1_0, .int .i64 a1_1] 25 (0, 0)) (by exact blkF BK291.out) hb); have n2_ := Sd.mk (below_step (by repeat (first | (with_reducible first | exact HB.out | apply bal | apply pbd | apply bd1 | refine bst ?_ GE290.out | refine bst ?_ GE291.out) | exact HB.out)) hb); have n3_ := Sd.mk (hbox); have n4_ := Sd.mk ((by rw [hg]; exact (below_size (by repeat (first | (with_reducible first | exact HB.out | apply bal | apply pbd | apply bd1 | refine bst ?_ GE290.out | refine bst ?_ GE291.out) | exact HB.out))) : w.heap.size ≤ gb292)); have n5_ := Sd.mk ((by rw [hg]; exact (below_size (by repeat (first | (with_reducible first | exact HB.out | apply bal | apply pbd | apply bd1 | refine bst ?_ GE290.out | refine bst ?_ GE291.out) | exact HB.out))) : w.heap.size ≤ gb292)); have n6_ := Sd.mk ((by rw [hg]; exact Nat.ne_of_lt (blk_lt (g := gb290) (o := .cells #[.int .i64 a0_0, .int .i64 a0_1] 25 (0, 0)) (by exact blkF BK290.out)) : gb290 ≠ gb292)); have n7_ := Sd.mk ((by rw [hg]; exact Nat.ne_of_gt (blk_lt (g := gb290) (o := .cells #[.int .i64 a0_0, .int .i64 a0_1] 25 (0, 0)) (by exact blkF BK290.out)) : gb292 ≠ gb290)); have n8_ := Sd.mk ((by rw [hg]; exact Nat.ne_of_lt (blk_lt (g := gb291) (o := .cells #[.int .i64 a1_0, .int .i64 a1_1] 25 (0, 0)) (by exact blkF BK291.out)) : gb291 ≠ gb292)); have n9_ := Sd.mk ((by rw [hg]; exact Nat.ne_of_gt (blk_lt (g := gb291) (o := .cells #[.int .i64 a1_0, .int .i64 a1_1] 25 (0, 0)) (by exact blkF BK291.out)) : gb292 ≠ gb291)); clear BK290; clear BK291; clear HB; have BK290 := n0_; have BK291 := n1_; have HB := n2_; have BK292 := n3_; have GW292 := n4_; have GE292 := n5_; have NB290_292 := n6_; have NB292_290 := n7_; have NB291_292 := n8_; have NB292_291 := n9_; clear n0_ n1_ n2_ n3_ n4_ n5_ n6_ n7_ n8_ n9_; clear hb hbox hg))
 have n0_ := Sd.mk (blk_drew BK290.out)
 have n1_ := Sd.mk (blk_drew BK291.out)
 have n2_ := Sd.mk (blk_drew BK292.out)
 have n3_ := Sd.mk (bd1 HB.out)
 clear BK290
 clear BK291
 clear BK292
 clear HB
 have BK290 := n0_
 have BK291 := n1_
 have BK292 := n2_
 have HB := n3_
 clear n0_ n1_ n2_ n3_
 refine start_ (n := 6) (S := fun w' => w'.cell? ⟨gb290, 0, none⟩ = some (.int .i64 a0_0) ∧ w'.cell? ⟨gb290, 1, none⟩ = some (.int .i64 a0_1) ∧ w'.cell? ⟨gb291, 0, none⟩ = some (.int .i64 a1_0) ∧ w'.cell? ⟨gb291, 1, none⟩ = some (.int .i64 a1_1)) (ds := []) #[false, false, false, false, false, false] (by kernel_rfl) rfl rfl ⟨(blk_cell BK290.out 0).trans rfl, (blk_cell BK290.out 1).trans rfl, (blk_cell BK291.out 0).trans rfl, (blk_cell BK291.out 1).trans rfl⟩ (fun hHeld => ?_)
 generalize w8.drew = w9 at BK290 BK291 BK292 HB hHeld ⊢
 refine take_ (i := 0) (N := some 10) (v := ?_) (a' := ?_) #[true, false, false, false, false, false] rfl rfl (by kernel_rfl) (fun _ _ _ h => h) (Or.inl ⟨by rfl, ?_⟩) hHeld ?_ ?_
 rotate_left
 ·rintro w' ⟨s0, s1, s2, s3⟩
  go_simp
  with_reducible rfl
 rotate_left
 ·simp only [Act.put, List.setIfInBounds_toArray, List.set_cons_zero, List.set_cons_succ, i64_w, i32_w]
  rfl
 refine take_ (i := 2) (N := some 12) (v := ?_) (a' := ?_) #[true, false, true, false, false, false] rfl rfl (by kernel_rfl) (fun _ _ _ h => h) (Or.inl ⟨by rfl, ?_⟩) hHeld ?_ ?_
 rotate_left
 ·rintro w' ⟨s0, s1, s2, s3⟩
  go_simp
  with_reducible rfl
 rotate_left
 ·simp only [Act.put, List.setIfInBounds_toArray, List.set_cons_zero, List.set_cons_succ, i64_w, i32_w]
  rfl
 refine one_ (i := 1) (N := some 11) #[true, true, true, false, false, false] rfl rfl (by kernel_rfl) (by decide) (fun K hK => ?_)
 refine goes_ Tryz.func75 (by kernel_rfl) rfl #[.agg #[.int .i64 a0_0, .int .i64 a0_1]] (by rfl) rfl rfl (by (try simp only [List.map_toArray, List.map_cons, List.map_nil]); first | done | rfl | (simp only [List.length_drop, List.length_take]; rfl)) ?_
 with_reducible refine (r8_sign.calls k a0_0 a0_1 t293 _ A3.out).mono ?_
 rintro e w10 ⟨rfl, hb⟩
 refine ⟨_, rfl, ?_⟩
 have n0_ := Sd.mk (blk_below (g := gb290) (o := .cells #[.int .i64 a0_0, .int .i64 a0_1] 25 (0, 0)) (by exact blkF BK290.out) hb)
 have n1_ := Sd.mk (blk_below (g := gb291) (o := .cells #[.int .i64 a1_0, .int .i64 a1_1] 25 (0, 0)) (by exact blkF BK291.out) hb)
 have n2_ := Sd.mk (blk_below (g := gb292) (o := .cells #[.int .i64 0, .int .i64 0] 25 (0, 0)) (by exact blkF BK292.out) hb)
 have n3_ := Sd.mk (below_step (by repeat (first | (with_reducible first | exact HB.out | apply bal | apply pbd | apply bd1 | refine bst ?_ GE290.out | refine bst ?_ GE291.out | refine bst ?_ GE292.out) | exact HB.out)) hb)
 clear BK290
 clear BK291
 clear BK292
 clear HB
 have BK290 := n0_
 have BK291 := n1_
 have BK292 := n2_
 have HB := n3_
 clear n0_ n1_ n2_ n3_
 (try clear hb)
 (try clear hb2)
 (try clear hk)
 (try clear hi)
 refine hK.out _ _ ⟨(blk_cell BK290.out 0).trans rfl, (blk_cell BK290.out 1).trans rfl, (blk_cell BK291.out 0).trans rfl, (blk_cell BK291.out 1).trans rfl⟩ (fun hHeld => ?_)
 clear hK K
 refine norm_ (a' := ?_) ?_ ?_
 rotate_left
 ·show Act.put _ (some 11) _ = _
  simp only [Act.put, List.setIfInBounds_toArray, List.set_cons_zero, List.set_cons_succ, i64_w, i32_w]
  rfl
 refine one_ (i := 3) (N := some 13) #[true, true, true, true, false, false] rfl rfl (by kernel_rfl) (by decide) (fun K hK => ?_)
 refine goes_ Tryz.func75 (by kernel_rfl) rfl #[.agg #[.int .i64 a1_0, .int .i64 a1_1]] (by rfl) rfl rfl (by (try simp only [List.map_toArray, List.map_cons, List.map_nil]); first | done | rfl | (simp only [List.length_drop, List.length_take]; rfl)) ?_
 with_reducible refine (r8_sign.calls k a1_0 a1_1 t294 _ A4.out).mono ?_
 rintro e w11 ⟨rfl, hb⟩
 refine ⟨_, rfl, ?_⟩
 have n0_ := Sd.mk (blk_below (g := gb290) (o := .cells #[.int .i64 a0_0, .int .i64 a0_1] 25 (0, 0)) (by exact blkF BK290.out) hb)
 have n1_ := Sd.mk (blk_below (g := gb291) (o := .cells #[.int .i64 a1_0, .int .i64 a1_1] 25 (0, 0)) (by exact blkF BK291.out) hb)
 have n2_ := Sd.mk (blk_below (g := gb292) (o := .cells #[.int .i64 0, .int .i64 0] 25 (0, 0)) (by exact blkF BK292.out) hb)
 have n3_ := Sd.mk (below_step (by repeat (first | (with_reducible first | exact HB.out | apply bal | apply pbd | apply bd1 | refine bst ?_ GE290.out | refine bst ?_ GE291.out | refine bst ?_ GE292.out) | exact HB.out)) hb)
 clear BK290
 clear BK291
 clear BK292
 clear HB
 have BK290 := n0_
 have BK291 := n1_
 have BK292 := n2_
 have HB := n3_
 clear n0_ n1_ n2_ n3_
 (try clear hb)
 (try clear hb2)
 (try clear hk)
 (try clear hi)
 refine hK.out _ _ ⟨(blk_cell BK290.out 0).trans rfl, (blk_cell BK290.out 1).trans rfl, (blk_cell BK291.out 0).trans rfl, (blk_cell BK291.out 1).trans rfl⟩ (fun hHeld => ?_)
 clear hK K
 refine norm_ (a' := ?_) ?_ ?_
 rotate_left
 ·show Act.put _ (some 13) _ = _
  simp only [Act.put, List.setIfInBounds_toArray, List.set_cons_zero, List.set_cons_succ, i64_w, i32_w]
  rfl
 refine pure_ (i := 4) (N := some 14) (v := ?_) (a' := ?_) #[true, true, true, true, true, false] rfl rfl (by kernel_rfl) (fun _ _ _ h => h) (Or.inl ⟨by rfl, ?_⟩) ?_ ?_
 rotate_left
 ·intro w'
  go_simp
  with_reducible rfl
 rotate_left
 ·simp only [Act.put, List.setIfInBounds_toArray, List.set_cons_zero, List.set_cons_succ, i64_w, i32_w]
  rfl
 refine pure_ (i := 5) (N := some 5) (v := ?_) (a' := ?_) #[true, true, true, true, true, true] rfl rfl (by kernel_rfl) (fun _ _ _ h => h) (Or.inl ⟨by rfl, ?_⟩) ?_ ?_
 rotate_left
 ·intro w'
  go_simp
  with_reducible rfl
 rotate_left
 ·simp only [Act.put, List.setIfInBounds_toArray, List.set_cons_zero, List.set_cons_succ, i64_w, i32_w]
  rfl
 refine done_ (by kernel_rfl) ?_
 go_upto_region 2 with (fail)
 go_cut [22] (fun v22 wc => ∃ (kq : Nat) (x22_4 : Bool), v22 = .bool x22_4 ∧ Sd (r8_times.j0 kq (wrap64 (t293 * t294)) x22_4 a0_0 a0_1 a1_0 a1_1 = some (r1, r2)) ∧ Sd (kq ≤ k) ∧ Sd (wc.heap[gb290]? = some (.cells #[.int .i64 a0_0, .int .i64 a0_1] 25 (0, 0))) ∧ Sd (wc.heap[gb291]? = some (.cells #[.int .i64 a1_0, .int .i64 a1_1] 25 (0, 0))) ∧ Sd (wc.heap[gb292]? = some (.cells #[.int .i64 0, .int .i64 0] 25 (0, 0))) ∧ Sd (Below w.heap.size w wc))
 case first =>
  have H := HC5.out
  clear HC5
  replace H := Option.bind_eq_some_iff.mp H
  obtain ⟨t295, A120, H⟩ := H
  replace H : (if t295 = true then ((r8_num.f a1_0 a1_1).bind fun t296 => (r8_times.j0 k (wrap64 (t293 * t294)) (!t296) a0_0 a0_1 a1_0 a1_1)) else (r8_times.j0 k (wrap64 (t293 * t294)) true a0_0 a0_1 a1_0 a1_1)) = some (r1, r2) := H
  have A12 := Sd.mk A120
  clear A120
  by_cases c13 : t295 = true
  ·subst c13
   have H1 : ((r8_num.f a1_0 a1_1).bind fun t296 => (r8_times.j0 k (wrap64 (t293 * t294)) (!t296) a0_0 a0_1 a1_0 a1_1)) = some (r1, r2) := by rw [if_pos rfl] at H; exact H
   clear H
   have H := H1
   clear H1
   replace H := Option.bind_eq_some_iff.mp H
   obtain ⟨t296, A140, H⟩ := H
   replace H : (r8_times.j0 k (wrap64 (t293 * t294)) (!t296) a0_0 a0_1 a1_0 a1_1) = some (r1, r2) := H
   have A14 := Sd.mk A140
   clear A140
   have H' := Sd.mk H
   clear H
   have hnb15 := NB290_291.out
   have hnc15 := NB291_290.out
   have hnb16 := NB290_292.out
   have hnc16 := NB292_290.out
   have hcz17_0 : w11.cell? ⟨gb290, 0, none⟩ = some (.int .i64 a0_0) := (blk_cell BK290.out 0).trans rfl
   have hcz17_1 : w11.cell? ⟨gb290, 1, none⟩ = some (.int .i64 a0_1) := (blk_cell BK290.out 1).trans rfl
   have hfz17_0 := blk_frozen BK290.out 0
   have hfz17_1 := blk_frozen BK290.out 1
   go_wp2_with (first | ((with_reducible refine gate_callee (f := 48) rfl ?_); refine goesL_ (some 16) rfl rfl Tryz.func48 (by kernel_rfl) rfl #[.agg #[.int .i64 a0_0, .int .i64 a0_1]] rfl (by (try simp only [List.map_toArray, List.map_cons, List.map_nil]); first | done | rfl | (simp only [List.length_drop, List.length_take]; rfl)) ?_; (with_reducible refine (r8_num.calls a0_0 a0_1 true _ A12.out).mono ?_); rintro e w18 ⟨rfl, hb⟩; refine ⟨_, rfl, ?_⟩; have n0_ := Sd.mk (blk_below (g := gb290) (o := .cells #[.int .i64 a0_0, .int .i64 a0_1] 25 (0, 0)) (by exact blkF BK290.out) hb); have n1_ := Sd.mk (blk_below (g := gb291) (o := .cells #[.int .i64 a1_0, .int .i64 a1_1] 25 (0, 0)) (by exact blkF BK291.out) hb); have n2_ := Sd.mk (blk_below (g := gb292) (o := .cells #[.int .i64 0, .int .i64 0] 25 (0, 0)) (by exact blkF BK292.out) hb); have n3_ := Sd.mk (below_step (by repeat (first | (with_reducible first | exact HB.out | apply bal | apply pbd | apply bd1 | refine bst ?_ GE290.out | refine bst ?_ GE291.out | refine bst ?_ GE292.out) | exact HB.out)) hb); clear BK290; clear BK291; clear BK292; clear HB; have BK290 := n0_; have BK291 := n1_; have BK292 := n2_; have HB := n3_; clear n0_ n1_ n2_ n3_; (try clear hb); (try clear hb2); (try clear hk); (try clear hi); have hnb19 := NB291_292.out; have hnc19 := NB292_291.out; have hcz20_0 : w18.cell? ⟨gb291, 0, none⟩ = some (.int .i64 a1_0) := (blk_cell BK291.out 0).trans rfl; have hcz20_1 : w18.cell? ⟨gb291, 1, none⟩ = some (.int .i64 a1_1) := (blk_cell BK291.out 1).trans rfl; have hfz20_0 := blk_frozen BK291.out 0; have hfz20_1 := blk_frozen BK291.out 1) | (go_at_call 48; (with_reducible refine (r8_num.calls a1_0 a1_1 t296 _ A14.out).mono ?_); rintro e w21 ⟨rfl, hb⟩; have n0_ := Sd.mk (blk_below (g := gb290) (o := .cells #[.int .i64 a0_0, .int .i64 a0_1] 25 (0, 0)) (by exact blkF BK290.out) hb); have n1_ := Sd.mk (blk_below (g := gb291) (o := .cells #[.int .i64 a1_0, .int .i64 a1_1] 25 (0, 0)) (by exact blkF BK291.out) hb); have n2_ := Sd.mk (blk_below (g := gb292) (o := .cells #[.int .i64 0, .int .i64 0] 25 (0, 0)) (by exact blkF BK292.out) hb); have n3_ := Sd.mk (below_step (by repeat (first | (with_reducible first | exact HB.out | apply bal | apply pbd | apply bd1 | refine bst ?_ GE290.out | refine bst ?_ GE291.out | refine bst ?_ GE292.out) | exact HB.out)) hb); clear BK290; clear BK291; clear BK292; clear HB; have BK290 := n0_; have BK291 := n1_; have BK292 := n2_; have HB := n3_; clear n0_ n1_ n2_ n3_; (try clear hb); (try clear hb2); (try clear hk); (try clear hi)))
   go_meet
   case rel => exact ⟨_, (!t296), (by first | rfl | (simp; done) | (simp [*]; done)), H', ⟨by first | omega | exact Nat.le_refl _⟩, ⟨by (with_reducible repeat (first | refine blk_drewN ?_ _ | refine blk_drew ?_ | refine blk_alloc ?_ _)); exact BK290.out⟩, ⟨by (with_reducible repeat (first | refine blk_drewN ?_ _ | refine blk_drew ?_ | refine blk_alloc ?_ _)); exact BK291.out⟩, ⟨by (with_reducible repeat (first | refine blk_drewN ?_ _ | refine blk_drew ?_ | refine blk_alloc ?_ _)); exact BK292.out⟩, ⟨by repeat (first | (with_reducible first | exact HB.out | apply bal | apply pbd | apply bd1 | refine bst ?_ GE290.out | refine bst ?_ GE291.out | refine bst ?_ GE292.out) | exact HB.out)⟩⟩
  ·replace c13 := Bool.eq_false_iff.mpr c13
   subst c13
   have H1 : (r8_times.j0 k (wrap64 (t293 * t294)) true a0_0 a0_1 a1_0 a1_1) = some (r1, r2) := by rw [if_neg (show ¬ (false = true) by decide)] at H; exact H
   clear H
   have H := H1
   clear H1
   have H' := Sd.mk H
   clear H
   have hnb22 := NB290_291.out
   have hnc22 := NB291_290.out
   have hnb23 := NB290_292.out
   have hnc23 := NB292_290.out
   have hcz24_0 : w11.cell? ⟨gb290, 0, none⟩ = some (.int .i64 a0_0) := (blk_cell BK290.out 0).trans rfl
   have hcz24_1 : w11.cell? ⟨gb290, 1, none⟩ = some (.int .i64 a0_1) := (blk_cell BK290.out 1).trans rfl
   have hfz24_0 := blk_frozen BK290.out 0
   have hfz24_1 := blk_frozen BK290.out 1
   go_wp2_with (first | ((with_reducible refine gate_callee (f := 48) rfl ?_); refine goesL_ (some 16) rfl rfl Tryz.func48 (by kernel_rfl) rfl #[.agg #[.int .i64 a0_0, .int .i64 a0_1]] rfl (by (try simp only [List.map_toArray, List.map_cons, List.map_nil]); first | done | rfl | (simp only [List.length_drop, List.length_take]; rfl)) ?_; (with_reducible refine (r8_num.calls a0_0 a0_1 false _ A12.out).mono ?_); rintro e w25 ⟨rfl, hb⟩; refine ⟨_, rfl, ?_⟩; have n0_ := Sd.mk (blk_below (g := gb290) (o := .cells #[.int .i64 a0_0, .int .i64 a0_1] 25 (0, 0)) (by exact blkF BK290.out) hb); have n1_ := Sd.mk (blk_below (g := gb291) (o := .cells #[.int .i64 a1_0, .int .i64 a1_1] 25 (0, 0)) (by exact blkF BK291.out) hb); have n2_ := Sd.mk (blk_below (g := gb292) (o := .cells #[.int .i64 0, .int .i64 0] 25 (0, 0)) (by exact blkF BK292.out) hb); have n3_ := Sd.mk (below_step (by repeat (first | (with_reducible first | exact HB.out | apply bal | apply pbd | apply bd1 | refine bst ?_ GE290.out | refine bst ?_ GE291.out | refine bst ?_ GE292.out) | exact HB.out)) hb); clear BK290; clear BK291; clear BK292; clear HB; have BK290 := n0_; have BK291 := n1_; have BK292 := n2_; have HB := n3_; clear n0_ n1_ n2_ n3_; (try clear hb); (try clear hb2); (try clear hk); (try clear hi)))
   go_meet
   case rel => exact ⟨_, (true), (by first | rfl | (simp; done) | (simp [*]; done)), H', ⟨by first | omega | exact Nat.le_refl _⟩, ⟨by (with_reducible repeat (first | refine blk_drewN ?_ _ | refine blk_drew ?_ | refine blk_alloc ?_ _)); exact BK290.out⟩, ⟨by (with_reducible repeat (first | refine blk_drewN ?_ _ | refine blk_drew ?_ | refine blk_alloc ?_ _)); exact BK291.out⟩, ⟨by (with_reducible repeat (first | refine blk_drewN ?_ _ | refine blk_drew ?_ | refine blk_alloc ?_ _)); exact BK292.out⟩, ⟨by repeat (first | (with_reducible first | exact HB.out | apply bal | apply pbd | apply bd1 | refine bst ?_ GE290.out | refine bst ?_ GE291.out | refine bst ?_ GE292.out) | exact HB.out)⟩⟩
 case rest =>
  clear HC5
  try clear c1
  try clear c2
  try clear p2
  try clear c4
  try clear p6
  try clear c7
  try clear c13
  try clear c15
  try clear c16
  try clear c19
  try clear c22
  try clear c23
  try clear hcz17_0
  try clear hcz17_1
  try clear hcz20_0
  try clear hcz20_1
  try clear hcz24_0
  try clear hcz24_1
  try clear hfz17_0
  try clear hfz17_1
  try clear hfz20_0
  try clear hfz20_1
  try clear hfz24_0
  try clear hfz24_1
  obtain ⟨kq, x22_4, rfl, HA, HJ4, BK290, BK291, BK292, HB⟩ := hcut
  cases kq with
  | zero => exact absurd HA.out (by simp [r8_times.j0])
  | succ kj4 =>
   have H := HA.out
   clear HA
   simp only [r8_times.j0] at H
   by_cases c26 : x22_4 = true
   ·subst c26
    have H1 : ((r8_beyond.f (wrap64 (t293 * t294))).bind fun bt297 => (some (bt297.1, bt297.2))) = some (r1, r2) := by rw [if_pos rfl] at H; exact H
    clear H
    have H := H1
    clear H1
    replace H := Option.bind_eq_some_iff.mp H
    obtain ⟨⟨t297, t298⟩, A270, H⟩ := H
    replace H : (some (t297, t298)) = some (r1, r2) := H
    have A27 := Sd.mk A270
    clear A270
    simp only [Option.some.injEq, Prod.mk.injEq] at H
    obtain ⟨rfl, rfl⟩ := H
    go_wp2_with (first | ((with_reducible refine gate_callee (f := 106) rfl ?_); refine goesL_ (some 24) rfl rfl Tryz.func106 (by kernel_rfl) rfl #[.int .i64 (wrap64 (t293 * t294))] rfl (by (try simp only [List.map_toArray, List.map_cons, List.map_nil]); first | done | rfl | (simp only [List.length_drop, List.length_take]; rfl)) ?_; (with_reducible refine (r8_beyond.calls (wrap64 (t293 * t294)) t297 t298 _ A27.out).mono ?_); rintro e w28 ⟨rfl, hb⟩; refine ⟨_, rfl, ?_⟩; have n0_ := Sd.mk (blk_below (g := gb290) (o := .cells #[.int .i64 a0_0, .int .i64 a0_1] 25 (0, 0)) (by exact blkF BK290.out) hb); have n1_ := Sd.mk (blk_below (g := gb291) (o := .cells #[.int .i64 a1_0, .int .i64 a1_1] 25 (0, 0)) (by exact blkF BK291.out) hb); have n2_ := Sd.mk (blk_below (g := gb292) (o := .cells #[.int .i64 0, .int .i64 0] 25 (0, 0)) (by exact blkF BK292.out) hb); have n3_ := Sd.mk (below_step (by repeat (first | (with_reducible first | exact HB.out | apply bal | apply pbd | apply bd1 | refine bst ?_ GE290.out | refine bst ?_ GE291.out | refine bst ?_ GE292.out) | exact HB.out)) hb); clear BK290; clear BK291; clear BK292; clear HB; have BK290 := n0_; have BK291 := n1_; have BK292 := n2_; have HB := n3_; clear n0_ n1_ n2_ n3_; (try clear hb); (try clear hb2); (try clear hk); (try clear hi); have hnb29 := NB292_290.out; have hnc29 := NB290_292.out; have hnb30 := NB292_291.out; have hnc30 := NB291_292.out; have hcz31_0 : w28.cell? ⟨gb292, 0, none⟩ = some (.int .i64 0) := (blk_cell BK292.out 0).trans rfl; have hcz31_1 : w28.cell? ⟨gb292, 1, none⟩ = some (.int .i64 0) := (blk_cell BK292.out 1).trans rfl; have hfz31_0 := blk_frozen BK292.out 0; have hfz31_1 := blk_frozen BK292.out 1))
    refine bodyPost_ret (results_cell_row rfl _ _ gb292 25 #[.int .i64 t297, .int .i64 t298] (0, 0) _ rfl (by (with_reducible repeat (first | refine blk_drewN ?_ _ | refine blk_drew ?_ | refine blk_alloc ?_ _)); refine blk_put (cs := #[.int .i64 t297, .int .i64 0]) ?_ 1 _ rfl; (with_reducible repeat (first | refine blk_drewN ?_ _ | refine blk_drew ?_ | refine blk_alloc ?_ _)); refine blk_put (cs := #[.int .i64 0, .int .i64 0]) ?_ 0 _ rfl; (with_reducible repeat (first | refine blk_drewN ?_ _ | refine blk_drew ?_ | refine blk_alloc ?_ _)); exact BK292.out) Tryz.underlying25 rfl (by kernel_rfl)) rfl ?_
    exact ⟨by first | rfl | (simp [errW_none, errW_some] <;> rfl) | (simp [*, errW_none, errW_some] <;> rfl), by repeat (first | (with_reducible first | exact HB.out | apply bal | apply pbd | apply bd1 | refine bst ?_ GE290.out | refine bst ?_ GE291.out | refine bst ?_ GE292.out) | exact HB.out)⟩
   ·replace c26 := Bool.eq_false_iff.mpr c26
    subst c26
    have H1 : ((r8_size.f a0_1).bind fun t299 => ((r8_size.f a1_1).bind fun t300 => (if (wrap64 (Int.tdiv t299 1000)) > 0 then (if (wrap64 (Int.tdiv t299 1000)) = 0 then (none) else (r8_times.j1 kj4 (wrap64 (t293 * t294)) t300 (wrap64 (Int.tdiv t299 1000)) (Int.tmod t299 1000) (decide (t300 > (wrap64 ((1000000000000000 : Int) / (wrap64 (Int.tdiv t299 1000)))))))) else (r8_times.j1 kj4 (wrap64 (t293 * t294)) t300 (wrap64 (Int.tdiv t299 1000)) (Int.tmod t299 1000) false)))) = some (r1, r2) := by rw [if_neg (show ¬ (false = true) by decide)] at H; exact H
    clear H
    have H := H1
    clear H1
    replace H := Option.bind_eq_some_iff.mp H
    obtain ⟨t299, A320, H⟩ := H
    replace H : ((r8_size.f a1_1).bind fun t300 => (if (wrap64 (Int.tdiv t299 1000)) > 0 then (if (wrap64 (Int.tdiv t299 1000)) = 0 then (none) else (r8_times.j1 kj4 (wrap64 (t293 * t294)) t300 (wrap64 (Int.tdiv t299 1000)) (Int.tmod t299 1000) (decide (t300 > (wrap64 ((1000000000000000 : Int) / (wrap64 (Int.tdiv t299 1000)))))))) else (r8_times.j1 kj4 (wrap64 (t293 * t294)) t300 (wrap64 (Int.tdiv t299 1000)) (Int.tmod t299 1000) false))) = some (r1, r2) := H
    have A32 := Sd.mk A320
    clear A320
    replace H := Option.bind_eq_some_iff.mp H
    obtain ⟨t300, A330, H⟩ := H
    replace H : (if (wrap64 (Int.tdiv t299 1000)) > 0 then (if (wrap64 (Int.tdiv t299 1000)) = 0 then (none) else (r8_times.j1 kj4 (wrap64 (t293 * t294)) t300 (wrap64 (Int.tdiv t299 1000)) (Int.tmod t299 1000) (decide (t300 > (wrap64 ((1000000000000000 : Int) / (wrap64 (Int.tdiv t299 1000)))))))) else (r8_times.j1 kj4 (wrap64 (t293 * t294)) t300 (wrap64 (Int.tdiv t299 1000)) (Int.tmod t299 1000) false)) = some (r1, r2) := H
    have A33 := Sd.mk A330
    clear A330
    have HC34 := Sd.mk H
    clear H
    try go_wp2
    have n0_ := Sd.mk (blk_drew BK290.out)
    have n1_ := Sd.mk (blk_drew BK291.out)
    have n2_ := Sd.mk (blk_drew BK292.out)
    have n3_ := Sd.mk (bd1 HB.out)
    clear BK290
    clear BK291
    clear BK292
    clear HB
    have BK290 := n0_
    have BK291 := n1_
    have BK292 := n2_
    have HB := n3_
    clear n0_ n1_ n2_ n3_
    refine start_ (n := 8) (S := fun w' => w'.cell? ⟨gb290, 0, none⟩ = some (.int .i64 a0_0) ∧ w'.cell? ⟨gb290, 1, none⟩ = some (.int .i64 a0_1) ∧ w'.cell? ⟨gb291, 0, none⟩ = some (.int .i64 a1_0) ∧ w'.cell? ⟨gb291, 1, none⟩ = some (.int .i64 a1_1)) (ds := []) #[false, false, false, false, false, false, false, false] (by kernel_rfl) rfl rfl ⟨(blk_cell BK290.out 0).trans rfl, (blk_cell BK290.out 1).trans rfl, (blk_cell BK291.out 0).trans rfl, (blk_cell BK291.out 1).trans rfl⟩ (fun hHeld => ?_); refine with_tabW r8_times.tab4 r8_times.bits4 (fun HT_ HW_ => ?_)
    generalize wc.drew = w35 at BK290 BK291 BK292 HB hHeld ⊢
    refine pure_ (i := 0) (N := some 25) (v := ?_) (a' := ?_) #[true, false, false, false, false, false, false, false] rfl rfl (any_of HT_.out (by kernel_rfl)) (fun _ _ _ h => h) (Or.inl ⟨by rfl, ?_⟩) ?_ ?_
    rotate_left
    ·intro w'
     go_simp
     with_reducible rfl
    rotate_left
    ·simp only [Act.put, List.setIfInBounds_toArray, List.set_cons_zero, List.set_cons_succ, i64_w, i32_w]
     rfl
    refine pure_ (i := 3) (N := some 28) (v := ?_) (a' := ?_) #[true, false, false, true, false, false, false, false] rfl rfl (any_of HT_.out (by kernel_rfl)) (fun _ _ _ h => h) (Or.inl ⟨by rfl, ?_⟩) ?_ ?_
    rotate_left
    ·intro w'
     go_simp
     with_reducible rfl
    rotate_left
    ·simp only [Act.put, List.setIfInBounds_toArray, List.set_cons_zero, List.set_cons_succ, i64_w, i32_w]
     rfl
    refine take_ (i := 1) (N := some 26) (v := ?_) (a' := ?_) #[true, true, false, true, false, false, false, false] rfl rfl (take_ofW HT_.out HW_.out (by kernel_rfl)) (fun _ _ _ h => h) (Or.inl ⟨by rfl, ?_⟩) hHeld ?_ ?_
    rotate_left
    ·rintro w' ⟨s0, s1, s2, s3⟩
     go_simp
     with_reducible rfl
    rotate_left
    ·simp only [Act.put, List.setIfInBounds_toArray, List.set_cons_zero, List.set_cons_succ, i64_w, i32_w]
     rfl
    refine take_ (i := 4) (N := some 29) (v := ?_) (a' := ?_) #[true, true, false, true, true, false, false, false] rfl rfl (take_ofW HT_.out HW_.out (by kernel_rfl)) (fun _ _ _ h => h) (Or.inl ⟨by rfl, ?_⟩) hHeld ?_ ?_
    rotate_left
    ·rintro w' ⟨s0, s1, s2, s3⟩
     go_simp
     with_reducible rfl
    rotate_left
    ·simp only [Act.put, List.setIfInBounds_toArray, List.set_cons_zero, List.set_cons_succ, i64_w, i32_w]
     rfl
    refine one_ (i := 2) (N := some 27) #[true, true, true, true, true, false, false, false] rfl rfl (one_of HT_.out (by kernel_rfl)) (by decide) (fun K hK => ?_)
    refine goes_ Tryz.func107 (by kernel_rfl) rfl #[.int .i64 a0_1] (by rfl) rfl rfl (by (try simp only [List.map_toArray, List.map_cons, List.map_nil]); first | done | rfl | (simp only [List.length_drop, List.length_take]; rfl)) ?_
    with_reducible refine (r8_size.calls a0_1 t299 _ A32.out).mono ?_
    rintro e w' ⟨rfl, ⟨nd, rfl⟩⟩
    refine ⟨_, rfl, ?_⟩
    refine hK.out _ _ ⟨(blk_cell BK290.out 0).trans rfl, (blk_cell BK290.out 1).trans rfl, (blk_cell BK291.out 0).trans rfl, (blk_cell BK291.out 1).trans rfl⟩ (fun hHeld => ?_)
    clear hK K
    refine norm_ (a' := ?_) ?_ ?_
    rotate_left
    ·show Act.put _ (some 27) _ = _
     simp only [Act.put, List.setIfInBounds_toArray, List.set_cons_zero, List.set_cons_succ, i64_w, i32_w]
     rfl
    refine one_ (i := 5) (N := some 30) #[true, true, true, true, true, true, false, false] rfl rfl (one_of HT_.out (by kernel_rfl)) (by decide) (fun K hK => ?_)
    refine goes_ Tryz.func107 (by kernel_rfl) rfl #[.int .i64 a1_1] (by rfl) rfl rfl (by (try simp only [List.map_toArray, List.map_cons, List.map_nil]); first | done | rfl | (simp only [List.length_drop, List.length_take]; rfl)) ?_
    with_reducible refine (r8_size.calls a1_1 t300 _ A33.out).mono ?_
    rintro e w' ⟨rfl, ⟨nd, rfl⟩⟩
    refine ⟨_, rfl, ?_⟩
    refine hK.out _ _ ⟨(blk_cell BK290.out 0).trans rfl, (blk_cell BK290.out 1).trans rfl, (blk_cell BK291.out 0).trans rfl, (blk_cell BK291.out 1).trans rfl⟩ (fun hHeld => ?_)
    clear hK K
    refine norm_ (a' := ?_) ?_ ?_
    rotate_left
    ·show Act.put _ (some 30) _ = _
     simp only [Act.put, List.setIfInBounds_toArray, List.set_cons_zero, List.set_cons_succ, i64_w, i32_w]
     rfl
    refine pure_ (i := 6) (N := some 6) (v := ?_) (a' := ?_) #[true, true, true, true, true, true, true, false] rfl rfl (any_of HT_.out (by kernel_rfl)) (fun _ _ _ h => h) (Or.inl ⟨by rfl, ?_⟩) ?_ ?_
    rotate_left
    ·intro w'
     go_simp
     with_reducible rfl
    rotate_left
    ·simp only [Act.put, List.setIfInBounds_toArray, List.set_cons_zero, List.set_cons_succ, i64_w, i32_w]
     rfl
    refine pure_ (i := 7) (N := some 7) (v := ?_) (a' := ?_) #[true, true, true, true, true, true, true, true] rfl rfl (any_of HT_.out (by kernel_rfl)) (fun _ _ _ h => h) (Or.inl ⟨by rfl, ?_⟩) ?_ ?_
    rotate_left
    ·intro w'
     go_simp
     with_reducible rfl
    rotate_left
    ·simp only [Act.put, List.setIfInBounds_toArray, List.set_cons_zero, List.set_cons_succ, i64_w, i32_w]
     rfl
    refine done_ (done_of HT_.out (by kernel_rfl)) ?_
    go_upto_region 6 with (fail)
    go_cut [42] (fun v42 wc => ∃ (kq : Nat) (x42_33 : Bool), v42 = .bool x42_33 ∧ Sd (r8_times.j1 kq (wrap64 (t293 * t294)) t300 (wrap64 (Int.tdiv t299 1000)) (Int.tmod t299 1000) x42_33 = some (r1, r2)) ∧ Sd (kq ≤ kj4) ∧ Sd (wc.heap[gb290]? = some (.cells #[.int .i64 a0_0, .int .i64 a0_1] 25 (0, 0))) ∧ Sd (wc.heap[gb291]? = some (.cells #[.int .i64 a1_0, .int .i64 a1_1] 25 (0, 0))) ∧ Sd (wc.heap[gb292]? = some (.cells #[.int .i64 0, .int .i64 0] 25 (0, 0))) ∧ Sd (Below w.heap.size w wc))
    case first =>
     have H := HC34.out
     clear HC34
     by_cases c36 : (wrap64 (Int.tdiv t299 1000)) > 0
     ·rw [if_pos c36] at H
      have c36b0 : decide (0 < (wrap64 (Int.tdiv t299 1000))) = true := decide_eq_true c36
      clear c36
      (first | rw [c36b0] | (simp only [i64_w, i32_w]; rw [c36b0]) | skip)
      by_cases c37 : (wrap64 (Int.tdiv t299 1000)) = 0
      ·rw [if_pos c37] at H
       exact absurd H (by simp)
      ·rw [if_neg c37] at H
       have c37b0 : ((wrap64 (Int.tdiv t299 1000)) == 0) = false := beq_eq_false_iff_ne.mpr c37
       have c37b1 : ((wrap64 (Int.tdiv t299 1000)) != 0) = true := bne_iff_ne.mpr c37
       have H' := Sd.mk H
       clear H
       go_wp2
       go_meet
       case rel => exact ⟨_, (decide (t300 > (wrap64 ((1000000000000000 : Int) / (wrap64 (Int.tdiv t299 1000)))))), (by first | rfl | (simp; done) | (simp [*]; done) | (simp [Int.tdiv_eq_ediv_of_nonneg]; done) | (simp [*, Int.tdiv_eq_ediv_of_nonneg]; done)), H', ⟨by have := HJ4.out; first | omega | exact Nat.le_refl _⟩, ⟨by (with_reducible repeat (first | refine blk_drewN ?_ _ | refine blk_drew ?_ | refine blk_alloc ?_ _)); exact BK290.out⟩, ⟨by (with_reducible repeat (first | refine blk_drewN ?_ _ | refine blk_drew ?_ | refine blk_alloc ?_ _)); exact BK291.out⟩, ⟨by (with_reducible repeat (first | refine blk_drewN ?_ _ | refine blk_drew ?_ | refine blk_alloc ?_ _)); exact BK292.out⟩, ⟨by repeat (first | (with_reducible first | exact HB.out | apply bal | apply pbd | apply bd1 | refine bst ?_ GE290.out | refine bst ?_ GE291.out | refine bst ?_ GE292.out) | exact HB.out)⟩⟩
     ·rw [if_neg c36] at H
      have c36b0 : decide (0 < (wrap64 (Int.tdiv t299 1000))) = false := decide_eq_false c36
      clear c36
      (first | rw [c36b0] | (simp only [i64_w, i32_w]; rw [c36b0]) | skip)
      have H' := Sd.mk H
      clear H
      go_wp2
      go_meet
      case rel => exact ⟨_, (false), (by first | rfl | (simp; done) | (simp [*]; done)), H', ⟨by have := HJ4.out; first | omega | exact Nat.le_refl _⟩, ⟨by (with_reducible repeat (first | refine blk_drewN ?_ _ | refine blk_drew ?_ | refine blk_alloc ?_ _)); exact BK290.out⟩, ⟨by (with_reducible repeat (first | refine blk_drewN ?_ _ | refine blk_drew ?_ | refine blk_alloc ?_ _)); exact BK291.out⟩, ⟨by (with_reducible repeat (first | refine blk_drewN ?_ _ | refine blk_drew ?_ | refine blk_alloc ?_ _)); exact BK292.out⟩, ⟨by repeat (first | (with_reducible first | exact HB.out | apply bal | apply pbd | apply bd1 | refine bst ?_ GE290.out | refine bst ?_ GE291.out | refine bst ?_ GE292.out) | exact HB.out)⟩⟩
    case rest =>
     clear HC34
     try clear c1
     try clear c2
     try clear p2
     try clear c3
     try clear c4
     try clear p6
     try clear c7
     try clear c10
     try clear c13
     try clear c15
     try clear c16
     try clear c19
     try clear c22
     try clear c23
     try clear c26
     try clear c29
     try clear c30
     try clear c36
     try clear c36b0
     try clear c37
     try clear c37b0
     try clear c37b1
     try clear hcz17_0
     try clear hcz17_1
     try clear hcz20_0
     try clear hcz20_1
     try clear hcz24_0
     try clear hcz24_1
     try clear hcz31_0
     try clear hcz31_1
     try clear hfz17_0
     try clear hfz17_1
     try clear hfz20_0
     try clear hfz20_1
     try clear hfz24_0
     try clear hfz24_1
     try clear hfz31_0
     try clear hfz31_1
     try clear p2
     try clear p6
     obtain ⟨kq, x42_33, rfl, HA, HJ33, BK290, BK291, BK292, HB⟩ := hcut
     cases kq with
     | zero => exact absurd HA.out (by simp [r8_times.j1])
     | succ kj33 =>
      have H := HA.out
      clear HA
      simp only [r8_times.j1] at H
      by_cases c38 : x42_33 = true
      ·subst c38
       have H1 : ((r8_beyond.f (wrap64 (t293 * t294))).bind fun bt301 => (some (bt301.1, bt301.2))) = some (r1, r2) := by rw [if_pos rfl] at H; exact H
       clear H
       have H := H1
       clear H1
       replace H := Option.bind_eq_some_iff.mp H
       obtain ⟨⟨t301, t302⟩, A390, H⟩ := H
       replace H : (some (t301, t302)) = some (r1, r2) := H
       have A39 := Sd.mk A390
       clear A390
       simp only [Option.some.injEq, Prod.mk.injEq] at H
       obtain ⟨rfl, rfl⟩ := H
       go_wp2_with (first | ((with_reducible refine gate_callee (f := 106) rfl ?_); refine goesL_ (some 44) rfl rfl Tryz.func106 (by kernel_rfl) rfl #[.int .i64 (wrap64 (t293 * t294))] rfl (by (try simp only [List.map_toArray, List.map_cons, List.map_nil]); first | done | rfl | (simp only [List.length_drop, List.length_take]; rfl)) ?_; (with_reducible refine (r8_beyond.calls (wrap64 (t293 * t294)) t301 t302 _ A39.out).mono ?_); rintro e w40 ⟨rfl, hb⟩; refine ⟨_, rfl, ?_⟩; have n0_ := Sd.mk (blk_below (g := gb290) (o := .cells #[.int .i64 a0_0, .int .i64 a0_1] 25 (0, 0)) (by exact blkF BK290.out) hb); have n1_ := Sd.mk (blk_below (g := gb291) (o := .cells #[.int .i64 a1_0, .int .i64 a1_1] 25 (0, 0)) (by exact blkF BK291.out) hb); have n2_ := Sd.mk (blk_below (g := gb292) (o := .cells #[.int .i64 0, .int .i64 0] 25 (0, 0)) (by exact blkF BK292.out) hb); have n3_ := Sd.mk (below_step (by repeat (first | (with_reducible first | exact HB.out | apply bal | apply pbd | apply bd1 | refine bst ?_ GE290.out | refine bst ?_ GE291.out | refine bst ?_ GE292.out) | exact HB.out)) hb); clear BK290; clear BK291; clear BK292; clear HB; have BK290 := n0_; have BK291 := n1_; have BK292 := n2_; have HB := n3_; clear n0_ n1_ n2_ n3_; (try clear hb); (try clear hb2); (try clear hk); (try clear hi); have hnb41 := NB292_290.out; have hnc41 := NB290_292.out; have hnb42 := NB292_291.out; have hnc42 := NB291_292.out; have hcz43_0 : w40.cell? ⟨gb292, 0, none⟩ = some (.int .i64 0) := (blk_cell BK292.out 0).trans rfl; have hcz43_1 : w40.cell? ⟨gb292, 1, none⟩ = some (.int .i64 0) := (blk_cell BK292.out 1).trans rfl; have hfz43_0 := blk_frozen BK292.out 0; have hfz43_1 := blk_frozen BK292.out 1))
       refine bodyPost_ret (results_cell_row rfl _ _ gb292 25 #[.int .i64 t301, .int .i64 t302] (0, 0) _ rfl (by (with_reducible repeat (first | refine blk_drewN ?_ _ | refine blk_drew ?_ | refine blk_alloc ?_ _)); refine blk_put (cs := #[.int .i64 t301, .int .i64 0]) ?_ 1 _ rfl; (with_reducible repeat (first | refine blk_drewN ?_ _ | refine blk_drew ?_ | refine blk_alloc ?_ _)); refine blk_put (cs := #[.int .i64 0, .int .i64 0]) ?_ 0 _ rfl; (with_reducible repeat (first | refine blk_drewN ?_ _ | refine blk_drew ?_ | refine blk_alloc ?_ _)); exact BK292.out) Tryz.underlying25 rfl (by kernel_rfl)) rfl ?_
       exact ⟨by first | rfl | (simp [errW_none, errW_some] <;> rfl) | (simp [*, errW_none, errW_some] <;> rfl), by repeat (first | (with_reducible first | exact HB.out | apply bal | apply pbd | apply bd1 | refine bst ?_ GE290.out | refine bst ?_ GE291.out | refine bst ?_ GE292.out) | exact HB.out)⟩
      ·replace c38 := Bool.eq_false_iff.mpr c38
       subst c38
       have H1 : ((r8_Num.f (wrap64 ((wrap64 (t293 * t294)) * (wrap64 ((wrap64 ((wrap64 (Int.tdiv t299 1000)) * t300)) + (wrap64 (Int.tdiv (wrap64 ((Int.tmod t299 1000) * t300)) 1000))))))).bind fun bt303 => (some (bt303.1, bt303.2))) = some (r1, r2) := by rw [if_neg (show ¬ (false = true) by decide)] at H; exact H
       clear H
       have H := H1
       clear H1
       replace H := Option.bind_eq_some_iff.mp H
       obtain ⟨⟨t303, t304⟩, A440, H⟩ := H
       replace H : (some (t303, t304)) = some (r1, r2) := H
       have A44 := Sd.mk A440
       clear A440
       simp only [Option.some.injEq, Prod.mk.injEq] at H
       obtain ⟨rfl, rfl⟩ := H
       go_wp2_with (first | ((with_reducible refine gate_callee (f := 20) rfl ?_); refine goesL_ (some 55) rfl rfl Tryz.func20 (by kernel_rfl) rfl #[.int .i64 (wrap64 ((wrap64 (t293 * t294)) * (wrap64 ((wrap64 ((wrap64 (Int.tdiv t299 1000)) * t300)) + (wrap64 (Int.tdiv (wrap64 ((Int.tmod t299 1000) * t300)) 1000))))))] rfl (by (try simp only [List.map_toArray, List.map_cons, List.map_nil]); first | done | rfl | (simp only [List.length_drop, List.length_take]; rfl)) ?_; (with_reducible refine (r8_Num.calls (wrap64 ((wrap64 (t293 * t294)) * (wrap64 ((wrap64 ((wrap64 (Int.tdiv t299 1000)) * t300)) + (wrap64 (Int.tdiv (wrap64 ((Int.tmod t299 1000) * t300)) 1000)))))) t303 t304 _ A44.out).mono ?_); rintro e w45 ⟨rfl, hb⟩; refine ⟨_, rfl, ?_⟩; have n0_ := Sd.mk (blk_below (g := gb290) (o := .cells #[.int .i64 a0_0, .int .i64 a0_1] 25 (0, 0)) (by exact blkF BK290.out) hb); have n1_ := Sd.mk (blk_below (g := gb291) (o := .cells #[.int .i64 a1_0, .int .i64 a1_1] 25 (0, 0)) (by exact blkF BK291.out) hb); have n2_ := Sd.mk (blk_below (g := gb292) (o := .cells #[.int .i64 0, .int .i64 0] 25 (0, 0)) (by exact blkF BK292.out) hb); have n3_ := Sd.mk (below_step (by repeat (first | (with_reducible first | exact HB.out | apply bal | apply pbd | apply bd1 | refine bst ?_ GE290.out | refine bst ?_ GE291.out | refine bst ?_ GE292.out) | exact HB.out)) hb); clear BK290; clear BK291; clear BK292; clear HB; have BK290 := n0_; have BK291 := n1_; have BK292 := n2_; have HB := n3_; clear n0_ n1_ n2_ n3_; (try clear hb); (try clear hb2); (try clear hk); (try clear hi); have hnb46 := NB292_290.out; have hnc46 := NB290_292.out; have hnb47 := NB292_291.out; have hnc47 := NB291_292.out; have hcz48_0 : w45.cell? ⟨gb292, 0, none⟩ = some (.int .i64 0) := (blk_cell BK292.out 0).trans rfl; have hcz48_1 : w45.cell? ⟨gb292, 1, none⟩ = some (.int .i64 0) := (blk_cell BK292.out 1).trans rfl; have hfz48_0 := blk_frozen BK292.out 0; have hfz48_1 := blk_frozen BK292.out 1))
       refine bodyPost_ret (results_cell_row rfl _ _ gb292 25 #[.int .i64 t303, .int .i64 t304] (0, 0) _ rfl (by (with_reducible repeat (first | refine blk_drewN ?_ _ | refine blk_drew ?_ | refine blk_alloc ?_ _)); refine blk_put (cs := #[.int .i64 t303, .int .i64 0]) ?_ 1 _ rfl; (with_reducible repeat (first | refine blk_drewN ?_ _ | refine blk_drew ?_ | refine blk_alloc ?_ _)); refine blk_put (cs := #[.int .i64 0, .int .i64 0]) ?_ 0 _ rfl; (with_reducible repeat (first | refine blk_drewN ?_ _ | refine blk_drew ?_ | refine blk_alloc ?_ _)); exact BK292.out) Tryz.underlying25 rfl (by kernel_rfl)) rfl ?_
       exact ⟨by first | rfl | (simp [errW_none, errW_some] <;> rfl) | (simp [*, errW_none, errW_some] <;> rfl), by repeat (first | (with_reducible first | exact HB.out | apply bal | apply pbd | apply bd1 | refine bst ?_ GE290.out | refine bst ?_ GE291.out | refine bst ?_ GE292.out) | exact HB.out)⟩
mutual
def r8_over.j0 : Nat → Bool → Int → Int → Int → Int → Option (Int × Int)
 | 0, _, _, _, _, _ => none
 | k + 1, x5, x306000, x306001, x307000, x307001 => if x5 = true then ((r8_sign.f k x306000 x306001).bind fun t310 => ((r8_beyond.f t310).bind fun bt311 => (some (bt311.1, bt311.2)))) else ((r8_num.f x306000 x306001).bind fun t313 => (if t313 = true then ((r8_num.f x307000 x307001).bind fun t314 => (r8_over.j1 k t314 x306000 x306001 x307000 x307001)) else (r8_over.j1 k false x306000 x306001 x307000 x307001)))
def r8_over.j1 : Nat → Bool → Int → Int → Int → Int → Option (Int × Int)
 | 0, _, _, _, _, _ => none
 | k + 1, x20, x306000, x306001, x307000, x307001 => if x20 = true then (if x307001 = 0 then (none) else ((r8_Num.f (wrap64 (Int.tdiv (wrap64 (x306001 * 1000)) x307001))).bind fun bt315 => (some (bt315.1, bt315.2)))) else ((r8_num.f x306000 x306001).bind fun t317 => (if t317 = true then ((r8_Num.f 0).bind fun bt318 => (some (bt318.1, bt318.2))) else ((r8_num.f x307000 x307001).bind fun t320 => (if t320 = true then (r8_over.j2 k (decide (x307001 < 0)) x306000 x306001 x307000 x307001) else (r8_over.j2 k false x306000 x306001 x307000 x307001)))))
def r8_over.j2 : Nat → Bool → Int → Int → Int → Int → Option (Int × Int)
 | 0, _, _, _, _, _ => none
 | k + 1, x38, x306000, x306001, x307000, x307001 => if x38 = true then ((r8_turned.f x306000 x306001).bind fun bt321 => (some (bt321.1, bt321.2))) else ((r8_num.f x307000 x307001).bind fun t323 => (if t323 = true then (some (x306000, x306001)) else ((r8_NaN.f).bind fun bt324 => (some (bt324.1, bt324.2)))))
end
def r8_over.f (k : Nat) (a0_0 : Int) (a0_1 : Int) (a1_0 : Int) (a1_1 : Int) : Option (Int × Int) := (r8_num.f a0_0 a0_1).bind fun t308 => (if t308 = true then ((r8_num.f a1_0 a1_1).bind fun t309 => (if t309 = true then (r8_over.j0 k (a1_1 == 0) a0_0 a0_1 a1_0 a1_1) else (r8_over.j0 k false a0_0 a0_1 a1_0 a1_1))) else (r8_over.j0 k false a0_0 a0_1 a1_0 a1_1))
theorem r8_over.mono_l : ∀ k, (∀ y0 y1 y2 y3 y4, LeO (r8_over.j0 k y0 y1 y2 y3 y4) (r8_over.j0 (k + 1) y0 y1 y2 y3 y4)) ∧ (∀ y0 y1 y2 y3 y4, LeO (r8_over.j1 k y0 y1 y2 y3 y4) (r8_over.j1 (k + 1) y0 y1 y2 y3 y4)) ∧ (∀ y0 y1 y2 y3 y4, LeO (r8_over.j2 k y0 y1 y2 y3 y4) (r8_over.j2 (k + 1) y0 y1 y2 y3 y4))
 | 0 => ⟨fun _ _ _ _ _ r h => by simp [r8_over.j0] at h, fun _ _ _ _ _ r h => by simp [r8_over.j1] at h, fun _ _ _ _ _ r h => by simp [r8_over.j2] at h⟩
 | k + 1 => by
  obtain ⟨ih0, ih1, ih2⟩ := r8_over.mono_l k
  refine ⟨?_, ?_, ?_⟩
  ·intro y0 y1 y2 y3 y4
   unfold r8_over.j0
   repeat' first
   | (with_reducible exact ih0 _ _ _ _ _)
   | (with_reducible exact ih1 _ _ _ _ _)
   | (with_reducible exact ih2 _ _ _ _ _)
   | (with_reducible exact r8_sign.mono _ _ _)
   | (with_reducible exact LeO.refl _)
   | (with_reducible exact LeO.none _)
   | (with_reducible refine LeO.ite ?_ ?_)
   | (with_reducible refine LeO.bind ?_ (fun _ => ?_))
   | exact ih0 _ _ _ _ _
   | exact ih1 _ _ _ _ _
   | exact ih2 _ _ _ _ _
   | exact r8_sign.mono _ _ _
   | exact LeO.none _
   | refine LeO.ite ?_ ?_
   | refine LeO.bind ?_ (fun _ => ?_)
  ·intro y0 y1 y2 y3 y4
   unfold r8_over.j1
   repeat' first
   | (with_reducible exact ih0 _ _ _ _ _)
   | (with_reducible exact ih1 _ _ _ _ _)
   | (with_reducible exact ih2 _ _ _ _ _)
   | (with_reducible exact r8_sign.mono _ _ _)
   | (with_reducible exact LeO.refl _)
   | (with_reducible exact LeO.none _)
   | (with_reducible refine LeO.ite ?_ ?_)
   | (with_reducible refine LeO.bind ?_ (fun _ => ?_))
   | exact ih0 _ _ _ _ _
   | exact ih1 _ _ _ _ _
   | exact ih2 _ _ _ _ _
   | exact r8_sign.mono _ _ _
   | exact LeO.none _
   | refine LeO.ite ?_ ?_
   | refine LeO.bind ?_ (fun _ => ?_)
  ·intro y0 y1 y2 y3 y4
   unfold r8_over.j2
   repeat' first
   | (with_reducible exact ih0 _ _ _ _ _)
   | (with_reducible exact ih1 _ _ _ _ _)
   | (with_reducible exact ih2 _ _ _ _ _)
   | (with_reducible exact r8_sign.mono _ _ _)
   | (with_reducible exact LeO.refl _)
   | (with_reducible exact LeO.none _)
   | (with_reducible refine LeO.ite ?_ ?_)
   | (with_reducible refine LeO.bind ?_ (fun _ => ?_))
   | exact ih0 _ _ _ _ _
   | exact ih1 _ _ _ _ _
   | exact ih2 _ _ _ _ _
   | exact r8_sign.mono _ _ _
   | exact LeO.none _
   | refine LeO.ite ?_ ?_
   | refine LeO.bind ?_ (fun _ => ?_)
theorem r8_over.mono : ∀ a0 a1 a2 a3 k, LeO (r8_over.f k a0 a1 a2 a3) (r8_over.f (k + 1) a0 a1 a2 a3) := by
 intro a0 a1 a2 a3 k
 obtain ⟨ih0, ih1, ih2⟩ := r8_over.mono_l k
 unfold r8_over.f
 repeat' first
   | (with_reducible exact ih0 _ _ _ _ _)
   | (with_reducible exact ih1 _ _ _ _ _)
   | (with_reducible exact ih2 _ _ _ _ _)
   | (with_reducible exact r8_sign.mono _ _ _)
   | (with_reducible exact LeO.refl _)
   | (with_reducible exact LeO.none _)
   | (with_reducible refine LeO.ite ?_ ?_)
   | (with_reducible refine LeO.bind ?_ (fun _ => ?_))
   | exact ih0 _ _ _ _ _
   | exact ih1 _ _ _ _ _
   | exact ih2 _ _ _ _ _
   | exact r8_sign.mono _ _ _
   | exact LeO.none _
   | refine LeO.ite ?_ ?_
   | refine LeO.bind ?_ (fun _ => ?_)
set_option maxHeartbeats 8000000 in
set_option maxRecDepth 100000 in
theorem r8_over.calls (k : Nat) (a0_0 : Int) (a0_1 : Int) (a1_0 : Int) (a1_1 : Int) (r1 : Int) (r2 : Int) (w : World) (h : r8_over.f k a0_0 a0_1 a1_0 a1_1 = some (r1, r2)) :
  Calls Tryz.prog 80 #[.agg #[.int .i64 a0_0, .int .i64 a0_1], .agg #[.int .i64 a1_0, .int .i64 a1_1]] w fun e w' => e = .returned (.agg #[.int .i64 r1, .int .i64 r2]) ∧ Below w.heap.size w w' := by
 have hu25 := Tryz.underlying25
 have HB := Sd.mk (Below.refl w.heap.size w)
 have H : ((r8_num.f a0_0 a0_1).bind fun t308 => (if t308 = true then ((r8_num.f a1_0 a1_1).bind fun t309 => (if t309 = true then (r8_over.j0 k (a1_1 == 0) a0_0 a0_1 a1_0 a1_1) else (r8_over.j0 k false a0_0 a0_1 a1_0 a1_1))) else (r8_over.j0 k false a0_0 a0_1 a1_0 a1_1))) = some (r1, r2) := h
 clear h
 have HC3 := Sd.mk H
 clear H
 go_enter Tryz.func80, Tryz.ntmps80
 go_upto_region 1 with (first | ((with_reducible refine gate_dst (N := 2) rfl ?_); refine box_event ?hg (N := 2) ?hd (cs := #[.int .i64 a0_0, .int .i64 a0_1]) (t := 25) ?hr ?_; (case hd => rfl); (case hg => rfl); (case hr => first | (go_simp; done) | (go_simp; rfl)); intro gb305 hg w4 hbox hb; have n0_ := Sd.mk (below_step (by exact blwF HB.out) hb); have n1_ := Sd.mk (hbox); have n2_ := Sd.mk ((by rw [hg]; exact (below_size (by exact blwF HB.out)) : w.heap.size ≤ gb305)); have n3_ := Sd.mk ((by rw [hg]; exact (below_size (by exact blwF HB.out)) : w.heap.size ≤ gb305)); clear HB; have HB := n0_; have BK305 := n1_; have GW305 := n2_; have GE305 := n3_; clear n0_ n1_ n2_ n3_; clear hb hbox hg) | ((with_reducible refine gate_dst (N := 3) rfl ?_); refine box_event ?hg (N := 3) ?hd (cs := #[.int .i64 a1_0, .int .i64 a1_1]) (t := 25) ?hr ?_; (case hd => rfl); (case hg => rfl); (case hr => first | (go_simp; done) | (go_simp; rfl)); intro gb306 hg w5 hbox hb; have n0_ := Sd.mk (blk_below (g := gb305) (o := .cells #[.int .i64 a0_0, .int .i64 a0_1] 25 (0, 0)) (by exact blkF BK305.out) hb); have n1_ := Sd.mk (below_step (by repeat (first | (with_reducible first | exact HB.out | apply bal | apply pbd | apply bd1 | refine bst ?_ GE305.out) | exact HB.out)) hb); have n2_ := Sd.mk (hbox); have n3_ := Sd.mk ((by rw [hg]; exact (below_size (by repeat (first | (with_reducible first | exact HB.out | apply bal | apply pbd | apply bd1 | refine bst ?_ GE305.out) | exact HB.out))) : w.heap.size ≤ gb306)); have n4_ := Sd.mk ((by rw [hg]; exact (below_size (by repeat (first | (with_reducible first | exact HB.out | apply bal | apply pbd | apply bd1 | refine bst ?_ GE305.out) | exact HB.out))) : w.heap.size ≤ gb306)); have n5_ := Sd.mk ((by rw [hg]; exact Nat.ne_of_lt (blk_lt (g := gb305) (o := .cells #[.int .i64 a0_0, .int .i64 a0_1] 25 (0, 0)) (by exact blkF BK305.out)) : gb305 ≠ gb306)); have n6_ := Sd.mk ((by rw [hg]; exact Nat.ne_of_gt (blk_lt (g := gb305) (o := .cells #[.int .i64 a0_0, .int .i64 a0_1] 25 (0, 0)) (by exact blkF BK305.out)) : gb306 ≠ gb305)); clear BK305; clear HB; have BK305 := n0_; have HB := n1_; have BK306 := n2_; have GW306 := n3_; have GE306 := n4_; have NB305_306 := n5_; have NB306_305 := n6_; clear n0_ n1_ n2_ n3_ n4_ n5_ n6_; clear hb hbox hg) | ((with_reducible refine gate_dst (N := 4) rfl ?_); refine box_event ?hg (N := 4) ?hd (cs := #[.int .i64 0, .int .i64 0]) (t := 25) ?hr ?_; (case hd => rfl); (case hg => rfl); (case hr => first | (go_simp; done) | (go_simp; rfl)); intro gb307 hg w6 hbox hb; have n0_ := Sd.mk (blk_below (g := gb305) (o := .cells #[.int .i64 a0_0, .int .i64 a0_1] 25 (0, 0)) (by exact blkF BK305.out) hb); have n1_ := Sd.mk (blk_below (g := gb306) (o := .cells #[.int .i64 a1_0, .int .i64 a1_1] 25 (0, 0)) (by exact blkF BK306.out) hb); have n2_ := Sd.mk (below_step (by repeat (first | (with_reducible first | exact HB.out | apply bal | apply pbd | apply bd1 | refine bst ?_ GE305.out | refine bst ?_ GE306.out) | exact HB.out)) hb); have n3_ := Sd.mk (hbox); have n4_ := Sd.mk ((by rw [hg]; exact (below_size (by repeat (first | (with_reducible first | exact HB.out | apply bal | apply pbd | apply bd1 | refine bst ?_ GE305.out | refine bst ?_ GE306.out) | exact HB.out))) : w.heap.size ≤ gb307)); have n5_ := Sd.mk ((by rw [hg]; exact (below_size (by repeat (first | (with_reducible first | exact HB.out | apply bal | apply pbd | apply bd1 | refine bst ?_ GE305.out | refine bst ?_ GE306.out) | exact HB.out))) : w.heap.size ≤ gb307)); have n6_ := Sd.mk ((by rw [hg]; exact Nat.ne_of_lt (blk_lt (g := gb305) (o := .cells #[.int .i64 a0_0, .int .i64 a0_1] 25 (0, 0)) (by exact blkF BK305.out)) : gb305 ≠ gb307)); have n7_ := Sd.mk ((by rw [hg]; exact Nat.ne_of_gt (blk_lt (g := gb305) (o := .cells #[.int .i64 a0_0, .int .i64 a0_1] 25 (0, 0)) (by exact blkF BK305.out)) : gb307 ≠ gb305)); have n8_ := Sd.mk ((by rw [hg]; exact Nat.ne_of_lt (blk_lt (g := gb306) (o := .cells #[.int .i64 a1_0, .int .i64 a1_1] 25 (0, 0)) (by exact blkF BK306.out)) : gb306 ≠ gb307)); have n9_ := Sd.mk ((by rw [hg]; exact Nat.ne_of_gt (blk_lt (g := gb306) (o := .cells #[.int .i64 a1_0, .int .i64 a1_1] 25 (0, 0)) (by exact blkF BK306.out)) : gb307 ≠ gb306)); clear BK305; clear BK306; clear HB; have BK305 := n0_; have BK306 := n1_; have HB := n2_; have BK307 := n3_; have GW307 := n4_; have GE307 := n5_; have NB305_307 := n6_; have NB307_305 := n7_; have NB306_307 := n8_; have NB307_306 := n9_; clear n0_ n1_ n2_ n3_ n4_ n5_ n6_ n7_ n8_ n9_; clear hb hbox hg))
 (try simp only [Act.put, List.setIfInBounds_toArray, List.set_cons_zero, List.set_cons_succ])
 go_cut [5] (fun v5 wc => ∃ (kq : Nat) (x5_2 : Bool), v5 = .bool x5_2 ∧ Sd (r8_over.j0 kq x5_2 a0_0 a0_1 a1_0 a1_1 = some (r1, r2)) ∧ Sd (kq ≤ k) ∧ Sd (wc.heap[gb305]? = some (.cells #[.int .i64 a0_0, .int .i64 a0_1] 25 (0, 0))) ∧ Sd (wc.heap[gb306]? = some (.cells #[.int .i64 a1_0, .int .i64 a1_1] 25 (0, 0))) ∧ Sd (wc.heap[gb307]? = some (.cells #[.int .i64 0, .int .i64 0] 25 (0, 0))) ∧ Sd (Below w.heap.size w wc))
 case first =>
  have H := HC3.out
  clear HC3
  replace H := Option.bind_eq_some_iff.mp H
  obtain ⟨t308, A70, H⟩ := H
  replace H : (if t308 = true then ((r8_num.f a1_0 a1_1).bind fun t309 => (if t309 = true then (r8_over.j0 k (a1_1 == 0) a0_0 a0_1 a1_0 a1_1) else (r8_over.j0 k false a0_0 a0_1 a1_0 a1_1))) else (r8_over.j0 k false a0_0 a0_1 a1_0 a1_1)) = some (r1, r2) := H
  have A7 := Sd.mk A70
  clear A70
  by_cases c8 : t308 = true
  ·subst c8
   have H1 : ((r8_num.f a1_0 a1_1).bind fun t309 => (if t309 = true then (r8_over.j0 k (a1_1 == 0) a0_0 a0_1 a1_0 a1_1) else (r8_over.j0 k false a0_0 a0_1 a1_0 a1_1))) = some (r1, r2) := by rw [if_pos rfl] at H; exact H
   clear H
   have H := H1
   clear H1
   replace H := Option.bind_eq_some_iff.mp H
   obtain ⟨t309, A90, H⟩ := H
   replace H : (if t309 = true then (r8_over.j0 k (a1_1 == 0) a0_0 a0_1 a1_0 a1_1) else (r8_over.j0 k false a0_0 a0_1 a1_0 a1_1)) = some (r1, r2) := H
   have A9 := Sd.mk A90
   clear A90
   by_cases c10 : t309 = true
   ·subst c10
    have H1 : (r8_over.j0 k (a1_1 == 0) a0_0 a0_1 a1_0 a1_1) = some (r1, r2) := by rw [if_pos rfl] at H; exact H
    clear H
    have H := H1
    clear H1
    have H' := Sd.mk H
    clear H
    have hnb11 := NB305_306.out
    have hnc11 := NB306_305.out
    have hnb12 := NB305_307.out
    have hnc12 := NB307_305.out
    have hcz13_0 : w6.cell? ⟨gb305, 0, none⟩ = some (.int .i64 a0_0) := (blk_cell BK305.out 0).trans rfl
    have hcz13_1 : w6.cell? ⟨gb305, 1, none⟩ = some (.int .i64 a0_1) := (blk_cell BK305.out 1).trans rfl
    have hfz13_0 := blk_frozen BK305.out 0
    have hfz13_1 := blk_frozen BK305.out 1
    go_wp2_with (first | ((with_reducible refine gate_callee (f := 48) rfl ?_); refine goesL_ (some 7) rfl rfl Tryz.func48 (by kernel_rfl) rfl #[.agg #[.int .i64 a0_0, .int .i64 a0_1]] rfl (by (try simp only [List.map_toArray, List.map_cons, List.map_nil]); first | done | rfl | (simp only [List.length_drop, List.length_take]; rfl)) ?_; (with_reducible refine (r8_num.calls a0_0 a0_1 true _ A7.out).mono ?_); rintro e w14 ⟨rfl, hb⟩; refine ⟨_, rfl, ?_⟩; have n0_ := Sd.mk (blk_below (g := gb305) (o := .cells #[.int .i64 a0_0, .int .i64 a0_1] 25 (0, 0)) (by exact blkF BK305.out) hb); have n1_ := Sd.mk (blk_below (g := gb306) (o := .cells #[.int .i64 a1_0, .int .i64 a1_1] 25 (0, 0)) (by exact blkF BK306.out) hb); have n2_ := Sd.mk (blk_below (g := gb307) (o := .cells #[.int .i64 0, .int .i64 0] 25 (0, 0)) (by exact blkF BK307.out) hb); have n3_ := Sd.mk (below_step (by repeat (first | (with_reducible first | exact HB.out | apply bal | apply pbd | apply bd1 | refine bst ?_ GE305.out | refine bst ?_ GE306.out | refine bst ?_ GE307.out) | exact HB.out)) hb); clear BK305; clear BK306; clear BK307; clear HB; have BK305 := n0_; have BK306 := n1_; have BK307 := n2_; have HB := n3_; clear n0_ n1_ n2_ n3_; (try clear hb); (try clear hb2); (try clear hk); (try clear hi); have hnb15 := NB306_307.out; have hnc15 := NB307_306.out; have hcz16_0 : w14.cell? ⟨gb306, 0, none⟩ = some (.int .i64 a1_0) := (blk_cell BK306.out 0).trans rfl; have hcz16_1 : w14.cell? ⟨gb306, 1, none⟩ = some (.int .i64 a1_1) := (blk_cell BK306.out 1).trans rfl; have hfz16_0 := blk_frozen BK306.out 0; have hfz16_1 := blk_frozen BK306.out 1) | (go_at_call 48; (with_reducible refine (r8_num.calls a1_0 a1_1 true _ A9.out).mono ?_); rintro e w17 ⟨rfl, hb⟩; have n0_ := Sd.mk (blk_below (g := gb305) (o := .cells #[.int .i64 a0_0, .int .i64 a0_1] 25 (0, 0)) (by exact blkF BK305.out) hb); have n1_ := Sd.mk (blk_below (g := gb306) (o := .cells #[.int .i64 a1_0, .int .i64 a1_1] 25 (0, 0)) (by exact blkF BK306.out) hb); have n2_ := Sd.mk (blk_below (g := gb307) (o := .cells #[.int .i64 0, .int .i64 0] 25 (0, 0)) (by exact blkF BK307.out) hb); have n3_ := Sd.mk (below_step (by repeat (first | (with_reducible first | exact HB.out | apply bal | apply pbd | apply bd1 | refine bst ?_ GE305.out | refine bst ?_ GE306.out | refine bst ?_ GE307.out) | exact HB.out)) hb); clear BK305; clear BK306; clear BK307; clear HB; have BK305 := n0_; have BK306 := n1_; have BK307 := n2_; have HB := n3_; clear n0_ n1_ n2_ n3_; (try clear hb); (try clear hb2); (try clear hk); (try clear hi); have hcz18_0 : w17.cell? ⟨gb306, 0, none⟩ = some (.int .i64 a1_0) := (blk_cell BK306.out 0).trans rfl; have hcz18_1 : w17.cell? ⟨gb306, 1, none⟩ = some (.int .i64 a1_1) := (blk_cell BK306.out 1).trans rfl; have hfz18_0 := blk_frozen BK306.out 0; have hfz18_1 := blk_frozen BK306.out 1))
    go_meet
    case rel => exact ⟨_, ((a1_1 == 0)), (by first | rfl | (simp; done) | (simp [*]; done)), H', ⟨by first | omega | exact Nat.le_refl _⟩, ⟨by (with_reducible repeat (first | refine blk_drewN ?_ _ | refine blk_drew ?_ | refine blk_alloc ?_ _)); exact BK305.out⟩, ⟨by (with_reducible repeat (first | refine blk_drewN ?_ _ | refine blk_drew ?_ | refine blk_alloc ?_ _)); exact BK306.out⟩, ⟨by (with_reducible repeat (first | refine blk_drewN ?_ _ | refine blk_drew ?_ | refine blk_alloc ?_ _)); exact BK307.out⟩, ⟨by repeat (first | (with_reducible first | exact HB.out | apply bal | apply pbd | apply bd1 | refine bst ?_ GE305.out | refine bst ?_ GE306.out | refine bst ?_ GE307.out) | exact HB.out)⟩⟩
   ·replace c10 := Bool.eq_false_iff.mpr c10
    subst c10
    have H1 : (r8_over.j0 k false a0_0 a0_1 a1_0 a1_1) = some (r1, r2) := by rw [if_neg (show ¬ (false = true) by decide)] at H; exact H
    clear H
    have H := H1
    clear H1
    have H' := Sd.mk H
    clear H
    have hnb19 := NB305_306.out
    have hnc19 := NB306_305.out
    have hnb20 := NB305_307.out
    have hnc20 := NB307_305.out
    have hcz21_0 : w6.cell? ⟨gb305, 0, none⟩ = some (.int .i64 a0_0) := (blk_cell BK305.out 0).trans rfl
    have hcz21_1 : w6.cell? ⟨gb305, 1, none⟩ = some (.int .i64 a0_1) := (blk_cell BK305.out 1).trans rfl
    have hfz21_0 := blk_frozen BK305.out 0
    have hfz21_1 := blk_frozen BK305.out 1
    go_wp2_with (first | ((with_reducible refine gate_callee (f := 48) rfl ?_); refine goesL_ (some 7) rfl rfl Tryz.func48 (by kernel_rfl) rfl #[.agg #[.int .i64 a0_0, .int .i64 a0_1]] rfl (by (try simp only [List.map_toArray, List.map_cons, List.map_nil]); first | done | rfl | (simp only [List.length_drop, List.length_take]; rfl)) ?_; (with_reducible refine (r8_num.calls a0_0 a0_1 true _ A7.out).mono ?_); rintro e w22 ⟨rfl, hb⟩; refine ⟨_, rfl, ?_⟩; have n0_ := Sd.mk (blk_below (g := gb305) (o := .cells #[.int .i64 a0_0, .int .i64 a0_1] 25 (0, 0)) (by exact blkF BK305.out) hb); have n1_ := Sd.mk (blk_below (g := gb306) (o := .cells #[.int .i64 a1_0, .int .i64 a1_1] 25 (0, 0)) (by exact blkF BK306.out) hb); have n2_ := Sd.mk (blk_below (g := gb307) (o := .cells #[.int .i64 0, .int .i64 0] 25 (0, 0)) (by exact blkF BK307.out) hb); have n3_ := Sd.mk (below_step (by repeat (first | (with_reducible first | exact HB.out | apply bal | apply pbd | apply bd1 | refine bst ?_ GE305.out | refine bst ?_ GE306.out | refine bst ?_ GE307.out) | exact HB.out)) hb); clear BK305; clear BK306; clear BK307; clear HB; have BK305 := n0_; have BK306 := n1_; have BK307 := n2_; have HB := n3_; clear n0_ n1_ n2_ n3_; (try clear hb); (try clear hb2); (try clear hk); (try clear hi); have hnb23 := NB306_307.out; have hnc23 := NB307_306.out; have hcz24_0 : w22.cell? ⟨gb306, 0, none⟩ = some (.int .i64 a1_0) := (blk_cell BK306.out 0).trans rfl; have hcz24_1 : w22.cell? ⟨gb306, 1, none⟩ = some (.int .i64 a1_1) := (blk_cell BK306.out 1).trans rfl; have hfz24_0 := blk_frozen BK306.out 0; have hfz24_1 := blk_frozen BK306.out 1) | (go_at_call 48; (with_reducible refine (r8_num.calls a1_0 a1_1 false _ A9.out).mono ?_); rintro e w25 ⟨rfl, hb⟩; have n0_ := Sd.mk (blk_below (g := gb305) (o := .cells #[.int .i64 a0_0, .int .i64 a0_1] 25 (0, 0)) (by exact blkF BK305.out) hb); have n1_ := Sd.mk (blk_below (g := gb306) (o := .cells #[.int .i64 a1_0, .int .i64 a1_1] 25 (0, 0)) (by exact blkF BK306.out) hb); have n2_ := Sd.mk (blk_below (g := gb307) (o := .cells #[.int .i64 0, .int .i64 0] 25 (0, 0)) (by exact blkF BK307.out) hb); have n3_ := Sd.mk (below_step (by repeat (first | (with_reducible first | exact HB.out | apply bal | apply pbd | apply bd1 | refine bst ?_ GE305.out | refine bst ?_ GE306.out | refine bst ?_ GE307.out) | exact HB.out)) hb); clear BK305; clear BK306; clear BK307; clear HB; have BK305 := n0_; have BK306 := n1_; have BK307 := n2_; have HB := n3_; clear n0_ n1_ n2_ n3_; (try clear hb); (try clear hb2); (try clear hk); (try clear hi)))
    go_meet
    case rel => exact ⟨_, (false), (by first | rfl | (simp; done) | (simp [*]; done)), H', ⟨by first | omega | exact Nat.le_refl _⟩, ⟨by (with_reducible repeat (first | refine blk_drewN ?_ _ | refine blk_drew ?_ | refine blk_alloc ?_ _)); exact BK305.out⟩, ⟨by (with_reducible repeat (first | refine blk_drewN ?_ _ | refine blk_drew ?_ | refine blk_alloc ?_ _)); exact BK306.out⟩, ⟨by (with_reducible repeat (first | refine blk_drewN ?_ _ | refine blk_drew ?_ | refine blk_alloc ?_ _)); exact BK307.out⟩, ⟨by repeat (first | (with_reducible first | exact HB.out | apply bal | apply pbd | apply bd1 | refine bst ?_ GE305.out | refine bst ?_ GE306.out | refine bst ?_ GE307.out) | exact HB.out)⟩⟩
  ·replace c8 := Bool.eq_false_iff.mpr c8
   subst c8
   have H1 : (r8_over.j0 k false a0_0 a0_1 a1_0 a1_1) = some (r1, r2) := by rw [if_neg (show ¬ (false = true) by decide)] at H; exact H
   clear H
   have H := H1
   clear H1
   have H' := Sd.mk H
   clear H
   have hnb26 := NB305_306.out
   have hnc26 := NB306_305.out
   have hnb27 := NB305_307.out
   have hnc27 := NB307_305.out
   have hcz28_0 : w6.cell? ⟨gb305, 0, none⟩ = some (.int .i64 a0_0) := (blk_cell BK305.out 0).trans rfl
   have hcz28_1 : w6.cell? ⟨gb305, 1, none⟩ = some (.int .i64 a0_1) := (blk_cell BK305.out 1).trans rfl
   have hfz28_0 := blk_frozen BK305.out 0
   have hfz28_1 := blk_frozen BK305.out 1
   go_wp2_with (first | ((with_reducible refine gate_callee (f := 48) rfl ?_); refine goesL_ (some 7) rfl rfl Tryz.func48 (by kernel_rfl) rfl #[.agg #[.int .i64 a0_0, .int .i64 a0_1]] rfl (by (try simp only [List.map_toArray, List.map_cons, List.map_nil]); first | done | rfl | (simp only [List.length_drop, List.length_take]; rfl)) ?_; (with_reducible refine (r8_num.calls a0_0 a0_1 false _ A7.out).mono ?_); rintro e w29 ⟨rfl, hb⟩; refine ⟨_, rfl, ?_⟩; have n0_ := Sd.mk (blk_below (g := gb305) (o := .cells #[.int .i64 a0_0, .int .i64 a0_1] 25 (0, 0)) (by exact blkF BK305.out) hb); have n1_ := Sd.mk (blk_below (g := gb306) (o := .cells #[.int .i64 a1_0, .int .i64 a1_1] 25 (0, 0)) (by exact blkF BK306.out) hb); have n2_ := Sd.mk (blk_below (g := gb307) (o := .cells #[.int .i64 0, .int .i64 0] 25 (0, 0)) (by exact blkF BK307.out) hb); have n3_ := Sd.mk (below_step (by repeat (first | (with_reducible first | exact HB.out | apply bal | apply pbd | apply bd1 | refine bst ?_ GE305.out | refine bst ?_ GE306.out | refine bst ?_ GE307.out) | exact HB.out)) hb); clear BK305; clear BK306; clear BK307; clear HB; have BK305 := n0_; have BK306 := n1_; have BK307 := n2_; have HB := n3_; clear n0_ n1_ n2_ n3_; (try clear hb); (try clear hb2); (try clear hk); (try clear hi)))
   go_meet
   case rel => exact ⟨_, (false), (by first | rfl | (simp; done) | (simp [*]; done)), H', ⟨by first | omega | exact Nat.le_refl _⟩, ⟨by (with_reducible repeat (first | refine blk_drewN ?_ _ | refine blk_drew ?_ | refine blk_alloc ?_ _)); exact BK305.out⟩, ⟨by (with_reducible repeat (first | refine blk_drewN ?_ _ | refine blk_drew ?_ | refine blk_alloc ?_ _)); exact BK306.out⟩, ⟨by (with_reducible repeat (first | refine blk_drewN ?_ _ | refine blk_drew ?_ | refine blk_alloc ?_ _)); exact BK307.out⟩, ⟨by repeat (first | (with_reducible first | exact HB.out | apply bal | apply pbd | apply bd1 | refine bst ?_ GE305.out | refine bst ?_ GE306.out | refine bst ?_ GE307.out) | exact HB.out)⟩⟩
 case rest =>
  clear HC3
  try clear c1
  try clear c2
  try clear p2
  try clear c4
  try clear c8
  try clear c10
  try clear c11
  try clear c12
  try clear c15
  try clear c19
  try clear c20
  try clear c23
  try clear c26
  try clear c27
  try clear hcz13_0
  try clear hcz13_1
  try clear hcz16_0
  try clear hcz16_1
  try clear hcz18_0
  try clear hcz18_1
  try clear hcz21_0
  try clear hcz21_1
  try clear hcz24_0
  try clear hcz24_1
  try clear hcz28_0
  try clear hcz28_1
  try clear hfz13_0
  try clear hfz13_1
  try clear hfz16_0
  try clear hfz16_1
  try clear hfz18_0
  try clear hfz18_1
  try clear hfz21_0
  try clear hfz21_1
  try clear hfz24_0
  try clear hfz24_1
  try clear hfz28_0
  try clear hfz28_1
  obtain ⟨kq, x5_2, rfl, HA, HJ2, BK305, BK306, BK307, HB⟩ := hcut
  cases kq with
  | zero => exact absurd HA.out (by simp [r8_over.j0])
  | succ kj2 =>
   have H := HA.out
   clear HA
   simp only [r8_over.j0] at H
   by_cases c30 : x5_2 = true
   ·subst c30
    have H1 : ((r8_sign.f kj2 a0_0 a0_1).bind fun t310 => ((r8_beyond.f t310).bind fun bt311 => (some (bt311.1, bt311.2)))) = some (r1, r2) := by rw [if_pos rfl] at H; exact H
    clear H
    have H := H1
    clear H1
    replace H := Option.bind_eq_some_iff.mp H
    obtain ⟨t310, A310, H⟩ := H
    replace H : ((r8_beyond.f t310).bind fun bt311 => (some (bt311.1, bt311.2))) = some (r1, r2) := H
    have A31 := Sd.mk A310
    clear A310
    replace H := Option.bind_eq_some_iff.mp H
    obtain ⟨⟨t311, t312⟩, A320, H⟩ := H
    replace H : (some (t311, t312)) = some (r1, r2) := H
    have A32 := Sd.mk A320
    clear A320
    simp only [Option.some.injEq, Prod.mk.injEq] at H
    obtain ⟨rfl, rfl⟩ := H
    have hnb33 := NB305_306.out
    have hnc33 := NB306_305.out
    have hnb34 := NB305_307.out
    have hnc34 := NB307_305.out
    have hcz35_0 : wc.cell? ⟨gb305, 0, none⟩ = some (.int .i64 a0_0) := (blk_cell BK305.out 0).trans rfl
    have hcz35_1 : wc.cell? ⟨gb305, 1, none⟩ = some (.int .i64 a0_1) := (blk_cell BK305.out 1).trans rfl
    have hfz35_0 := blk_frozen BK305.out 0
    have hfz35_1 := blk_frozen BK305.out 1
    go_wp2_with (first | ((with_reducible refine gate_callee (f := 75) rfl ?_); refine goesL_ (some 18) rfl rfl Tryz.func75 (by kernel_rfl) rfl #[.agg #[.int .i64 a0_0, .int .i64 a0_1]] rfl (by (try simp only [List.map_toArray, List.map_cons, List.map_nil]); first | done | rfl | (simp only [List.length_drop, List.length_take]; rfl)) ?_; (with_reducible refine (r8_sign.calls kj2 a0_0 a0_1 t310 _ A31.out).mono ?_); rintro e w36 ⟨rfl, hb⟩; refine ⟨_, rfl, ?_⟩; have n0_ := Sd.mk (blk_below (g := gb305) (o := .cells #[.int .i64 a0_0, .int .i64 a0_1] 25 (0, 0)) (by exact blkF BK305.out) hb); have n1_ := Sd.mk (blk_below (g := gb306) (o := .cells #[.int .i64 a1_0, .int .i64 a1_1] 25 (0, 0)) (by exact blkF BK306.out) hb); have n2_ := Sd.mk (blk_below (g := gb307) (o := .cells #[.int .i64 0, .int .i64 0] 25 (0, 0)) (by exact blkF BK307.out) hb); have n3_ := Sd.mk (below_step (by repeat (first | (with_reducible first | exact HB.out | apply bal | apply pbd | apply bd1 | refine bst ?_ GE305.out | refine bst ?_ GE306.out | refine bst ?_ GE307.out) | exact HB.out)) hb); clear BK305; clear BK306; clear BK307; clear HB; have BK305 := n0_; have BK306 := n1_; have BK307 := n2_; have HB := n3_; clear n0_ n1_ n2_ n3_; (try clear hb); (try clear hb2); (try clear hk); (try clear hi)) | ((with_reducible refine gate_callee (f := 106) rfl ?_); refine goesL_ (some 19) rfl rfl Tryz.func106 (by kernel_rfl) rfl #[.int .i64 t310] rfl (by (try simp only [List.map_toArray, List.map_cons, List.map_nil]); first | done | rfl | (simp only [List.length_drop, List.length_take]; rfl)) ?_; (with_reducible refine (r8_beyond.calls t310 t311 t312 _ A32.out).mono ?_); rintro e w37 ⟨rfl, hb⟩; refine ⟨_, rfl, ?_⟩; have n0_ := Sd.mk (blk_below (g := gb305) (o := .cells #[.int .i64 a0_0, .int .i64 a0_1] 25 (0, 0)) (by exact blkF BK305.out) hb); have n1_ := Sd.mk (blk_below (g := gb306) (o := .cells #[.int .i64 a1_0, .int .i64 a1_1] 25 (0, 0)) (by exact blkF BK306.out) hb); have n2_ := Sd.mk (blk_below (g := gb307) (o := .cells #[.int .i64 0, .int .i64 0] 25 (0, 0)) (by exact blkF BK307.out) hb); have n3_ := Sd.mk (below_step (by repeat (first | (with_reducible first | exact HB.out | apply bal | apply pbd | apply bd1 | refine bst ?_ GE305.out | refine bst ?_ GE306.out | refine bst ?_ GE307.out) | exact HB.out)) hb); clear BK305; clear BK306; clear BK307; clear HB; have BK305 := n0_; have BK306 := n1_; have BK307 := n2_; have HB := n3_; clear n0_ n1_ n2_ n3_; (try clear hb); (try clear hb2); (try clear hk); (try clear hi); have hnb38 := NB307_306.out; have hnc38 := NB306_307.out; have hcz39_0 : w37.cell? ⟨gb307, 0, none⟩ = some (.int .i64 0) := (blk_cell BK307.out 0).trans rfl; have hcz39_1 : w37.cell? ⟨gb307, 1, none⟩ = some (.int .i64 0) := (blk_cell BK307.out 1).trans rfl; have hfz39_0 := blk_frozen BK307.out 0; have hfz39_1 := blk_frozen BK307.out 1))
    refine bodyPost_ret (results_cell_row rfl _ _ gb307 25 #[.int .i64 t311, .int .i64 t312] (0, 0) _ rfl (by (with_reducible repeat (first | refine blk_drewN ?_ _ | refine blk_drew ?_ | refine blk_alloc ?_ _)); refine blk_put (cs := #[.int .i64 t311, .int .i64 0]) ?_ 1 _ rfl; (with_reducible repeat (first | refine blk_drewN ?_ _ | refine blk_drew ?_ | refine blk_alloc ?_ _)); refine blk_put (cs := #[.int .i64 0, .int .i64 0]) ?_ 0 _ rfl; (with_reducible repeat (first | refine blk_drewN ?_ _ | refine blk_drew ?_ | refine blk_alloc ?_ _)); exact BK307.out) Tryz.underlying25 rfl (by kernel_rfl)) rfl ?_
    exact ⟨by first | rfl | (simp [errW_none, errW_some] <;> rfl) | (simp [*, errW_none, errW_some] <;> rfl), by repeat (first | (with_reducible first | exact HB.out | apply bal | apply pbd | apply bd1 | refine bst ?_ GE305.out | refine bst ?_ GE306.out | refine bst ?_ GE307.out) | exact HB.out)⟩
   ·replace c30 := Bool.eq_false_iff.mpr c30
    subst c30
    have H1 : ((r8_num.f a0_0 a0_1).bind fun t313 => (if t313 = true then ((r8_num.f a1_0 a1_1).bind fun t314 => (r8_over.j1 kj2 t314 a0_0 a0_1 a1_0 a1_1)) else (r8_over.j1 kj2 false a0_0 a0_1 a1_0 a1_1))) = some (r1, r2) := by rw [if_neg (show ¬ (false = true) by decide)] at H; exact H
    clear H
    have H := H1
    clear H1
    have HC40 := Sd.mk H
    clear H
    go_upto_region 3 with (fail)
    go_cut [20] (fun v20 wc => ∃ (kq : Nat) (x20_39 : Bool), v20 = .bool x20_39 ∧ Sd (r8_over.j1 kq x20_39 a0_0 a0_1 a1_0 a1_1 = some (r1, r2)) ∧ Sd (kq ≤ kj2) ∧ Sd (wc.heap[gb305]? = some (.cells #[.int .i64 a0_0, .int .i64 a0_1] 25 (0, 0))) ∧ Sd (wc.heap[gb306]? = some (.cells #[.int .i64 a1_0, .int .i64 a1_1] 25 (0, 0))) ∧ Sd (wc.heap[gb307]? = some (.cells #[.int .i64 0, .int .i64 0] 25 (0, 0))) ∧ Sd (Below w.heap.size w wc))
    case first =>
     have H := HC40.out
     clear HC40
     replace H := Option.bind_eq_some_iff.mp H
     obtain ⟨t313, A410, H⟩ := H
     replace H : (if t313 = true then ((r8_num.f a1_0 a1_1).bind fun t314 => (r8_over.j1 kj2 t314 a0_0 a0_1 a1_0 a1_1)) else (r8_over.j1 kj2 false a0_0 a0_1 a1_0 a1_1)) = some (r1, r2) := H
     have A41 := Sd.mk A410
     clear A410
     by_cases c42 : t313 = true
     ·subst c42
      have H1 : ((r8_num.f a1_0 a1_1).bind fun t314 => (r8_over.j1 kj2 t314 a0_0 a0_1 a1_0 a1_1)) = some (r1, r2) := by rw [if_pos rfl] at H; exact H
      clear H
      have H := H1
      clear H1
      replace H := Option.bind_eq_some_iff.mp H
      obtain ⟨t314, A430, H⟩ := H
      replace H : (r8_over.j1 kj2 t314 a0_0 a0_1 a1_0 a1_1) = some (r1, r2) := H
      have A43 := Sd.mk A430
      clear A430
      have H' := Sd.mk H
      clear H
      have hnb44 := NB305_306.out
      have hnc44 := NB306_305.out
      have hnb45 := NB305_307.out
      have hnc45 := NB307_305.out
      have hcz46_0 : wc.cell? ⟨gb305, 0, none⟩ = some (.int .i64 a0_0) := (blk_cell BK305.out 0).trans rfl
      have hcz46_1 : wc.cell? ⟨gb305, 1, none⟩ = some (.int .i64 a0_1) := (blk_cell BK305.out 1).trans rfl
      have hfz46_0 := blk_frozen BK305.out 0
      have hfz46_1 := blk_frozen BK305.out 1
      go_wp2_with (first | ((with_reducible refine gate_callee (f := 48) rfl ?_); refine goesL_ (some 22) rfl rfl Tryz.func48 (by kernel_rfl) rfl #[.agg #[.int .i64 a0_0, .int .i64 a0_1]] rfl (by (try simp only [List.map_toArray, List.map_cons, List.map_nil]); first | done | rfl | (simp only [List.length_drop, List.length_take]; rfl)) ?_; (with_reducible refine (r8_num.calls a0_0 a0_1 true _ A41.out).mono ?_); rintro e w47 ⟨rfl, hb⟩; refine ⟨_, rfl, ?_⟩; have n0_ := Sd.mk (blk_below (g := gb305) (o := .cells #[.int .i64 a0_0, .int .i64 a0_1] 25 (0, 0)) (by exact blkF BK305.out) hb); have n1_ := Sd.mk (blk_below (g := gb306) (o := .cells #[.int .i64 a1_0, .int .i64 a1_1] 25 (0, 0)) (by exact blkF BK306.out) hb); have n2_ := Sd.mk (blk_below (g := gb307) (o := .cells #[.int .i64 0, .int .i64 0] 25 (0, 0)) (by exact blkF BK307.out) hb); have n3_ := Sd.mk (below_step (by repeat (first | (with_reducible first | exact HB.out | apply bal | apply pbd | apply bd1 | refine bst ?_ GE305.out | refine bst ?_ GE306.out | refine bst ?_ GE307.out) | exact HB.out)) hb); clear BK305; clear BK306; clear BK307; clear HB; have BK305 := n0_; have BK306 := n1_; have BK307 := n2_; have HB := n3_; clear n0_ n1_ n2_ n3_; (try clear hb); (try clear hb2); (try clear hk); (try clear hi); have hnb48 := NB306_307.out; have hnc48 := NB307_306.out; have hcz49_0 : w47.cell? ⟨gb306, 0, none⟩ = some (.int .i64 a1_0) := (blk_cell BK306.out 0).trans rfl; have hcz49_1 : w47.cell? ⟨gb306, 1, none⟩ = some (.int .i64 a1_1) := (blk_cell BK306.out 1).trans rfl; have hfz49_0 := blk_frozen BK306.out 0; have hfz49_1 := blk_frozen BK306.out 1) | (go_at_call 48; (with_reducible refine (r8_num.calls a1_0 a1_1 t314 _ A43.out).mono ?_); rintro e w50 ⟨rfl, hb⟩; have n0_ := Sd.mk (blk_below (g := gb305) (o := .cells #[.int .i64 a0_0, .int .i64 a0_1] 25 (0, 0)) (by exact blkF BK305.out) hb); have n1_ := Sd.mk (blk_below (g := gb306) (o := .cells #[.int .i64 a1_0, .int .i64 a1_1] 25 (0, 0)) (by exact blkF BK306.out) hb); have n2_ := Sd.mk (blk_below (g := gb307) (o := .cells #[.int .i64 0, .int .i64 0] 25 (0, 0)) (by exact blkF BK307.out) hb); have n3_ := Sd.mk (below_step (by repeat (first | (with_reducible first | exact HB.out | apply bal | apply pbd | apply bd1 | refine bst ?_ GE305.out | refine bst ?_ GE306.out | refine bst ?_ GE307.out) | exact HB.out)) hb); clear BK305; clear BK306; clear BK307; clear HB; have BK305 := n0_; have BK306 := n1_; have BK307 := n2_; have HB := n3_; clear n0_ n1_ n2_ n3_; (try clear hb); (try clear hb2); (try clear hk); (try clear hi)))
      go_meet
      case rel => exact ⟨_, (t314), (by first | rfl | (simp; done) | (simp [*]; done)), H', ⟨by have := HJ2.out; first | omega | exact Nat.le_refl _⟩, ⟨by (with_reducible repeat (first | refine blk_drewN ?_ _ | refine blk_drew ?_ | refine blk_alloc ?_ _)); exact BK305.out⟩, ⟨by (with_reducible repeat (first | refine blk_drewN ?_ _ | refine blk_drew ?_ | refine blk_alloc ?_ _)); exact BK306.out⟩, ⟨by (with_reducible repeat (first | refine blk_drewN ?_ _ | refine blk_drew ?_ | refine blk_alloc ?_ _)); exact BK307.out⟩, ⟨by repeat (first | (with_reducible first | exact HB.out | apply bal | apply pbd | apply bd1 | refine bst ?_ GE305.out | refine bst ?_ GE306.out | refine bst ?_ GE307.out) | exact HB.out)⟩⟩
     ·replace c42 := Bool.eq_false_iff.mpr c42
      subst c42
      have H1 : (r8_over.j1 kj2 false a0_0 a0_1 a1_0 a1_1) = some (r1, r2) := by rw [if_neg (show ¬ (false = true) by decide)] at H; exact H
      clear H
      have H := H1
      clear H1
      have H' := Sd.mk H
      clear H
      have hnb51 := NB305_306.out
      have hnc51 := NB306_305.out
      have hnb52 := NB305_307.out
      have hnc52 := NB307_305.out
      have hcz53_0 : wc.cell? ⟨gb305, 0, none⟩ = some (.int .i64 a0_0) := (blk_cell BK305.out 0).trans rfl
      have hcz53_1 : wc.cell? ⟨gb305, 1, none⟩ = some (.int .i64 a0_1) := (blk_cell BK305.out 1).trans rfl
      have hfz53_0 := blk_frozen BK305.out 0
      have hfz53_1 := blk_frozen BK305.out 1
      go_wp2_with (first | ((with_reducible refine gate_callee (f := 48) rfl ?_); refine goesL_ (some 22) rfl rfl Tryz.func48 (by kernel_rfl) rfl #[.agg #[.int .i64 a0_0, .int .i64 a0_1]] rfl (by (try simp only [List.map_toArray, List.map_cons, List.map_nil]); first | done | rfl | (simp only [List.length_drop, List.length_take]; rfl)) ?_; (with_reducible refine (r8_num.calls a0_0 a0_1 false _ A41.out).mono ?_); rintro e w54 ⟨rfl, hb⟩; refine ⟨_, rfl, ?_⟩; have n0_ := Sd.mk (blk_below (g := gb305) (o := .cells #[.int .i64 a0_0, .int .i64 a0_1] 25 (0, 0)) (by exact blkF BK305.out) hb); have n1_ := Sd.mk (blk_below (g := gb306) (o := .cells #[.int .i64 a1_0, .int .i64 a1_1] 25 (0, 0)) (by exact blkF BK306.out) hb); have n2_ := Sd.mk (blk_below (g := gb307) (o := .cells #[.int .i64 0, .int .i64 0] 25 (0, 0)) (by exact blkF BK307.out) hb); have n3_ := Sd.mk (below_step (by repeat (first | (with_reducible first | exact HB.out | apply bal | apply pbd | apply bd1 | refine bst ?_ GE305.out | refine bst ?_ GE306.out | refine bst ?_ GE307.out) | exact HB.out)) hb); clear BK305; clear BK306; clear BK307; clear HB; have BK305 := n0_; have BK306 := n1_; have BK307 := n2_; have HB := n3_; clear n0_ n1_ n2_ n3_; (try clear hb); (try clear hb2); (try clear hk); (try clear hi)))
      go_meet
      case rel => exact ⟨_, (false), (by first | rfl | (simp; done) | (simp [*]; done)), H', ⟨by have := HJ2.out; first | omega | exact Nat.le_refl _⟩, ⟨by (with_reducible repeat (first | refine blk_drewN ?_ _ | refine blk_drew ?_ | refine blk_alloc ?_ _)); exact BK305.out⟩, ⟨by (with_reducible repeat (first | refine blk_drewN ?_ _ | refine blk_drew ?_ | refine blk_alloc ?_ _)); exact BK306.out⟩, ⟨by (with_reducible repeat (first | refine blk_drewN ?_ _ | refine blk_drew ?_ | refine blk_alloc ?_ _)); exact BK307.out⟩, ⟨by repeat (first | (with_reducible first | exact HB.out | apply bal | apply pbd | apply bd1 | refine bst ?_ GE305.out | refine bst ?_ GE306.out | refine bst ?_ GE307.out) | exact HB.out)⟩⟩
    case rest =>
     clear HC40
     try clear c1
     try clear c2
     try clear p2
     try clear c3
     try clear c4
     try clear c5
     try clear c7
     try clear c8
     try clear c10
     try clear c11
     try clear c12
     try clear c15
     try clear c19
     try clear c20
     try clear c23
     try clear c26
     try clear c27
     try clear c30
     try clear c33
     try clear c34
     try clear c38
     try clear c42
     try clear c44
     try clear c45
     try clear c48
     try clear c51
     try clear c52
     try clear hcz13_0
     try clear hcz13_1
     try clear hcz16_0
     try clear hcz16_1
     try clear hcz18_0
     try clear hcz18_1
     try clear hcz21_0
     try clear hcz21_1
     try clear hcz24_0
     try clear hcz24_1
     try clear hcz28_0
     try clear hcz28_1
     try clear hcz35_0
     try clear hcz35_1
     try clear hcz39_0
     try clear hcz39_1
     try clear hcz46_0
     try clear hcz46_1
     try clear hcz49_0
     try clear hcz49_1
     try clear hcz53_0
     try clear hcz53_1
     try clear hfz13_0
     try clear hfz13_1
     try clear hfz16_0
     try clear hfz16_1
     try clear hfz18_0
     try clear hfz18_1
     try clear hfz21_0
     try clear hfz21_1
     try clear hfz24_0
     try clear hfz24_1
     try clear hfz28_0
     try clear hfz28_1
     try clear hfz35_0
     try clear hfz35_1
     try clear hfz39_0
     try clear hfz39_1
     try clear hfz46_0
     try clear hfz46_1
     try clear hfz49_0
     try clear hfz49_1
     try clear hfz53_0
     try clear hfz53_1
     try clear p2
     obtain ⟨kq, x20_39, rfl, HA, HJ39, BK305, BK306, BK307, HB⟩ := hcut
     cases kq with
     | zero => exact absurd HA.out (by simp [r8_over.j1])
     | succ kj39 =>
      have H := HA.out
      clear HA
      simp only [r8_over.j1] at H
      by_cases c55 : x20_39 = true
      ·subst c55
       have H1 : (if a1_1 = 0 then (none) else ((r8_Num.f (wrap64 (Int.tdiv (wrap64 (a0_1 * 1000)) a1_1))).bind fun bt315 => (some (bt315.1, bt315.2)))) = some (r1, r2) := by rw [if_pos rfl] at H; exact H
       clear H
       have H := H1
       clear H1
       by_cases c56 : a1_1 = 0
       ·rw [if_pos c56] at H
        exact absurd H (by simp)
       ·rw [if_neg c56] at H
        have c56b0 : (a1_1 == 0) = false := beq_eq_false_iff_ne.mpr c56
        have c56b1 : (a1_1 != 0) = true := bne_iff_ne.mpr c56
        replace H := Option.bind_eq_some_iff.mp H
        obtain ⟨⟨t315, t316⟩, A570, H⟩ := H
        replace H : (some (t315, t316)) = some (r1, r2) := H
        have A57 := Sd.mk A570
        clear A570
        simp only [Option.some.injEq, Prod.mk.injEq] at H
        obtain ⟨rfl, rfl⟩ := H
        have hnb58 := NB305_306.out
        have hnc58 := NB306_305.out
        have hnb59 := NB305_307.out
        have hnc59 := NB307_305.out
        have hcz60_0 : wc.cell? ⟨gb305, 0, none⟩ = some (.int .i64 a0_0) := (blk_cell BK305.out 0).trans rfl
        have hcz60_1 : wc.cell? ⟨gb305, 1, none⟩ = some (.int .i64 a0_1) := (blk_cell BK305.out 1).trans rfl
        have hfz60_0 := blk_frozen BK305.out 0
        have hfz60_1 := blk_frozen BK305.out 1
        have hnb61 := NB306_307.out
        have hnc61 := NB307_306.out
        have hcz62_0 : wc.cell? ⟨gb306, 0, none⟩ = some (.int .i64 a1_0) := (blk_cell BK306.out 0).trans rfl
        have hcz62_1 : wc.cell? ⟨gb306, 1, none⟩ = some (.int .i64 a1_1) := (blk_cell BK306.out 1).trans rfl
        have hfz62_0 := blk_frozen BK306.out 0
        have hfz62_1 := blk_frozen BK306.out 1
        go_wp2_with (first | ((with_reducible refine gate_callee (f := 20) rfl ?_); refine goesL_ (some 33) rfl rfl Tryz.func20 (by kernel_rfl) rfl #[.int .i64 (wrap64 (Int.tdiv (wrap64 (a0_1 * 1000)) a1_1))] rfl (by (try simp only [List.map_toArray, List.map_cons, List.map_nil]); first | done | rfl | (simp only [List.length_drop, List.length_take]; rfl)) ?_; (with_reducible refine (r8_Num.calls (wrap64 (Int.tdiv (wrap64 (a0_1 * 1000)) a1_1)) t315 t316 _ A57.out).mono ?_); rintro e w63 ⟨rfl, hb⟩; refine ⟨_, rfl, ?_⟩; have n0_ := Sd.mk (blk_below (g := gb305) (o := .cells #[.int .i64 a0_0, .int .i64 a0_1] 25 (0, 0)) (by exact blkF BK305.out) hb); have n1_ := Sd.mk (blk_below (g := gb306) (o := .cells #[.int .i64 a1_0, .int .i64 a1_1] 25 (0, 0)) (by exact blkF BK306.out) hb); have n2_ := Sd.mk (blk_below (g := gb307) (o := .cells #[.int .i64 0, .int .i64 0] 25 (0, 0)) (by exact blkF BK307.out) hb); have n3_ := Sd.mk (below_step (by repeat (first | (with_reducible first | exact HB.out | apply bal | apply pbd | apply bd1 | refine bst ?_ GE305.out | refine bst ?_ GE306.out | refine bst ?_ GE307.out) | exact HB.out)) hb); clear BK305; clear BK306; clear BK307; clear HB; have BK305 := n0_; have BK306 := n1_; have BK307 := n2_; have HB := n3_; clear n0_ n1_ n2_ n3_; (try clear hb); (try clear hb2); (try clear hk); (try clear hi); have hcz64_0 : w63.cell? ⟨gb307, 0, none⟩ = some (.int .i64 0) := (blk_cell BK307.out 0).trans rfl; have hcz64_1 : w63.cell? ⟨gb307, 1, none⟩ = some (.int .i64 0) := (blk_cell BK307.out 1).trans rfl; have hfz64_0 := blk_frozen BK307.out 0; have hfz64_1 := blk_frozen BK307.out 1))
        refine bodyPost_ret (results_cell_row rfl _ _ gb307 25 #[.int .i64 t315, .int .i64 t316] (0, 0) _ rfl (by (with_reducible repeat (first | refine blk_drewN ?_ _ | refine blk_drew ?_ | refine blk_alloc ?_ _)); refine blk_put (cs := #[.int .i64 t315, .int .i64 0]) ?_ 1 _ rfl; (with_reducible repeat (first | refine blk_drewN ?_ _ | refine blk_drew ?_ | refine blk_alloc ?_ _)); refine blk_put (cs := #[.int .i64 0, .int .i64 0]) ?_ 0 _ rfl; (with_reducible repeat (first | refine blk_drewN ?_ _ | refine blk_drew ?_ | refine blk_alloc ?_ _)); exact BK307.out) Tryz.underlying25 rfl (by kernel_rfl)) rfl ?_
        exact ⟨by first | rfl | (simp [errW_none, errW_some] <;> rfl) | (simp [*, errW_none, errW_some] <;> rfl), by repeat (first | (with_reducible first | exact HB.out | apply bal | apply pbd | apply bd1 | refine bst ?_ GE305.out | refine bst ?_ GE306.out | refine bst ?_ GE307.out) | exact HB.out)⟩
      ·replace c55 := Bool.eq_false_iff.mpr c55
       subst c55
       have H1 : ((r8_num.f a0_0 a0_1).bind fun t317 => (if t317 = true then ((r8_Num.f 0).bind fun bt318 => (some (bt318.1, bt318.2))) else ((r8_num.f a1_0 a1_1).bind fun t320 => (if t320 = true then (r8_over.j2 kj39 (decide (a1_1 < 0)) a0_0 a0_1 a1_0 a1_1) else (r8_over.j2 kj39 false a0_0 a0_1 a1_0 a1_1))))) = some (r1, r2) := by rw [if_neg (show ¬ (false = true) by decide)] at H; exact H
       clear H
       have H := H1
       clear H1
       replace H := Option.bind_eq_some_iff.mp H
       obtain ⟨t317, A650, H⟩ := H
       replace H : (if t317 = true then ((r8_Num.f 0).bind fun bt318 => (some (bt318.1, bt318.2))) else ((r8_num.f a1_0 a1_1).bind fun t320 => (if t320 = true then (r8_over.j2 kj39 (decide (a1_1 < 0)) a0_0 a0_1 a1_0 a1_1) else (r8_over.j2 kj39 false a0_0 a0_1 a1_0 a1_1)))) = some (r1, r2) := H
       have A65 := Sd.mk A650
       clear A650
       by_cases c66 : t317 = true
       ·subst c66
        have H1 : ((r8_Num.f 0).bind fun bt318 => (some (bt318.1, bt318.2))) = some (r1, r2) := by rw [if_pos rfl] at H; exact H
        clear H
        have H := H1
        clear H1
        replace H := Option.bind_eq_some_iff.mp H
        obtain ⟨⟨t318, t319⟩, A670, H⟩ := H
        replace H : (some (t318, t319)) = some (r1, r2) := H
        have A67 := Sd.mk A670
        clear A670
        simp only [Option.some.injEq, Prod.mk.injEq] at H
        obtain ⟨rfl, rfl⟩ := H
        have hnb68 := NB305_306.out
        have hnc68 := NB306_305.out
        have hnb69 := NB305_307.out
        have hnc69 := NB307_305.out
        have hcz70_0 : wc.cell? ⟨gb305, 0, none⟩ = some (.int .i64 a0_0) := (blk_cell BK305.out 0).trans rfl
        have hcz70_1 : wc.cell? ⟨gb305, 1, none⟩ = some (.int .i64 a0_1) := (blk_cell BK305.out 1).trans rfl
        have hfz70_0 := blk_frozen BK305.out 0
        have hfz70_1 := blk_frozen BK305.out 1
        go_wp2_with (first | ((with_reducible refine gate_callee (f := 48) rfl ?_); refine goesL_ (some 36) rfl rfl Tryz.func48 (by kernel_rfl) rfl #[.agg #[.int .i64 a0_0, .int .i64 a0_1]] rfl (by (try simp only [List.map_toArray, List.map_cons, List.map_nil]); first | done | rfl | (simp only [List.length_drop, List.length_take]; rfl)) ?_; (with_reducible refine (r8_num.calls a0_0 a0_1 true _ A65.out).mono ?_); rintro e w71 ⟨rfl, hb⟩; refine ⟨_, rfl, ?_⟩; have n0_ := Sd.mk (blk_below (g := gb305) (o := .cells #[.int .i64 a0_0, .int .i64 a0_1] 25 (0, 0)) (by exact blkF BK305.out) hb); have n1_ := Sd.mk (blk_below (g := gb306) (o := .cells #[.int .i64 a1_0, .int .i64 a1_1] 25 (0, 0)) (by exact blkF BK306.out) hb); have n2_ := Sd.mk (blk_below (g := gb307) (o := .cells #[.int .i64 0, .int .i64 0] 25 (0, 0)) (by exact blkF BK307.out) hb); have n3_ := Sd.mk (below_step (by repeat (first | (with_reducible first | exact HB.out | apply bal | apply pbd | apply bd1 | refine bst ?_ GE305.out | refine bst ?_ GE306.out | refine bst ?_ GE307.out) | exact HB.out)) hb); clear BK305; clear BK306; clear BK307; clear HB; have BK305 := n0_; have BK306 := n1_; have BK307 := n2_; have HB := n3_; clear n0_ n1_ n2_ n3_; (try clear hb); (try clear hb2); (try clear hk); (try clear hi)) | ((with_reducible refine gate_callee (f := 20) rfl ?_); refine goesL_ (some 37) rfl rfl Tryz.func20 (by kernel_rfl) rfl #[.int .i64 0] rfl (by (try simp only [List.map_toArray, List.map_cons, List.map_nil]); first | done | rfl | (simp only [List.length_drop, List.length_take]; rfl)) ?_; (with_reducible refine (r8_Num.calls 0 t318 t319 _ A67.out).mono ?_); rintro e w72 ⟨rfl, hb⟩; refine ⟨_, rfl, ?_⟩; have n0_ := Sd.mk (blk_below (g := gb305) (o := .cells #[.int .i64 a0_0, .int .i64 a0_1] 25 (0, 0)) (by exact blkF BK305.out) hb); have n1_ := Sd.mk (blk_below (g := gb306) (o := .cells #[.int .i64 a1_0, .int .i64 a1_1] 25 (0, 0)) (by exact blkF BK306.out) hb); have n2_ := Sd.mk (blk_below (g := gb307) (o := .cells #[.int .i64 0, .int .i64 0] 25 (0, 0)) (by exact blkF BK307.out) hb); have n3_ := Sd.mk (below_step (by repeat (first | (with_reducible first | exact HB.out | apply bal | apply pbd | apply bd1 | refine bst ?_ GE305.out | refine bst ?_ GE306.out | refine bst ?_ GE307.out) | exact HB.out)) hb); clear BK305; clear BK306; clear BK307; clear HB; have BK305 := n0_; have BK306 := n1_; have BK307 := n2_; have HB := n3_; clear n0_ n1_ n2_ n3_; (try clear hb); (try clear hb2); (try clear hk); (try clear hi); have hnb73 := NB307_306.out; have hnc73 := NB306_307.out; have hcz74_0 : w72.cell? ⟨gb307, 0, none⟩ = some (.int .i64 0) := (blk_cell BK307.out 0).trans rfl; have hcz74_1 : w72.cell? ⟨gb307, 1, none⟩ = some (.int .i64 0) := (blk_cell BK307.out 1).trans rfl; have hfz74_0 := blk_frozen BK307.out 0; have hfz74_1 := blk_frozen BK307.out 1))
        refine bodyPost_ret (results_cell_row rfl _ _ gb307 25 #[.int .i64 t318, .int .i64 t319] (0, 0) _ rfl (by (with_reducible repeat (first | refine blk_drewN ?_ _ | refine blk_drew ?_ | refine blk_alloc ?_ _)); refine blk_put (cs := #[.int .i64 t318, .int .i64 0]) ?_ 1 _ rfl; (with_reducible repeat (first | refine blk_drewN ?_ _ | refine blk_drew ?_ | refine blk_alloc ?_ _)); refine blk_put (cs := #[.int .i64 0, .int .i64 0]) ?_ 0 _ rfl; (with_reducible repeat (first | refine blk_drewN ?_ _ | refine blk_drew ?_ | refine blk_alloc ?_ _)); exact BK307.out) Tryz.underlying25 rfl (by kernel_rfl)) rfl ?_
        exact ⟨by first | rfl | (simp [errW_none, errW_some] <;> rfl) | (simp [*, errW_none, errW_some] <;> rfl), by repeat (first | (with_reducible first | exact HB.out | apply bal | apply pbd | apply bd1 | refine bst ?_ GE305.out | refine bst ?_ GE306.out | refine bst ?_ GE307.out) | exact HB.out)⟩
       ·replace c66 := Bool.eq_false_iff.mpr c66
        subst c66
        have H1 : ((r8_num.f a1_0 a1_1).bind fun t320 => (if t320 = true then (r8_over.j2 kj39 (decide (a1_1 < 0)) a0_0 a0_1 a1_0 a1_1) else (r8_over.j2 kj39 false a0_0 a0_1 a1_0 a1_1))) = some (r1, r2) := by rw [if_neg (show ¬ (false = true) by decide)] at H; exact H
        clear H
        have H := H1
        clear H1
        have HC75 := Sd.mk H
        clear H
        have hnb76 := NB305_306.out
        have hnc76 := NB306_305.out
        have hnb77 := NB305_307.out
        have hnc77 := NB307_305.out
        have hcz78_0 : wc.cell? ⟨gb305, 0, none⟩ = some (.int .i64 a0_0) := (blk_cell BK305.out 0).trans rfl
        have hcz78_1 : wc.cell? ⟨gb305, 1, none⟩ = some (.int .i64 a0_1) := (blk_cell BK305.out 1).trans rfl
        have hfz78_0 := blk_frozen BK305.out 0
        have hfz78_1 := blk_frozen BK305.out 1
        go_upto_region 7 with (first | ((with_reducible refine gate_callee (f := 48) rfl ?_); refine goesL_ (some 36) rfl rfl Tryz.func48 (by kernel_rfl) rfl #[.agg #[.int .i64 a0_0, .int .i64 a0_1]] rfl (by (try simp only [List.map_toArray, List.map_cons, List.map_nil]); first | done | rfl | (simp only [List.length_drop, List.length_take]; rfl)) ?_; (with_reducible refine (r8_num.calls a0_0 a0_1 false _ A65.out).mono ?_); rintro e w79 ⟨rfl, hb⟩; refine ⟨_, rfl, ?_⟩; have n0_ := Sd.mk (blk_below (g := gb305) (o := .cells #[.int .i64 a0_0, .int .i64 a0_1] 25 (0, 0)) (by exact blkF BK305.out) hb); have n1_ := Sd.mk (blk_below (g := gb306) (o := .cells #[.int .i64 a1_0, .int .i64 a1_1] 25 (0, 0)) (by exact blkF BK306.out) hb); have n2_ := Sd.mk (blk_below (g := gb307) (o := .cells #[.int .i64 0, .int .i64 0] 25 (0, 0)) (by exact blkF BK307.out) hb); have n3_ := Sd.mk (below_step (by repeat (first | (with_reducible first | exact HB.out | apply bal | apply pbd | apply bd1 | refine bst ?_ GE305.out | refine bst ?_ GE306.out | refine bst ?_ GE307.out) | exact HB.out)) hb); clear BK305; clear BK306; clear BK307; clear HB; have BK305 := n0_; have BK306 := n1_; have BK307 := n2_; have HB := n3_; clear n0_ n1_ n2_ n3_; (try clear hb); (try clear hb2); (try clear hk); (try clear hi)))
        (try simp only [Act.put, List.setIfInBounds_toArray, List.set_cons_zero, List.set_cons_succ])
        go_cut [38] (fun v38 wc => ∃ (kq : Nat) (x38_74 : Bool), v38 = .bool x38_74 ∧ Sd (r8_over.j2 kq x38_74 a0_0 a0_1 a1_0 a1_1 = some (r1, r2)) ∧ Sd (kq ≤ kj39) ∧ Sd (wc.heap[gb305]? = some (.cells #[.int .i64 a0_0, .int .i64 a0_1] 25 (0, 0))) ∧ Sd (wc.heap[gb306]? = some (.cells #[.int .i64 a1_0, .int .i64 a1_1] 25 (0, 0))) ∧ Sd (wc.heap[gb307]? = some (.cells #[.int .i64 0, .int .i64 0] 25 (0, 0))) ∧ Sd (Below w.heap.size w wc))
        case first =>
         have H := HC75.out
         clear HC75
         replace H := Option.bind_eq_some_iff.mp H
         obtain ⟨t320, A800, H⟩ := H
         replace H : (if t320 = true then (r8_over.j2 kj39 (decide (a1_1 < 0)) a0_0 a0_1 a1_0 a1_1) else (r8_over.j2 kj39 false a0_0 a0_1 a1_0 a1_1)) = some (r1, r2) := H
         have A80 := Sd.mk A800
         clear A800
         by_cases c81 : t320 = true
         ·subst c81
          have H1 : (r8_over.j2 kj39 (decide (a1_1 < 0)) a0_0 a0_1 a1_0 a1_1) = some (r1, r2) := by rw [if_pos rfl] at H; exact H
          clear H
          have H := H1
          clear H1
          have H' := Sd.mk H
          clear H
          have hnb82 := NB306_305.out
          have hnc82 := NB305_306.out
          have hnb83 := NB306_307.out
          have hnc83 := NB307_306.out
          have hcz84_0 : w79.cell? ⟨gb306, 0, none⟩ = some (.int .i64 a1_0) := (blk_cell BK306.out 0).trans rfl
          have hcz84_1 : w79.cell? ⟨gb306, 1, none⟩ = some (.int .i64 a1_1) := (blk_cell BK306.out 1).trans rfl
          have hfz84_0 := blk_frozen BK306.out 0
          have hfz84_1 := blk_frozen BK306.out 1
          go_wp2_with (first | ((with_reducible refine gate_callee (f := 48) rfl ?_); refine goesL_ (some 40) rfl rfl Tryz.func48 (by kernel_rfl) rfl #[.agg #[.int .i64 a1_0, .int .i64 a1_1]] rfl (by (try simp only [List.map_toArray, List.map_cons, List.map_nil]); first | done | rfl | (simp only [List.length_drop, List.length_take]; rfl)) ?_; (with_reducible refine (r8_num.calls a1_0 a1_1 true _ A80.out).mono ?_); rintro e w85 ⟨rfl, hb⟩; refine ⟨_, rfl, ?_⟩; have n0_ := Sd.mk (blk_below (g := gb305) (o := .cells #[.int .i64 a0_0, .int .i64 a0_1] 25 (0, 0)) (by exact blkF BK305.out) hb); have n1_ := Sd.mk (blk_below (g := gb306) (o := .cells #[.int .i64 a1_0, .int .i64 a1_1] 25 (0, 0)) (by exact blkF BK306.out) hb); have n2_ := Sd.mk (blk_below (g := gb307) (o := .cells #[.int .i64 0, .int .i64 0] 25 (0, 0)) (by exact blkF BK307.out) hb); have n3_ := Sd.mk (below_step (by repeat (first | (with_reducible first | exact HB.out | apply bal | apply pbd | apply bd1 | refine bst ?_ GE305.out | refine bst ?_ GE306.out | refine bst ?_ GE307.out) | exact HB.out)) hb); clear BK305; clear BK306; clear BK307; clear HB; have BK305 := n0_; have BK306 := n1_; have BK307 := n2_; have HB := n3_; clear n0_ n1_ n2_ n3_; (try clear hb); (try clear hb2); (try clear hk); (try clear hi); have hcz86_0 : w85.cell? ⟨gb306, 0, none⟩ = some (.int .i64 a1_0) := (blk_cell BK306.out 0).trans rfl; have hcz86_1 : w85.cell? ⟨gb306, 1, none⟩ = some (.int .i64 a1_1) := (blk_cell BK306.out 1).trans rfl; have hfz86_0 := blk_frozen BK306.out 0; have hfz86_1 := blk_frozen BK306.out 1))
          go_meet
          case rel => exact ⟨_, (decide (a1_1 < 0)), (by first | rfl | (simp; done) | (simp [*]; done)), H', ⟨by have := HJ2.out; have := HJ39.out; first | omega | exact Nat.le_refl _⟩, ⟨by (with_reducible repeat (first | refine blk_drewN ?_ _ | refine blk_drew ?_ | refine blk_alloc ?_ _)); exact BK305.out⟩, ⟨by (with_reducible repeat (first | refine blk_drewN ?_ _ | refine blk_drew ?_ | refine blk_alloc ?_ _)); exact BK306.out⟩, ⟨by (with_reducible repeat (first | refine blk_drewN ?_ _ | refine blk_drew ?_ | refine blk_alloc ?_ _)); exact BK307.out⟩, ⟨by repeat (first | (with_reducible first | exact HB.out | apply bal | apply pbd | apply bd1 | refine bst ?_ GE305.out | refine bst ?_ GE306.out | refine bst ?_ GE307.out) | exact HB.out)⟩⟩
         ·replace c81 := Bool.eq_false_iff.mpr c81
          subst c81
          have H1 : (r8_over.j2 kj39 false a0_0 a0_1 a1_0 a1_1) = some (r1, r2) := by rw [if_neg (show ¬ (false = true) by decide)] at H; exact H
          clear H
          have H := H1
          clear H1
          have H' := Sd.mk H
          clear H
          have hnb87 := NB306_305.out
          have hnc87 := NB305_306.out
          have hnb88 := NB306_307.out
          have hnc88 := NB307_306.out
          have hcz89_0 : w79.cell? ⟨gb306, 0, none⟩ = some (.int .i64 a1_0) := (blk_cell BK306.out 0).trans rfl
          have hcz89_1 : w79.cell? ⟨gb306, 1, none⟩ = some (.int .i64 a1_1) := (blk_cell BK306.out 1).trans rfl
          have hfz89_0 := blk_frozen BK306.out 0
          have hfz89_1 := blk_frozen BK306.out 1
          go_wp2_with (first | ((with_reducible refine gate_callee (f := 48) rfl ?_); refine goesL_ (some 40) rfl rfl Tryz.func48 (by kernel_rfl) rfl #[.agg #[.int .i64 a1_0, .int .i64 a1_1]] rfl (by (try simp only [List.map_toArray, List.map_cons, List.map_nil]); first | done | rfl | (simp only [List.length_drop, List.length_take]; rfl)) ?_; (with_reducible refine (r8_num.calls a1_0 a1_1 false _ A80.out).mono ?_); rintro e w90 ⟨rfl, hb⟩; refine ⟨_, rfl, ?_⟩; have n0_ := Sd.mk (blk_below (g := gb305) (o := .cells #[.int .i64 a0_0, .int .i64 a0_1] 25 (0, 0)) (by exact blkF BK305.out) hb); have n1_ := Sd.mk (blk_below (g := gb306) (o := .cells #[.int .i64 a1_0, .int .i64 a1_1] 25 (0, 0)) (by exact blkF BK306.out) hb); have n2_ := Sd.mk (blk_below (g := gb307) (o := .cells #[.int .i64 0, .int .i64 0] 25 (0, 0)) (by exact blkF BK307.out) hb); have n3_ := Sd.mk (below_step (by repeat (first | (with_reducible first | exact HB.out | apply bal | apply pbd | apply bd1 | refine bst ?_ GE305.out | refine bst ?_ GE306.out | refine bst ?_ GE307.out) | exact HB.out)) hb); clear BK305; clear BK306; clear BK307; clear HB; have BK305 := n0_; have BK306 := n1_; have BK307 := n2_; have HB := n3_; clear n0_ n1_ n2_ n3_; (try clear hb); (try clear hb2); (try clear hk); (try clear hi)))
          go_meet
          case rel => exact ⟨_, (false), (by first | rfl | (simp; done) | (simp [*]; done)), H', ⟨by have := HJ2.out; have := HJ39.out; first | omega | exact Nat.le_refl _⟩, ⟨by (with_reducible repeat (first | refine blk_drewN ?_ _ | refine blk_drew ?_ | refine blk_alloc ?_ _)); exact BK305.out⟩, ⟨by (with_reducible repeat (first | refine blk_drewN ?_ _ | refine blk_drew ?_ | refine blk_alloc ?_ _)); exact BK306.out⟩, ⟨by (with_reducible repeat (first | refine blk_drewN ?_ _ | refine blk_drew ?_ | refine blk_alloc ?_ _)); exact BK307.out⟩, ⟨by repeat (first | (with_reducible first | exact HB.out | apply bal | apply pbd | apply bd1 | refine bst ?_ GE305.out | refine bst ?_ GE306.out | refine bst ?_ GE307.out) | exact HB.out)⟩⟩
        case rest =>
         clear HC75
         try clear c1
         try clear c2
         try clear p2
         try clear c3
         try clear c4
         try clear c5
         try clear c6
         try clear p6
         try clear c7
         try clear c8
         try clear c10
         try clear c11
         try clear c12
         try clear c15
         try clear c19
         try clear c20
         try clear c23
         try clear c26
         try clear c27
         try clear c30
         try clear c33
         try clear c34
         try clear c38
         try clear c42
         try clear c44
         try clear c45
         try clear c48
         try clear c51
         try clear c52
         try clear c55
         try clear c56
         try clear c56b0
         try clear c56b1
         try clear c58
         try clear c59
         try clear c61
         try clear p64
         try clear c66
         try clear c68
         try clear c69
         try clear c73
         try clear c75
         try clear c76
         try clear c77
         try clear c80
         try clear c81
         try clear c82
         try clear c83
         try clear c87
         try clear c88
         try clear hcz13_0
         try clear hcz13_1
         try clear hcz16_0
         try clear hcz16_1
         try clear hcz18_0
         try clear hcz18_1
         try clear hcz21_0
         try clear hcz21_1
         try clear hcz24_0
         try clear hcz24_1
         try clear hcz28_0
         try clear hcz28_1
         try clear hcz35_0
         try clear hcz35_1
         try clear hcz39_0
         try clear hcz39_1
         try clear hcz46_0
         try clear hcz46_1
         try clear hcz49_0
         try clear hcz49_1
         try clear hcz53_0
         try clear hcz53_1
         try clear hcz60_0
         try clear hcz60_1
         try clear hcz62_0
         try clear hcz62_1
         try clear hcz64_0
         try clear hcz64_1
         try clear hcz70_0
         try clear hcz70_1
         try clear hcz74_0
         try clear hcz74_1
         try clear hcz78_0
         try clear hcz78_1
         try clear hcz84_0
         try clear hcz84_1
         try clear hcz86_0
         try clear hcz86_1
         try clear hcz89_0
         try clear hcz89_1
         try clear hfz13_0
         try clear hfz13_1
         try clear hfz16_0
         try clear hfz16_1
         try clear hfz18_0
         try clear hfz18_1
         try clear hfz21_0
         try clear hfz21_1
         try clear hfz24_0
         try clear hfz24_1
         try clear hfz28_0
         try clear hfz28_1
         try clear hfz35_0
         try clear hfz35_1
         try clear hfz39_0
         try clear hfz39_1
         try clear hfz46_0
         try clear hfz46_1
         try clear hfz49_0
         try clear hfz49_1
         try clear hfz53_0
         try clear hfz53_1
         try clear hfz60_0
         try clear hfz60_1
         try clear hfz62_0
         try clear hfz62_1
         try clear hfz64_0
         try clear hfz64_1
         try clear hfz70_0
         try clear hfz70_1
         try clear hfz74_0
         try clear hfz74_1
         try clear hfz78_0
         try clear hfz78_1
         try clear hfz84_0
         try clear hfz84_1
         try clear hfz86_0
         try clear hfz86_1
         try clear hfz89_0
         try clear hfz89_1
         try clear p2
         obtain ⟨kq, x38_74, rfl, HA, HJ74, BK305, BK306, BK307, HB⟩ := hcut
         cases kq with
         | zero => exact absurd HA.out (by simp [r8_over.j2])
         | succ kj74 =>
          have H := HA.out
          clear HA
          simp only [r8_over.j2] at H
          by_cases c91 : x38_74 = true
          ·subst c91
           have H1 : ((r8_turned.f a0_0 a0_1).bind fun bt321 => (some (bt321.1, bt321.2))) = some (r1, r2) := by rw [if_pos rfl] at H; exact H
           clear H
           have H := H1
           clear H1
           replace H := Option.bind_eq_some_iff.mp H
           obtain ⟨⟨t321, t322⟩, A920, H⟩ := H
           replace H : (some (t321, t322)) = some (r1, r2) := H
           have A92 := Sd.mk A920
           clear A920
           simp only [Option.some.injEq, Prod.mk.injEq] at H
           obtain ⟨rfl, rfl⟩ := H
           have hnb93 := NB305_306.out
           have hnc93 := NB306_305.out
           have hnb94 := NB305_307.out
           have hnc94 := NB307_305.out
           have hcz95_0 : wc.cell? ⟨gb305, 0, none⟩ = some (.int .i64 a0_0) := (blk_cell BK305.out 0).trans rfl
           have hcz95_1 : wc.cell? ⟨gb305, 1, none⟩ = some (.int .i64 a0_1) := (blk_cell BK305.out 1).trans rfl
           have hfz95_0 := blk_frozen BK305.out 0
           have hfz95_1 := blk_frozen BK305.out 1
           go_wp2_with (first | ((with_reducible refine gate_callee (f := 76) rfl ?_); refine goesL_ (some 47) rfl rfl Tryz.func76 (by kernel_rfl) rfl #[.agg #[.int .i64 a0_0, .int .i64 a0_1]] rfl (by (try simp only [List.map_toArray, List.map_cons, List.map_nil]); first | done | rfl | (simp only [List.length_drop, List.length_take]; rfl)) ?_; (with_reducible refine (r8_turned.calls a0_0 a0_1 t321 t322 _ A92.out).mono ?_); rintro e w96 ⟨rfl, hb⟩; refine ⟨_, rfl, ?_⟩; have n0_ := Sd.mk (blk_below (g := gb305) (o := .cells #[.int .i64 a0_0, .int .i64 a0_1] 25 (0, 0)) (by exact blkF BK305.out) hb); have n1_ := Sd.mk (blk_below (g := gb306) (o := .cells #[.int .i64 a1_0, .int .i64 a1_1] 25 (0, 0)) (by exact blkF BK306.out) hb); have n2_ := Sd.mk (blk_below (g := gb307) (o := .cells #[.int .i64 0, .int .i64 0] 25 (0, 0)) (by exact blkF BK307.out) hb); have n3_ := Sd.mk (below_step (by repeat (first | (with_reducible first | exact HB.out | apply bal | apply pbd | apply bd1 | refine bst ?_ GE305.out | refine bst ?_ GE306.out | refine bst ?_ GE307.out) | exact HB.out)) hb); clear BK305; clear BK306; clear BK307; clear HB; have BK305 := n0_; have BK306 := n1_; have BK307 := n2_; have HB := n3_; clear n0_ n1_ n2_ n3_; (try clear hb); (try clear hb2); (try clear hk); (try clear hi); have hnb97 := NB307_306.out; have hnc97 := NB306_307.out; have hcz98_0 : w96.cell? ⟨gb307, 0, none⟩ = some (.int .i64 0) := (blk_cell BK307.out 0).trans rfl; have hcz98_1 : w96.cell? ⟨gb307, 1, none⟩ = some (.int .i64 0) := (blk_cell BK307.out 1).trans rfl; have hfz98_0 := blk_frozen BK307.out 0; have hfz98_1 := blk_frozen BK307.out 1))
           refine bodyPost_ret (results_cell_row rfl _ _ gb307 25 #[.int .i64 t321, .int .i64 t322] (0, 0) _ rfl (by (with_reducible repeat (first | refine blk_drewN ?_ _ | refine blk_drew ?_ | refine blk_alloc ?_ _)); refine blk_put (cs := #[.int .i64 t321, .int .i64 0]) ?_ 1 _ rfl; (with_reducible repeat (first | refine blk_drewN ?_ _ | refine blk_drew ?_ | refine blk_alloc ?_ _)); refine blk_put (cs := #[.int .i64 0, .int .i64 0]) ?_ 0 _ rfl; (with_reducible repeat (first | refine blk_drewN ?_ _ | refine blk_drew ?_ | refine blk_alloc ?_ _)); exact BK307.out) Tryz.underlying25 rfl (by kernel_rfl)) rfl ?_
           exact ⟨by first | rfl | (simp [errW_none, errW_some] <;> rfl) | (simp [*, errW_none, errW_some] <;> rfl), by repeat (first | (with_reducible first | exact HB.out | apply bal | apply pbd | apply bd1 | refine bst ?_ GE305.out | refine bst ?_ GE306.out | refine bst ?_ GE307.out) | exact HB.out)⟩
          ·replace c91 := Bool.eq_false_iff.mpr c91
           subst c91
           have H1 : ((r8_num.f a1_0 a1_1).bind fun t323 => (if t323 = true then (some (a0_0, a0_1)) else ((r8_NaN.f).bind fun bt324 => (some (bt324.1, bt324.2))))) = some (r1, r2) := by rw [if_neg (show ¬ (false = true) by decide)] at H; exact H
           clear H
           have H := H1
           clear H1
           replace H := Option.bind_eq_some_iff.mp H
           obtain ⟨t323, A990, H⟩ := H
           replace H : (if t323 = true then (some (a0_0, a0_1)) else ((r8_NaN.f).bind fun bt324 => (some (bt324.1, bt324.2)))) = some (r1, r2) := H
           have A99 := Sd.mk A990
           clear A990
           by_cases c100 : t323 = true
           ·subst c100
            have H1 : (some (a0_0, a0_1)) = some (r1, r2) := by rw [if_pos rfl] at H; exact H
            clear H
            have H := H1
            clear H1
            simp only [Option.some.injEq, Prod.mk.injEq] at H
            obtain ⟨rfl, rfl⟩ := H
            have hnb101 := NB306_305.out
            have hnc101 := NB305_306.out
            have hnb102 := NB306_307.out
            have hnc102 := NB307_306.out
            have hcz103_0 : wc.cell? ⟨gb306, 0, none⟩ = some (.int .i64 a1_0) := (blk_cell BK306.out 0).trans rfl
            have hcz103_1 : wc.cell? ⟨gb306, 1, none⟩ = some (.int .i64 a1_1) := (blk_cell BK306.out 1).trans rfl
            have hfz103_0 := blk_frozen BK306.out 0
            have hfz103_1 := blk_frozen BK306.out 1
            go_wp2_with (first | ((with_reducible refine gate_callee (f := 48) rfl ?_); refine goesL_ (some 50) rfl rfl Tryz.func48 (by kernel_rfl) rfl #[.agg #[.int .i64 a1_0, .int .i64 a1_1]] rfl (by (try simp only [List.map_toArray, List.map_cons, List.map_nil]); first | done | rfl | (simp only [List.length_drop, List.length_take]; rfl)) ?_; (with_reducible refine (r8_num.calls a1_0 a1_1 true _ A99.out).mono ?_); rintro e w104 ⟨rfl, hb⟩; refine ⟨_, rfl, ?_⟩; have n0_ := Sd.mk (blk_below (g := gb305) (o := .cells #[.int .i64 a0_0, .int .i64 a0_1] 25 (0, 0)) (by exact blkF BK305.out) hb); have n1_ := Sd.mk (blk_below (g := gb306) (o := .cells #[.int .i64 a1_0, .int .i64 a1_1] 25 (0, 0)) (by exact blkF BK306.out) hb); have n2_ := Sd.mk (blk_below (g := gb307) (o := .cells #[.int .i64 0, .int .i64 0] 25 (0, 0)) (by exact blkF BK307.out) hb); have n3_ := Sd.mk (below_step (by repeat (first | (with_reducible first | exact HB.out | apply bal | apply pbd | apply bd1 | refine bst ?_ GE305.out | refine bst ?_ GE306.out | refine bst ?_ GE307.out) | exact HB.out)) hb); clear BK305; clear BK306; clear BK307; clear HB; have BK305 := n0_; have BK306 := n1_; have BK307 := n2_; have HB := n3_; clear n0_ n1_ n2_ n3_; (try clear hb); (try clear hb2); (try clear hk); (try clear hi); have hnb105 := NB305_307.out; have hnc105 := NB307_305.out; have hcz106_0 : w104.cell? ⟨gb305, 0, none⟩ = some (.int .i64 a0_0) := (blk_cell BK305.out 0).trans rfl; have hcz106_1 : w104.cell? ⟨gb305, 1, none⟩ = some (.int .i64 a0_1) := (blk_cell BK305.out 1).trans rfl; have hfz106_0 := blk_frozen BK305.out 0; have hfz106_1 := blk_frozen BK305.out 1; have hcz107_0 : w104.cell? ⟨gb307, 0, none⟩ = some (.int .i64 0) := (blk_cell BK307.out 0).trans rfl; have hcz107_1 : w104.cell? ⟨gb307, 1, none⟩ = some (.int .i64 0) := (blk_cell BK307.out 1).trans rfl; have hfz107_0 := blk_frozen BK307.out 0; have hfz107_1 := blk_frozen BK307.out 1))
            refine bodyPost_ret (results_cell_row rfl _ _ gb307 25 #[.int .i64 a0_0, .int .i64 a0_1] (0, 0) _ rfl (by (with_reducible repeat (first | refine blk_drewN ?_ _ | refine blk_drew ?_ | refine blk_alloc ?_ _)); refine blk_put (cs := #[.int .i64 a0_0, .int .i64 0]) ?_ 1 _ rfl; (with_reducible repeat (first | refine blk_drewN ?_ _ | refine blk_drew ?_ | refine blk_alloc ?_ _)); refine blk_put (cs := #[.int .i64 0, .int .i64 0]) ?_ 0 _ rfl; (with_reducible repeat (first | refine blk_drewN ?_ _ | refine blk_drew ?_ | refine blk_alloc ?_ _)); exact BK307.out) Tryz.underlying25 rfl (by kernel_rfl)) rfl ?_
            exact ⟨by first | rfl | (simp [errW_none, errW_some] <;> rfl) | (simp [*, errW_none, errW_some] <;> rfl), by repeat (first | (with_reducible first | exact HB.out | apply bal | apply pbd | apply bd1 | refine bst ?_ GE305.out | refine bst ?_ GE306.out | refine bst ?_ GE307.out) | exact HB.out)⟩
           ·replace c100 := Bool.eq_false_iff.mpr c100
            subst c100
            have H1 : ((r8_NaN.f).bind fun bt324 => (some (bt324.1, bt324.2))) = some (r1, r2) := by rw [if_neg (show ¬ (false = true) by decide)] at H; exact H
            clear H
            have H := H1
            clear H1
            replace H := Option.bind_eq_some_iff.mp H
            obtain ⟨⟨t324, t325⟩, A1080, H⟩ := H
            replace H : (some (t324, t325)) = some (r1, r2) := H
            have A108 := Sd.mk A1080
            clear A1080
            simp only [Option.some.injEq, Prod.mk.injEq] at H
            obtain ⟨rfl, rfl⟩ := H
            have hnb109 := NB306_305.out
            have hnc109 := NB305_306.out
            have hnb110 := NB306_307.out
            have hnc110 := NB307_306.out
            have hcz111_0 : wc.cell? ⟨gb306, 0, none⟩ = some (.int .i64 a1_0) := (blk_cell BK306.out 0).trans rfl
            have hcz111_1 : wc.cell? ⟨gb306, 1, none⟩ = some (.int .i64 a1_1) := (blk_cell BK306.out 1).trans rfl
            have hfz111_0 := blk_frozen BK306.out 0
            have hfz111_1 := blk_frozen BK306.out 1
            go_wp2_with (first | ((with_reducible refine gate_callee (f := 48) rfl ?_); refine goesL_ (some 50) rfl rfl Tryz.func48 (by kernel_rfl) rfl #[.agg #[.int .i64 a1_0, .int .i64 a1_1]] rfl (by (try simp only [List.map_toArray, List.map_cons, List.map_nil]); first | done | rfl | (simp only [List.length_drop, List.length_take]; rfl)) ?_; (with_reducible refine (r8_num.calls a1_0 a1_1 false _ A99.out).mono ?_); rintro e w112 ⟨rfl, hb⟩; refine ⟨_, rfl, ?_⟩; have n0_ := Sd.mk (blk_below (g := gb305) (o := .cells #[.int .i64 a0_0, .int .i64 a0_1] 25 (0, 0)) (by exact blkF BK305.out) hb); have n1_ := Sd.mk (blk_below (g := gb306) (o := .cells #[.int .i64 a1_0, .int .i64 a1_1] 25 (0, 0)) (by exact blkF BK306.out) hb); have n2_ := Sd.mk (blk_below (g := gb307) (o := .cells #[.int .i64 0, .int .i64 0] 25 (0, 0)) (by exact blkF BK307.out) hb); have n3_ := Sd.mk (below_step (by repeat (first | (with_reducible first | exact HB.out | apply bal | apply pbd | apply bd1 | refine bst ?_ GE305.out | refine bst ?_ GE306.out | refine bst ?_ GE307.out) | exact HB.out)) hb); clear BK305; clear BK306; clear BK307; clear HB; have BK305 := n0_; have BK306 := n1_; have BK307 := n2_; have HB := n3_; clear n0_ n1_ n2_ n3_; (try clear hb); (try clear hb2); (try clear hk); (try clear hi)) | ((with_reducible refine gate_callee (f := 26) rfl ?_); refine goesL_ (some 52) rfl rfl Tryz.func26 (by kernel_rfl) rfl #[] rfl (by (try simp only [List.map_toArray, List.map_cons, List.map_nil]); first | done | rfl | (simp only [List.length_drop, List.length_take]; rfl)) ?_; (with_reducible refine (r8_NaN.calls  t324 t325 _ A108.out).mono ?_); rintro e w113 ⟨rfl, hb⟩; refine ⟨_, rfl, ?_⟩; have n0_ := Sd.mk (blk_below (g := gb305) (o := .cells #[.int .i64 a0_0, .int .i64 a0_1] 25 (0, 0)) (by exact blkF BK305.out) hb); have n1_ := Sd.mk (blk_below (g := gb306) (o := .cells #[.int .i64 a1_0, .int .i64 a1_1] 25 (0, 0)) (by exact blkF BK306.out) hb); have n2_ := Sd.mk (blk_below (g := gb307) (o := .cells #[.int .i64 0, .int .i64 0] 25 (0, 0)) (by exact blkF BK307.out) hb); have n3_ := Sd.mk (below_step (by repeat (first | (with_reducible first | exact HB.out | apply bal | apply pbd | apply bd1 | refine bst ?_ GE305.out | refine bst ?_ GE306.out | refine bst ?_ GE307.out) | exact HB.out)) hb); clear BK305; clear BK306; clear BK307; clear HB; have BK305 := n0_; have BK306 := n1_; have BK307 := n2_; have HB := n3_; clear n0_ n1_ n2_ n3_; (try clear hb); (try clear hb2); (try clear hk); (try clear hi); have hnb114 := NB307_305.out; have hnc114 := NB305_307.out; have hcz115_0 : w113.cell? ⟨gb307, 0, none⟩ = some (.int .i64 0) := (blk_cell BK307.out 0).trans rfl; have hcz115_1 : w113.cell? ⟨gb307, 1, none⟩ = some (.int .i64 0) := (blk_cell BK307.out 1).trans rfl; have hfz115_0 := blk_frozen BK307.out 0; have hfz115_1 := blk_frozen BK307.out 1))
            refine bodyPost_ret (results_cell_row rfl _ _ gb307 25 #[.int .i64 t324, .int .i64 t325] (0, 0) _ rfl (by (with_reducible repeat (first | refine blk_drewN ?_ _ | refine blk_drew ?_ | refine blk_alloc ?_ _)); refine blk_put (cs := #[.int .i64 t324, .int .i64 0]) ?_ 1 _ rfl; (with_reducible repeat (first | refine blk_drewN ?_ _ | refine blk_drew ?_ | refine blk_alloc ?_ _)); refine blk_put (cs := #[.int .i64 0, .int .i64 0]) ?_ 0 _ rfl; (with_reducible repeat (first | refine blk_drewN ?_ _ | refine blk_drew ?_ | refine blk_alloc ?_ _)); exact BK307.out) Tryz.underlying25 rfl (by kernel_rfl)) rfl ?_
            exact ⟨by first | rfl | (simp [errW_none, errW_some] <;> rfl) | (simp [*, errW_none, errW_some] <;> rfl), by repeat (first | (with_reducible first | exact HB.out | apply bal | apply pbd | apply bd1 | refine bst ?_ GE305.out | refine bst ?_ GE306.out | refine bst ?_ GE307.out) | exact HB.out)⟩
end Go.Proofs.YtcmiehddjgfjaaaGreatDoor.A
namespace Go.Proofs.YtcmiehddjgfjaaaGreatDoor.A
open Go.RowKit Go.Proofs.YtcmiehddjgfjaaaGreatDoorW.PrintWords Go.Proofs.YtcmiehddjgfjaaaGreatDoorW.PrintLast Go.Proofs.YtcmiehddjgfjaaaGreatDoorW.PrintMore
attribute [local go_sem] max2_int min2_int max_two min_two max_three min_three max_four min_four   -- for this text's walks alone
set_option linter.unusedVariables false
set_option linter.unusedSimpArgs false
attribute [local go_sem high] eqA25
mutual
def r8_two.l0 : Nat → ByteArray → Bool → List ByteArray → Int → Int → Int → Int → Int → Option (Int × Int × Bool)
 | 0, _, _, _, _, _, _, _, _ => none
 | k + 1, x0, x8, x9, x10, x327000, x327001, x328000, x328001 => if x10 < (x9.length : Int) then (if x8 = true then (r8_two.l0 k x0 true x9 (wrap64 (x10 + 1)) x327000 x327001 x328000 x328001) else (if 0 ≤ x10 then (r8_two.l0 k x0 ((rdOf ByteArray.empty x9 x10).toList == x0.toList) x9 (wrap64 (x10 + 1)) x327000 x327001 x328000 x328001) else (none))) else (if x8 = true then (if x327000 = 2 then (r8_two.j1 k x0 true x327000 x327001 x328000 x328001) else (r8_two.j1 k x0 (x328000 == 2) x327000 x327001 x328000 x328001)) else (some (0, 0, false)))
def r8_two.j1 : Nat → ByteArray → Bool → Int → Int → Int → Int → Option (Int × Int × Bool)
 | 0, _, _, _, _, _, _ => none
 | k + 1, x0, x38, x327000, x327001, x328000, x328001 => if x38 = true then ((r8_Null.f).bind fun bt333 => (some (bt333.1, bt333.2, true))) else (if x327000 = 3 then (r8_two.j2 k x0 true x327000 x327001 x328000 x328001) else (r8_two.j2 k x0 (x328000 == 3) x327000 x327001 x328000 x328001))
def r8_two.j2 : Nat → ByteArray → Bool → Int → Int → Int → Int → Option (Int × Int × Bool)
 | 0, _, _, _, _, _, _ => none
 | k + 1, x0, x11, x327000, x327001, x328000, x328001 => if x0.toList = ([38, 38] : List UInt8) then ((r8_True.f x327000 x327001).bind fun t335 => (if t335 = true then ((r8_True.f x328000 x328001).bind fun t336 => ((r8_Truth.f t336).bind fun bt337 => (some (bt337.1, bt337.2, true)))) else ((r8_Truth.f false).bind fun bt339 => (some (bt339.1, bt339.2, true))))) else (if x0.toList = ([124, 124] : List UInt8) then ((r8_True.f x327000 x327001).bind fun t341 => (if t341 = true then ((r8_Truth.f true).bind fun bt342 => (some (bt342.1, bt342.2, true))) else ((r8_True.f x328000 x328001).bind fun t344 => ((r8_Truth.f t344).bind fun bt345 => (some (bt345.1, bt345.2, true)))))) else (if x0.toList = ([61, 61] : List UInt8) then (if x11 = true then ((r8_Truth.f false).bind fun bt347 => (some (bt347.1, bt347.2, true))) else ((r8_Truth.f (x327000 == x328000 && (x327001 == x328001))).bind fun bt349 => (some (bt349.1, bt349.2, true)))) else (if x0.toList = ([33, 61] : List UInt8) then (if x11 = true then ((r8_Truth.f true).bind fun bt351 => (some (bt351.1, bt351.2, true))) else ((r8_Truth.f (!(x327000 == x328000) || (!(x327001 == x328001)))).bind fun bt353 => (some (bt353.1, bt353.2, true)))) else (if x0.toList = ([60] : List UInt8) then (if x11 = true then ((r8_Truth.f false).bind fun bt355 => (some (bt355.1, bt355.2, true))) else ((r8_Less.f k x327000 x327001 x328000 x328001).bind fun t357 => ((r8_Truth.f t357).bind fun bt358 => (some (bt358.1, bt358.2, true))))) else (if x0.toList = ([60, 61] : List UInt8) then (if x11 = true then ((r8_Truth.f false).bind fun bt360 => (some (bt360.1, bt360.2, true))) else ((r8_Less.f k x328000 x328001 x327000 x327001).bind fun t362 => ((r8_Truth.f (!t362)).bind fun bt363 => (some (bt363.1, bt363.2, true))))) else (if x0.toList = ([62] : List UInt8) then (if x11 = true then ((r8_Truth.f false).bind fun bt365 => (some (bt365.1, bt365.2, true))) else ((r8_Less.f k x328000 x328001 x327000 x327001).bind fun t367 => ((r8_Truth.f t367).bind fun bt368 => (some (bt368.1, bt368.2, true))))) else (if x0.toList = ([62, 61] : List UInt8) then (if x11 = true then ((r8_Truth.f false).bind fun bt370 => (some (bt370.1, bt370.2, true))) else ((r8_Less.f k x327000 x327001 x328000 x328001).bind fun t372 => ((r8_Truth.f (!t372)).bind fun bt373 => (some (bt373.1, bt373.2, true))))) else (if x11 = true then ((r8_NaN.f).bind fun bt375 => (some (bt375.1, bt375.2, true))) else (if x0.toList = ([43] : List UInt8) then ((r8_add.f k x327000 x327001 x328000 x328001).bind fun bt377 => (some (bt377.1, bt377.2, true))) else (if x0.toList = ([45] : List UInt8) then ((r8_turned.f x328000 x328001).bind fun bt379 => ((r8_add.f k x327000 x327001 bt379.1 bt379.2).bind fun bt381 => (some (bt381.1, bt381.2, true)))) else (if x0.toList = ([42] : List UInt8) then ((r8_times.f k x327000 x327001 x328000 x328001).bind fun bt383 => (some (bt383.1, bt383.2, true))) else ((r8_over.f k x327000 x327001 x328000 x328001).bind fun bt385 => (some (bt385.1, bt385.2, true))))))))))))))
end
def r8_two.f (k : Nat) (a0 : ByteArray) (a1_0 : Int) (a1_1 : Int) (a2_0 : Int) (a2_1 : Int) : Option (Int × Int × Bool) := r8_two.l0 k a0 false (([(⟨#[43]⟩ : ByteArray), (⟨#[45]⟩ : ByteArray), (⟨#[42]⟩ : ByteArray), (⟨#[47]⟩ : ByteArray), (⟨#[61, 61]⟩ : ByteArray), (⟨#[33, 61]⟩ : ByteArray), (⟨#[60]⟩ : ByteArray), (⟨#[60, 61]⟩ : ByteArray), (⟨#[62]⟩ : ByteArray), (⟨#[62, 61]⟩ : ByteArray), (⟨#[38, 38]⟩ : ByteArray), (⟨#[124, 124]⟩ : ByteArray)] : List ByteArray)) 0 a1_0 a1_1 a2_0 a2_1
theorem r8_two.mono_l : ∀ k, (∀ y0 y1 y2 y3 y4 y5 y6 y7, LeO (r8_two.l0 k y0 y1 y2 y3 y4 y5 y6 y7) (r8_two.l0 (k + 1) y0 y1 y2 y3 y4 y5 y6 y7)) ∧ (∀ y0 y1 y2 y3 y4 y5, LeO (r8_two.j1 k y0 y1 y2 y3 y4 y5) (r8_two.j1 (k + 1) y0 y1 y2 y3 y4 y5)) ∧ (∀ y0 y1 y2 y3 y4 y5, LeO (r8_two.j2 k y0 y1 y2 y3 y4 y5) (r8_two.j2 (k + 1) y0 y1 y2 y3 y4 y5))
 | 0 => ⟨fun _ _ _ _ _ _ _ _ r h => by simp [r8_two.l0] at h, fun _ _ _ _ _ _ r h => by simp [r8_two.j1] at h, fun _ _ _ _ _ _ r h => by simp [r8_two.j2] at h⟩
 | k + 1 => by
  obtain ⟨ih0, ih1, ih2⟩ := r8_two.mono_l k
  refine ⟨?_, ?_, ?_⟩
  ·intro y0 y1 y2 y3 y4 y5 y6 y7
   unfold r8_two.l0
   repeat' first
   | (with_reducible exact ih0 _ _ _ _ _ _ _ _)
   | (with_reducible exact ih1 _ _ _ _ _ _)
   | (with_reducible exact ih2 _ _ _ _ _ _)
   | (with_reducible exact r8_Less.mono _ _ _ _ _)
   | (with_reducible exact r8_add.mono _ _ _ _ _)
   | (with_reducible exact r8_over.mono _ _ _ _ _)
   | (with_reducible exact r8_times.mono _ _ _ _ _)
   | (with_reducible exact LeO.refl _)
   | (with_reducible exact LeO.none _)
   | (with_reducible refine LeO.ite ?_ ?_)
   | (with_reducible refine LeO.bind ?_ (fun _ => ?_))
   | exact ih0 _ _ _ _ _ _ _ _
   | exact ih1 _ _ _ _ _ _
   | exact ih2 _ _ _ _ _ _
   | exact r8_Less.mono _ _ _ _ _
   | exact r8_add.mono _ _ _ _ _
   | exact r8_over.mono _ _ _ _ _
   | exact r8_times.mono _ _ _ _ _
   | exact LeO.none _
   | refine LeO.ite ?_ ?_
   | refine LeO.bind ?_ (fun _ => ?_)
  ·intro y0 y1 y2 y3 y4 y5
   unfold r8_two.j1
   repeat' first
   | (with_reducible exact ih0 _ _ _ _ _ _ _ _)
   | (with_reducible exact ih1 _ _ _ _ _ _)
   | (with_reducible exact ih2 _ _ _ _ _ _)
   | (with_reducible exact r8_Less.mono _ _ _ _ _)
   | (with_reducible exact r8_add.mono _ _ _ _ _)
   | (with_reducible exact r8_over.mono _ _ _ _ _)
   | (with_reducible exact r8_times.mono _ _ _ _ _)
   | (with_reducible exact LeO.refl _)
   | (with_reducible exact LeO.none _)
   | (with_reducible refine LeO.ite ?_ ?_)
   | (with_reducible refine LeO.bind ?_ (fun _ => ?_))
   | exact ih0 _ _ _ _ _ _ _ _
   | exact ih1 _ _ _ _ _ _
   | exact ih2 _ _ _ _ _ _
   | exact r8_Less.mono _ _ _ _ _
   | exact r8_add.mono _ _ _ _ _
   | exact r8_over.mono _ _ _ _ _
   | exact r8_times.mono _ _ _ _ _
   | exact LeO.none _
   | refine LeO.ite ?_ ?_
   | refine LeO.bind ?_ (fun _ => ?_)
  ·intro y0 y1 y2 y3 y4 y5
   unfold r8_two.j2
   repeat' first
   | (with_reducible exact ih0 _ _ _ _ _ _ _ _)
   | (with_reducible exact ih1 _ _ _ _ _ _)
   | (with_reducible exact ih2 _ _ _ _ _ _)
   | (with_reducible exact r8_Less.mono _ _ _ _ _)
   | (with_reducible exact r8_add.mono _ _ _ _ _)
   | (with_reducible exact r8_over.mono _ _ _ _ _)
   | (with_reducible exact r8_times.mono _ _ _ _ _)
   | (with_reducible exact LeO.refl _)
   | (with_reducible exact LeO.none _)
   | (with_reducible refine LeO.ite ?_ ?_)
   | (with_reducible refine LeO.bind ?_ (fun _ => ?_))
   | exact ih0 _ _ _ _ _ _ _ _
   | exact ih1 _ _ _ _ _ _
   | exact ih2 _ _ _ _ _ _
   | exact r8_Less.mono _ _ _ _ _
   | exact r8_add.mono _ _ _ _ _
   | exact r8_over.mono _ _ _ _ _
   | exact r8_times.mono _ _ _ _ _
   | exact LeO.none _
   | refine LeO.ite ?_ ?_
   | refine LeO.bind ?_ (fun _ => ?_)
theorem r8_two.mono : ∀ a0 a1 a2 a3 a4 k, LeO (r8_two.f k a0 a1 a2 a3 a4) (r8_two.f (k + 1) a0 a1 a2 a3 a4) := by
 intro a0 a1 a2 a3 a4 k
 obtain ⟨ih0, ih1, ih2⟩ := r8_two.mono_l k
 unfold r8_two.f
 repeat' first
   | (with_reducible exact ih0 _ _ _ _ _ _ _ _)
   | (with_reducible exact ih1 _ _ _ _ _ _)
   | (with_reducible exact ih2 _ _ _ _ _ _)
   | (with_reducible exact r8_Less.mono _ _ _ _ _)
   | (with_reducible exact r8_add.mono _ _ _ _ _)
   | (with_reducible exact r8_over.mono _ _ _ _ _)
   | (with_reducible exact r8_times.mono _ _ _ _ _)
   | (with_reducible exact LeO.refl _)
   | (with_reducible exact LeO.none _)
   | (with_reducible refine LeO.ite ?_ ?_)
   | (with_reducible refine LeO.bind ?_ (fun _ => ?_))
   | exact ih0 _ _ _ _ _ _ _ _
   | exact ih1 _ _ _ _ _ _
   | exact ih2 _ _ _ _ _ _
   | exact r8_Less.mono _ _ _ _ _
   | exact r8_add.mono _ _ _ _ _
   | exact r8_over.mono _ _ _ _ _
   | exact r8_times.mono _ _ _ _ _
   | exact LeO.none _
   | refine LeO.ite ?_ ?_
   | refine LeO.bind ?_ (fun _ => ?_)
set_option maxHeartbeats 8000000 in
set_option maxRecDepth 100000 in
theorem r8_two.calls (k : Nat) (a0 : ByteArray) (a1_0 : Int) (a1_1 : Int) (a2_0 : Int) (a2_1 : Int) (r1 : Int) (r2 : Int) (r3 : Bool) (w : World) (h : r8_two.f k a0 a1_0 a1_1 a2_0 a2_1 = some (r1, r2, r3)) :
  Calls Tryz.prog 40 #[.string a0, .agg #[.int .i64 a1_0, .int .i64 a1_1], .agg #[.int .i64 a2_0, .int .i64 a2_1]] w fun e w' => e = .returned (.tuple #[.agg #[.int .i64 r1, .int .i64 r2], .bool r3]) ∧ Below w.heap.size w w' := by
 have hu25 := Tryz.underlying25
 have HB := Sd.mk (Below.refl w.heap.size w)
 have H : (r8_two.l0 k a0 false (([(⟨#[43]⟩ : ByteArray), (⟨#[45]⟩ : ByteArray), (⟨#[42]⟩ : ByteArray), (⟨#[47]⟩ : ByteArray), (⟨#[61, 61]⟩ : ByteArray), (⟨#[33, 61]⟩ : ByteArray), (⟨#[60]⟩ : ByteArray), (⟨#[60, 61]⟩ : ByteArray), (⟨#[62]⟩ : ByteArray), (⟨#[62, 61]⟩ : ByteArray), (⟨#[38, 38]⟩ : ByteArray), (⟨#[124, 124]⟩ : ByteArray)] : List ByteArray)) 0 a1_0 a1_1 a2_0 a2_1) = some (r1, r2, r3) := h
 clear h
 obtain ⟨y329, hy329⟩ : ∃ y_ : List ByteArray, y_ = (([(⟨#[43]⟩ : ByteArray), (⟨#[45]⟩ : ByteArray), (⟨#[42]⟩ : ByteArray), (⟨#[47]⟩ : ByteArray), (⟨#[61, 61]⟩ : ByteArray), (⟨#[33, 61]⟩ : ByteArray), (⟨#[60]⟩ : ByteArray), (⟨#[60, 61]⟩ : ByteArray), (⟨#[62]⟩ : ByteArray), (⟨#[62, 61]⟩ : ByteArray), (⟨#[38, 38]⟩ : ByteArray), (⟨#[124, 124]⟩ : ByteArray)] : List ByteArray)) := ⟨_, rfl⟩
 replace H : (r8_two.l0 k a0 false y329 0 a1_0 a1_1 a2_0 a2_1) = some (r1, r2, r3) := by first | (rw [hy329]; with_reducible exact H) | (have H2_ := (Option.bind_some _ _).symm.trans H; rw [hy329]; with_reducible exact H2_) | (have H2_ := (Option.bind_some _ _).symm.trans H; with_reducible exact H2_) | with_reducible exact H | (rw [hy329]; exact H) | exact H
 have Ny329 := Sd.mk hy329
 clear hy329
 have H' := Sd.mk H
 clear H
 go_enter Tryz.func40, Tryz.ntmps40
 go_wp2_with (first | ((with_reducible refine gate_dst (N := 4) rfl ?_); refine box_event ?hg (N := 4) ?hd (cs := #[.int .i64 a1_0, .int .i64 a1_1]) (t := 25) ?hr ?_; (case hd => rfl); (case hg => rfl); (case hr => first | (go_simp; done) | (go_simp; rfl)); intro gb326 hg w4 hbox hb; have n0_ := Sd.mk (below_step (by exact blwF HB.out) hb); have n1_ := Sd.mk (hbox); have n2_ := Sd.mk ((by rw [hg]; exact (below_size (by exact blwF HB.out)) : w.heap.size ≤ gb326)); have n3_ := Sd.mk ((by rw [hg]; exact (below_size (by exact blwF HB.out)) : w.heap.size ≤ gb326)); clear HB; have HB := n0_; have BK326 := n1_; have GW326 := n2_; have GE326 := n3_; clear n0_ n1_ n2_ n3_; clear hb hbox hg) | ((with_reducible refine gate_dst (N := 5) rfl ?_); refine box_event ?hg (N := 5) ?hd (cs := #[.int .i64 a2_0, .int .i64 a2_1]) (t := 25) ?hr ?_; (case hd => rfl); (case hg => rfl); (case hr => first | (go_simp; done) | (go_simp; rfl)); intro gb327 hg w5 hbox hb; have n0_ := Sd.mk (blk_below (g := gb326) (o := .cells #[.int .i64 a1_0, .int .i64 a1_1] 25 (0, 0)) (by exact blkF BK326.out) hb); have n1_ := Sd.mk (below_step (by repeat (first | (with_reducible first | exact HB.out | apply bal | apply pbd | apply bd1 | refine bst ?_ GE326.out) | exact HB.out)) hb); have n2_ := Sd.mk (hbox); have n3_ := Sd.mk ((by rw [hg]; exact (below_size (by repeat (first | (with_reducible first | exact HB.out | apply bal | apply pbd | apply bd1 | refine bst ?_ GE326.out) | exact HB.out))) : w.heap.size ≤ gb327)); have n4_ := Sd.mk ((by rw [hg]; exact (below_size (by repeat (first | (with_reducible first | exact HB.out | apply bal | apply pbd | apply bd1 | refine bst ?_ GE326.out) | exact HB.out))) : w.heap.size ≤ gb327)); have n5_ := Sd.mk ((by rw [hg]; exact Nat.ne_of_lt (blk_lt (g := gb326) (o := .cells #[.int .i64 a1_0, .int .i64 a1_1] 25 (0, 0)) (by exact blkF BK326.out)) : gb326 ≠ gb327)); have n6_ := Sd.mk ((by rw [hg]; exact Nat.ne_of_gt (blk_lt (g := gb326) (o := .cells #[.int .i64 a1_0, .int .i64 a1_1] 25 (0, 0)) (by exact blkF BK326.out)) : gb327 ≠ gb326)); clear BK326; clear HB; have BK326 := n0_; have HB := n1_; have BK327 := n2_; have GW327 := n3_; have GE327 := n4_; have NB326_327 := n5_; have NB327_326 := n6_; clear n0_ n1_ n2_ n3_ n4_ n5_ n6_; clear hb hbox hg) | ((with_reducible refine gate_dst (N := 6) rfl ?_); refine box_event ?hg (N := 6) ?hd (cs := #[.int .i64 0, .int .i64 0]) (t := 25) ?hr ?_; (case hd => rfl); (case hg => rfl); (case hr => first | (go_simp; done) | (go_simp; rfl)); intro gb328 hg w6 hbox hb; have n0_ := Sd.mk (blk_below (g := gb326) (o := .cells #[.int .i64 a1_0, .int .i64 a1_1] 25 (0, 0)) (by exact blkF BK326.out) hb); have n1_ := Sd.mk (blk_below (g := gb327) (o := .cells #[.int .i64 a2_0, .int .i64 a2_1] 25 (0, 0)) (by exact blkF BK327.out) hb); have n2_ := Sd.mk (below_step (by repeat (first | (with_reducible first | exact HB.out | apply bal | apply pbd | apply bd1 | refine bst ?_ GE326.out | refine bst ?_ GE327.out) | exact HB.out)) hb); have n3_ := Sd.mk (hbox); have n4_ := Sd.mk ((by rw [hg]; exact (below_size (by repeat (first | (with_reducible first | exact HB.out | apply bal | apply pbd | apply bd1 | refine bst ?_ GE326.out | refine bst ?_ GE327.out) | exact HB.out))) : w.heap.size ≤ gb328)); have n5_ := Sd.mk ((by rw [hg]; exact (below_size (by repeat (first | (with_reducible first | exact HB.out | apply bal | apply pbd | apply bd1 | refine bst ?_ GE326.out | refine bst ?_ GE327.out) | exact HB.out))) : w.heap.size ≤ gb328)); have n6_ := Sd.mk ((by rw [hg]; exact Nat.ne_of_lt (blk_lt (g := gb326) (o := .cells #[.int .i64 a1_0, .int .i64 a1_1] 25 (0, 0)) (by exact blkF BK326.out)) : gb326 ≠ gb328)); have n7_ := Sd.mk ((by rw [hg]; exact Nat.ne_of_gt (blk_lt (g := gb326) (o := .cells #[.int .i64 a1_0, .int .i64 a1_1] 25 (0, 0)) (by exact blkF BK326.out)) : gb328 ≠ gb326)); have n8_ := Sd.mk ((by rw [hg]; exact Nat.ne_of_lt (blk_lt (g := gb327) (o := .cells #[.int .i64 a2_0, .int .i64 a2_1] 25 (0, 0)) (by exact blkF BK327.out)) : gb327 ≠ gb328)); have n9_ := Sd.mk ((by rw [hg]; exact Nat.ne_of_gt (blk_lt (g := gb327) (o := .cells #[.int .i64 a2_0, .int .i64 a2_1] 25 (0, 0)) (by exact blkF BK327.out)) : gb328 ≠ gb327)); clear BK326; clear BK327; clear HB; have BK326 := n0_; have BK327 := n1_; have HB := n2_; have BK328 := n3_; have GW328 := n4_; have GE328 := n5_; have NB326_328 := n6_; have NB328_326 := n7_; have NB327_328 := n8_; have NB328_327 := n9_; clear n0_ n1_ n2_ n3_ n4_ n5_ n6_ n7_ n8_ n9_; clear hb hbox hg) | ((with_reducible refine gate_dst (N := 12) rfl ?_); refine Kd.R_lit Kd.string _ 9 ?hg (N := 12) ?hd (xs := ([(⟨#[43]⟩ : ByteArray), (⟨#[45]⟩ : ByteArray), (⟨#[42]⟩ : ByteArray), (⟨#[47]⟩ : ByteArray), (⟨#[61, 61]⟩ : ByteArray), (⟨#[33, 61]⟩ : ByteArray), (⟨#[60]⟩ : ByteArray), (⟨#[60, 61]⟩ : ByteArray), (⟨#[62]⟩ : ByteArray), (⟨#[62, 61]⟩ : ByteArray), (⟨#[38, 38]⟩ : ByteArray), (⟨#[124, 124]⟩ : ByteArray)] : List ByteArray)) (inner := [.string (⟨#[43]⟩ : ByteArray), .string (⟨#[45]⟩ : ByteArray), .string (⟨#[42]⟩ : ByteArray), .string (⟨#[47]⟩ : ByteArray), .string (⟨#[61, 61]⟩ : ByteArray), .string (⟨#[33, 61]⟩ : ByteArray), .string (⟨#[60]⟩ : ByteArray), .string (⟨#[60, 61]⟩ : ByteArray), .string (⟨#[62]⟩ : ByteArray), .string (⟨#[62, 61]⟩ : ByteArray), .string (⟨#[38, 38]⟩ : ByteArray), .string (⟨#[124, 124]⟩ : ByteArray)]) (ok := fun _ => True) (okp := fun _ => True) ?hr ?hp (fun _ hk => hk) trivial (Below.refl _ _) (Nat.le_refl _) (by simp) ?_; (case hd => rfl); (case hg => rfl); (case hr => first | (go_simp; done) | (go_simp; rfl)); (case hp => exact (Reps.one (show Kd.M Kd.string _ _ _ (⟨#[43]⟩ : ByteArray) [.string (⟨#[43]⟩ : ByteArray)] from rfl) (Reps.one (show Kd.M Kd.string _ _ _ (⟨#[45]⟩ : ByteArray) [.string (⟨#[45]⟩ : ByteArray)] from rfl) (Reps.one (show Kd.M Kd.string _ _ _ (⟨#[42]⟩ : ByteArray) [.string (⟨#[42]⟩ : ByteArray)] from rfl) (Reps.one (show Kd.M Kd.string _ _ _ (⟨#[47]⟩ : ByteArray) [.string (⟨#[47]⟩ : ByteArray)] from rfl) (Reps.one (show Kd.M Kd.string _ _ _ (⟨#[61, 61]⟩ : ByteArray) [.string (⟨#[61, 61]⟩ : ByteArray)] from rfl) (Reps.one (show Kd.M Kd.string _ _ _ (⟨#[33, 61]⟩ : ByteArray) [.string (⟨#[33, 61]⟩ : ByteArray)] from rfl) (Reps.one (show Kd.M Kd.string _ _ _ (⟨#[60]⟩ : ByteArray) [.string (⟨#[60]⟩ : ByteArray)] from rfl) (Reps.one (show Kd.M Kd.string _ _ _ (⟨#[60, 61]⟩ : ByteArray) [.string (⟨#[60, 61]⟩ : ByteArray)] from rfl) (Reps.one (show Kd.M Kd.string _ _ _ (⟨#[62]⟩ : ByteArray) [.string (⟨#[62]⟩ : ByteArray)] from rfl) (Reps.one (show Kd.M Kd.string _ _ _ (⟨#[62, 61]⟩ : ByteArray) [.string (⟨#[62, 61]⟩ : ByteArray)] from rfl) (Reps.one (show Kd.M Kd.string _ _ _ (⟨#[38, 38]⟩ : ByteArray) [.string (⟨#[38, 38]⟩ : ByteArray)] from rfl) (Reps.one (show Kd.M Kd.string _ _ _ (⟨#[124, 124]⟩ : ByteArray) [.string (⟨#[124, 124]⟩ : ByteArray)] from rfl) (Reps.none _ _)))))))))))))); intro v330 w7 ho8 hb hg_ hnew_; clear hg_ hnew_; (first | rw [← Ny329.out] at ho8 | (simp only [Int.reduceToNat] at ho8; rw [← Ny329.out] at ho8)); have n0_ := Sd.mk (Kd.R_lower ho8 (below_size (by repeat (first | (with_reducible first | exact HB.out | apply bal | apply pbd | apply bd1 | refine bst ?_ GE326.out | refine bst ?_ GE327.out | refine bst ?_ GE328.out) | exact HB.out)))); have n1_ := Sd.mk (blk_below (g := gb326) (o := .cells #[.int .i64 a1_0, .int .i64 a1_1] 25 (0, 0)) (by exact blkF BK326.out) hb); have n2_ := Sd.mk (blk_below (g := gb327) (o := .cells #[.int .i64 a2_0, .int .i64 a2_1] 25 (0, 0)) (by exact blkF BK327.out) hb); have n3_ := Sd.mk (blk_below (g := gb328) (o := .cells #[.int .i64 0, .int .i64 0] 25 (0, 0)) (by exact blkF BK328.out) hb); have n4_ := Sd.mk (below_step (by repeat (first | (with_reducible first | exact HB.out | apply bal | apply pbd | apply bd1 | refine bst ?_ GE326.out | refine bst ?_ GE327.out | refine bst ?_ GE328.out) | exact HB.out)) hb); clear BK326; clear BK327; clear BK328; clear HB; have HO331 := n0_; have BK326 := n1_; have BK327 := n2_; have BK328 := n3_; have HB := n4_; clear n0_ n1_ n2_ n3_ n4_; clear hb ho8))
 go_loopg [8, 10] k (fun kq v8 v10 w' => ∃ (x8_1 : Bool) (x10_1 : Int), v8 = .bool x8_1 ∧ v10 = .int .i64 x10_1 ∧ Sd (r8_two.l0 kq a0 x8_1 y329 x10_1 a1_0 a1_1 a2_0 a2_1 = some (r1, r2, r3)) ∧ Sd (kq ≤ k) ∧ Sd (Kd.R Kd.string 9 w' w.heap.size (fun _ => True) v330 y329) ∧ Sd (w'.heap[gb326]? = some (.cells #[.int .i64 a1_0, .int .i64 a1_1] 25 (0, 0))) ∧ Sd (w'.heap[gb327]? = some (.cells #[.int .i64 a2_0, .int .i64 a2_1] 25 (0, 0))) ∧ Sd (w'.heap[gb328]? = some (.cells #[.int .i64 0, .int .i64 0] 25 (0, 0))) ∧ Sd (Below w.heap.size w w'))
 case atStart => exact ⟨(false), (0), (by first | rfl | (simp; done) | (simp [*]; done)), (by first | rfl | (simp; done) | (simp [*]; done)), H', ⟨Nat.le_refl _⟩, ⟨by (with_reducible repeat (first | apply Kd.R_alloc | apply Kd.R_drewN | apply Kd.R_drew)); exact HO331.out⟩, ⟨by (with_reducible repeat (first | refine blk_drewN ?_ _ | refine blk_drew ?_ | refine blk_alloc ?_ _)); exact BK326.out⟩, ⟨by (with_reducible repeat (first | refine blk_drewN ?_ _ | refine blk_drew ?_ | refine blk_alloc ?_ _)); exact BK327.out⟩, ⟨by (with_reducible repeat (first | refine blk_drewN ?_ _ | refine blk_drew ?_ | refine blk_alloc ?_ _)); exact BK328.out⟩, ⟨by repeat (first | (with_reducible first | exact HB.out | apply bal | apply pbd | apply bd1 | refine bst ?_ GE326.out | refine bst ?_ GE327.out | refine bst ?_ GE328.out) | exact HB.out)⟩⟩
 case round =>
  clear H'
  try clear p2
  try clear c4
  obtain ⟨x8_1, x10_1, rfl, rfl, HA, HK1, HO_9, BK326, BK327, BK328, HB⟩ := hrel
  cases gk with
  | zero => exact absurd HA.out (by simp [r8_two.l0])
  | succ k1 =>
   have H := HA.out
   clear HA
   simp only [r8_two.l0] at H
   by_cases c9 : x10_1 < (y329.length : Int)
   ·rw [if_pos c9] at H
    have c9b0 : decide (x10_1 < (y329.length : Int)) = true := decide_eq_true c9
    clear c9
    by_cases c10 : x8_1 = true
    ·subst c10
     have H1 : (r8_two.l0 k1 a0 true y329 (wrap64 (x10_1 + 1)) a1_0 a1_1 a2_0 a2_1) = some (r1, r2, r3) := by rw [if_pos rfl] at H; exact H
     clear H
     have H := H1
     clear H1
     have H' := Sd.mk H
     clear H
     obtain ⟨Ao11, co11, eo11⟩ := Kd.R_slice HO_9.out
     subst eo11
     go_wp2
     go_roundg k1
     case measure => have := HK1.out; omega
     case rel => exact ⟨(true), (wrap64 (x10_1 + 1)), (by first | rfl | (simp; done) | (simp [*]; done)), (by first | rfl | (simp; done) | (simp [*]; done)), H', ⟨by have := HK1.out; omega⟩, ⟨by (with_reducible repeat (first | apply Kd.R_alloc | apply Kd.R_drewN | apply Kd.R_drew)); exact HO_9.out⟩, ⟨by (with_reducible repeat (first | refine blk_drewN ?_ _ | refine blk_drew ?_ | refine blk_alloc ?_ _)); exact BK326.out⟩, ⟨by (with_reducible repeat (first | refine blk_drewN ?_ _ | refine blk_drew ?_ | refine blk_alloc ?_ _)); exact BK327.out⟩, ⟨by (with_reducible repeat (first | refine blk_drewN ?_ _ | refine blk_drew ?_ | refine blk_alloc ?_ _)); exact BK328.out⟩, ⟨by repeat (first | (with_reducible first | exact HB.out | apply bal | apply pbd | apply bd1 | refine bst ?_ GE326.out | refine bst ?_ GE327.out | refine bst ?_ GE328.out) | exact HB.out)⟩⟩
    ·replace c10 := Bool.eq_false_iff.mpr c10
     subst c10
     have H1 : (if 0 ≤ x10_1 then (r8_two.l0 k1 a0 ((rdOf ByteArray.empty y329 x10_1).toList == a0.toList) y329 (wrap64 (x10_1 + 1)) a1_0 a1_1 a2_0 a2_1) else (none)) = some (r1, r2, r3) := by rw [if_neg (show ¬ (false = true) by decide)] at H; exact H
     clear H
     have H := H1
     clear H1
     by_cases c12 : 0 ≤ x10_1
     ·rw [if_pos c12] at H
      have c12b0 : decide (0 ≤ x10_1) = true := decide_eq_true c12
      clear c12
      have H' := Sd.mk H
      clear H
      obtain ⟨Ao13, co13, eo13⟩ := Kd.R_slice HO_9.out
      subst eo13
      have p332 : 0 ≤ (x10_1 : Int) := of_decide_eq_true (by first | (with_reducible assumption) | assumption)
      have q332 : x10_1 < (y329.length : Int) := of_decide_eq_true (by first | (with_reducible assumption) | assumption)
      obtain ⟨ad332, e332, hx332_0⟩ := Kd.at_string (Kd.R_reads' HO_9.out).2.2 x10_1 p332 q332
      cases e332
      replace p332 := eq_true p332
      replace q332 := eq_true q332
      go_wp2
      go_roundg k1
      case measure => have := HK1.out; omega
      case rel => exact ⟨(((rdOf ByteArray.empty y329 x10_1).toList == a0.toList)), (wrap64 (x10_1 + 1)), (by first | rfl | (simp; done) | (simp [*]; done)), (by first | rfl | (simp; done) | (simp [*]; done)), H', ⟨by have := HK1.out; omega⟩, ⟨by (with_reducible repeat (first | apply Kd.R_alloc | apply Kd.R_drewN | apply Kd.R_drew)); exact HO_9.out⟩, ⟨by (with_reducible repeat (first | refine blk_drewN ?_ _ | refine blk_drew ?_ | refine blk_alloc ?_ _)); exact BK326.out⟩, ⟨by (with_reducible repeat (first | refine blk_drewN ?_ _ | refine blk_drew ?_ | refine blk_alloc ?_ _)); exact BK327.out⟩, ⟨by (with_reducible repeat (first | refine blk_drewN ?_ _ | refine blk_drew ?_ | refine blk_alloc ?_ _)); exact BK328.out⟩, ⟨by repeat (first | (with_reducible first | exact HB.out | apply bal | apply pbd | apply bd1 | refine bst ?_ GE326.out | refine bst ?_ GE327.out | refine bst ?_ GE328.out) | exact HB.out)⟩⟩
     ·rw [if_neg c12] at H
      exact absurd H (by simp)
   ·rw [if_neg c9] at H
    have c9b0 : decide (x10_1 < (y329.length : Int)) = false := decide_eq_false c9
    clear c9
    by_cases c14 : x8_1 = true
    ·subst c14
     have H1 : (if a1_0 = 2 then (r8_two.j1 k1 a0 true a1_0 a1_1 a2_0 a2_1) else (r8_two.j1 k1 a0 (a2_0 == 2) a1_0 a1_1 a2_0 a2_1)) = some (r1, r2, r3) := by rw [if_pos rfl] at H; exact H
     clear H
     have H := H1
     clear H1
     have HC15 := Sd.mk H
     clear H
     obtain ⟨Ao16, co16, eo16⟩ := Kd.R_slice HO_9.out
     subst eo16
     go_upto_region 9 with (fail)
     go_cut [38] (fun v38 wc => ∃ (kq : Nat) (x38_14 : Bool), v38 = .bool x38_14 ∧ Sd (r8_two.j1 kq a0 x38_14 a1_0 a1_1 a2_0 a2_1 = some (r1, r2, r3)) ∧ Sd (kq ≤ k1) ∧ Sd (wc.heap[gb326]? = some (.cells #[.int .i64 a1_0, .int .i64 a1_1] 25 (0, 0))) ∧ Sd (wc.heap[gb327]? = some (.cells #[.int .i64 a2_0, .int .i64 a2_1] 25 (0, 0))) ∧ Sd (wc.heap[gb328]? = some (.cells #[.int .i64 0, .int .i64 0] 25 (0, 0))) ∧ Sd (Below w.heap.size w wc))
     case first =>
      have H := HC15.out
      clear HC15
      by_cases c17 : a1_0 = 2
      ·rw [if_pos c17] at H
       have c17b0 : (a1_0 == 2) = true := beq_iff_eq.mpr c17
       have c17b1 : (a1_0 != 2) = false := bne_eq_false_iff_eq.mpr c17
       clear c17
       (first | rw [c17b0] | (simp only [i64_w, i32_w]; rw [c17b0]) | skip)
       have H' := Sd.mk H
       clear H
       have hnb18 := NB326_327.out
       have hnc18 := NB327_326.out
       have hnb19 := NB326_328.out
       have hnc19 := NB328_326.out
       have hcz20_0 : wr.cell? ⟨gb326, 0, none⟩ = some (.int .i64 a1_0) := (blk_cell BK326.out 0).trans rfl
       have hcz20_1 : wr.cell? ⟨gb326, 1, none⟩ = some (.int .i64 a1_1) := (blk_cell BK326.out 1).trans rfl
       have hfz20_0 := blk_frozen BK326.out 0
       have hfz20_1 := blk_frozen BK326.out 1
       go_wp2
       go_meet
       case rel => exact ⟨_, (true), (by first | rfl | (simp; done) | (simp [*]; done)), H', ⟨by have := HK1.out; first | omega | exact Nat.le_refl _⟩, ⟨by (with_reducible repeat (first | refine blk_drewN ?_ _ | refine blk_drew ?_ | refine blk_alloc ?_ _)); exact BK326.out⟩, ⟨by (with_reducible repeat (first | refine blk_drewN ?_ _ | refine blk_drew ?_ | refine blk_alloc ?_ _)); exact BK327.out⟩, ⟨by (with_reducible repeat (first | refine blk_drewN ?_ _ | refine blk_drew ?_ | refine blk_alloc ?_ _)); exact BK328.out⟩, ⟨by repeat (first | (with_reducible first | exact HB.out | apply bal | apply pbd | apply bd1 | refine bst ?_ GE326.out | refine bst ?_ GE327.out | refine bst ?_ GE328.out) | exact HB.out)⟩⟩
      ·rw [if_neg c17] at H
       have c17b0 : (a1_0 == 2) = false := beq_eq_false_iff_ne.mpr c17
       have c17b1 : (a1_0 != 2) = true := bne_iff_ne.mpr c17
       (first | rw [c17b0] | (simp only [i64_w, i32_w]; rw [c17b0]) | skip)
       have H' := Sd.mk H
       clear H
       have hnb21 := NB326_327.out
       have hnc21 := NB327_326.out
       have hnb22 := NB326_328.out
       have hnc22 := NB328_326.out
       have hcz23_0 : wr.cell? ⟨gb326, 0, none⟩ = some (.int .i64 a1_0) := (blk_cell BK326.out 0).trans rfl
       have hcz23_1 : wr.cell? ⟨gb326, 1, none⟩ = some (.int .i64 a1_1) := (blk_cell BK326.out 1).trans rfl
       have hfz23_0 := blk_frozen BK326.out 0
       have hfz23_1 := blk_frozen BK326.out 1
       have hnb24 := NB327_328.out
       have hnc24 := NB328_327.out
       have hcz25_0 : wr.cell? ⟨gb327, 0, none⟩ = some (.int .i64 a2_0) := (blk_cell BK327.out 0).trans rfl
       have hcz25_1 : wr.cell? ⟨gb327, 1, none⟩ = some (.int .i64 a2_1) := (blk_cell BK327.out 1).trans rfl
       have hfz25_0 := blk_frozen BK327.out 0
       have hfz25_1 := blk_frozen BK327.out 1
       go_wp2
       go_meet
       case rel => exact ⟨_, ((a2_0 == 2)), (by first | rfl | (simp; done) | (simp [*]; done)), H', ⟨by have := HK1.out; first | omega | exact Nat.le_refl _⟩, ⟨by (with_reducible repeat (first | refine blk_drewN ?_ _ | refine blk_drew ?_ | refine blk_alloc ?_ _)); exact BK326.out⟩, ⟨by (with_reducible repeat (first | refine blk_drewN ?_ _ | refine blk_drew ?_ | refine blk_alloc ?_ _)); exact BK327.out⟩, ⟨by (with_reducible repeat (first | refine blk_drewN ?_ _ | refine blk_drew ?_ | refine blk_alloc ?_ _)); exact BK328.out⟩, ⟨by repeat (first | (with_reducible first | exact HB.out | apply bal | apply pbd | apply bd1 | refine bst ?_ GE326.out | refine bst ?_ GE327.out | refine bst ?_ GE328.out) | exact HB.out)⟩⟩
     case rest =>
      clear HC15
      try clear c1
      try clear c2
      try clear p2
      try clear p3
      try clear q3
      try clear hx3
      try clear c4
      try clear p6
      try clear c9
      try clear c9b0
      try clear c10
      try clear c12
      try clear c12b0
      try clear c14
      try clear c17
      try clear c17b0
      try clear c17b1
      try clear c18
      try clear c19
      try clear c21
      try clear c22
      try clear c24
      try clear hcz20_0
      try clear hcz20_1
      try clear hcz23_0
      try clear hcz23_1
      try clear hcz25_0
      try clear hcz25_1
      try clear hfz20_0
      try clear hfz20_1
      try clear hfz23_0
      try clear hfz23_1
      try clear hfz25_0
      try clear hfz25_1
      try clear hx332_0
      try clear p2
      try clear p332
      try clear q332
      obtain ⟨kq, x38_14, rfl, HA, HJ14, BK326, BK327, BK328, HB⟩ := hcut
      cases kq with
      | zero => exact absurd HA.out (by simp [r8_two.j1])
      | succ kj14 =>
       have H := HA.out
       clear HA
       simp only [r8_two.j1] at H
       by_cases c26 : x38_14 = true
       ·subst c26
        have H1 : ((r8_Null.f).bind fun bt333 => (some (bt333.1, bt333.2, true))) = some (r1, r2, r3) := by rw [if_pos rfl] at H; exact H
        clear H
        have H := H1
        clear H1
        replace H := Option.bind_eq_some_iff.mp H
        obtain ⟨⟨t333, t334⟩, A270, H⟩ := H
        replace H : (some (t333, t334, true)) = some (r1, r2, r3) := H
        have A27 := Sd.mk A270
        clear A270
        simp only [Option.some.injEq, Prod.mk.injEq] at H
        obtain ⟨rfl, rfl, rfl⟩ := H
        go_wp2_with (first | ((with_reducible refine gate_callee (f := 24) rfl ?_); refine goesL_ (some 39) rfl rfl Tryz.func24 (by kernel_rfl) rfl #[] rfl (by (try simp only [List.map_toArray, List.map_cons, List.map_nil]); first | done | rfl | (simp only [List.length_drop, List.length_take]; rfl)) ?_; (with_reducible refine (r8_Null.calls  t333 t334 _ A27.out).mono ?_); rintro e w28 ⟨rfl, hb⟩; refine ⟨_, rfl, ?_⟩; have n0_ := Sd.mk (blk_below (g := gb326) (o := .cells #[.int .i64 a1_0, .int .i64 a1_1] 25 (0, 0)) (by exact blkF BK326.out) hb); have n1_ := Sd.mk (blk_below (g := gb327) (o := .cells #[.int .i64 a2_0, .int .i64 a2_1] 25 (0, 0)) (by exact blkF BK327.out) hb); have n2_ := Sd.mk (blk_below (g := gb328) (o := .cells #[.int .i64 0, .int .i64 0] 25 (0, 0)) (by exact blkF BK328.out) hb); have n3_ := Sd.mk (below_step (by repeat (first | (with_reducible first | exact HB.out | apply bal | apply pbd | apply bd1 | refine bst ?_ GE326.out | refine bst ?_ GE327.out | refine bst ?_ GE328.out) | exact HB.out)) hb); clear BK326; clear BK327; clear BK328; clear HB; have BK326 := n0_; have BK327 := n1_; have BK328 := n2_; have HB := n3_; clear n0_ n1_ n2_ n3_; (try clear hb); (try clear hb2); (try clear hk); (try clear hi); have hnb29 := NB328_326.out; have hnc29 := NB326_328.out; have hnb30 := NB328_327.out; have hnc30 := NB327_328.out; have hcz31_0 : w28.cell? ⟨gb328, 0, none⟩ = some (.int .i64 0) := (blk_cell BK328.out 0).trans rfl; have hcz31_1 : w28.cell? ⟨gb328, 1, none⟩ = some (.int .i64 0) := (blk_cell BK328.out 1).trans rfl; have hfz31_0 := blk_frozen BK328.out 0; have hfz31_1 := blk_frozen BK328.out 1))
        refine bodyPost_ret (results_ct rfl _ _ gb328 25 #[.int .i64 t333, .int .i64 t334] (0, 0) _ rfl (by (with_reducible repeat (first | refine blk_drewN ?_ _ | refine blk_drew ?_ | refine blk_alloc ?_ _)); refine blk_put (cs := #[.int .i64 t333, .int .i64 0]) ?_ 1 _ rfl; (with_reducible repeat (first | refine blk_drewN ?_ _ | refine blk_drew ?_ | refine blk_alloc ?_ _)); refine blk_put (cs := #[.int .i64 0, .int .i64 0]) ?_ 0 _ rfl; (with_reducible repeat (first | refine blk_drewN ?_ _ | refine blk_drew ?_ | refine blk_alloc ?_ _)); exact BK328.out) Tryz.underlying25 rfl (by kernel_rfl)) rfl ?_
        exact ⟨by first | rfl | (simp [errW_none, errW_some] <;> rfl) | (simp [*, errW_none, errW_some] <;> rfl), by repeat (first | (with_reducible first | exact HB.out | apply bal | apply pbd | apply bd1 | refine bst ?_ GE326.out | refine bst ?_ GE327.out | refine bst ?_ GE328.out) | exact HB.out)⟩
       ·replace c26 := Bool.eq_false_iff.mpr c26
        subst c26
        have H1 : (if a1_0 = 3 then (r8_two.j2 kj14 a0 true a1_0 a1_1 a2_0 a2_1) else (r8_two.j2 kj14 a0 (a2_0 == 3) a1_0 a1_1 a2_0 a2_1)) = some (r1, r2, r3) := by rw [if_neg (show ¬ (false = true) by decide)] at H; exact H
        clear H
        have H := H1
        clear H1
        have HC32 := Sd.mk H
        clear H
        go_upto_region 11 with (fail)
        go_cut [11] (fun v11 wc => ∃ (kq : Nat) (x11_31 : Bool), v11 = .bool x11_31 ∧ Sd (r8_two.j2 kq a0 x11_31 a1_0 a1_1 a2_0 a2_1 = some (r1, r2, r3)) ∧ Sd (kq ≤ kj14) ∧ Sd (wc.heap[gb326]? = some (.cells #[.int .i64 a1_0, .int .i64 a1_1] 25 (0, 0))) ∧ Sd (wc.heap[gb327]? = some (.cells #[.int .i64 a2_0, .int .i64 a2_1] 25 (0, 0))) ∧ Sd (wc.heap[gb328]? = some (.cells #[.int .i64 0, .int .i64 0] 25 (0, 0))) ∧ Sd (Below w.heap.size w wc))
        case first =>
         have H := HC32.out
         clear HC32
         by_cases c33 : a1_0 = 3
         ·rw [if_pos c33] at H
          have c33b0 : (a1_0 == 3) = true := beq_iff_eq.mpr c33
          have c33b1 : (a1_0 != 3) = false := bne_eq_false_iff_eq.mpr c33
          clear c33
          (first | rw [c33b0] | (simp only [i64_w, i32_w]; rw [c33b0]) | skip)
          have H' := Sd.mk H
          clear H
          have hnb34 := NB326_327.out
          have hnc34 := NB327_326.out
          have hnb35 := NB326_328.out
          have hnc35 := NB328_326.out
          have hcz36_0 : wc.cell? ⟨gb326, 0, none⟩ = some (.int .i64 a1_0) := (blk_cell BK326.out 0).trans rfl
          have hcz36_1 : wc.cell? ⟨gb326, 1, none⟩ = some (.int .i64 a1_1) := (blk_cell BK326.out 1).trans rfl
          have hfz36_0 := blk_frozen BK326.out 0
          have hfz36_1 := blk_frozen BK326.out 1
          go_wp2
          go_meet
          case rel => exact ⟨_, (true), (by first | rfl | (simp; done) | (simp [*]; done)), H', ⟨by have := HK1.out; have := HJ14.out; first | omega | exact Nat.le_refl _⟩, ⟨by (with_reducible repeat (first | refine blk_drewN ?_ _ | refine blk_drew ?_ | refine blk_alloc ?_ _)); exact BK326.out⟩, ⟨by (with_reducible repeat (first | refine blk_drewN ?_ _ | refine blk_drew ?_ | refine blk_alloc ?_ _)); exact BK327.out⟩, ⟨by (with_reducible repeat (first | refine blk_drewN ?_ _ | refine blk_drew ?_ | refine blk_alloc ?_ _)); exact BK328.out⟩, ⟨by repeat (first | (with_reducible first | exact HB.out | apply bal | apply pbd | apply bd1 | refine bst ?_ GE326.out | refine bst ?_ GE327.out | refine bst ?_ GE328.out) | exact HB.out)⟩⟩
         ·rw [if_neg c33] at H
          have c33b0 : (a1_0 == 3) = false := beq_eq_false_iff_ne.mpr c33
          have c33b1 : (a1_0 != 3) = true := bne_iff_ne.mpr c33
          (first | rw [c33b0] | (simp only [i64_w, i32_w]; rw [c33b0]) | skip)
          have H' := Sd.mk H
          clear H
          have hnb37 := NB326_327.out
          have hnc37 := NB327_326.out
          have hnb38 := NB326_328.out
          have hnc38 := NB328_326.out
          have hcz39_0 : wc.cell? ⟨gb326, 0, none⟩ = some (.int .i64 a1_0) := (blk_cell BK326.out 0).trans rfl
          have hcz39_1 : wc.cell? ⟨gb326, 1, none⟩ = some (.int .i64 a1_1) := (blk_cell BK326.out 1).trans rfl
          have hfz39_0 := blk_frozen BK326.out 0
          have hfz39_1 := blk_frozen BK326.out 1
          have hnb40 := NB327_328.out
          have hnc40 := NB328_327.out
          have hcz41_0 : wc.cell? ⟨gb327, 0, none⟩ = some (.int .i64 a2_0) := (blk_cell BK327.out 0).trans rfl
          have hcz41_1 : wc.cell? ⟨gb327, 1, none⟩ = some (.int .i64 a2_1) := (blk_cell BK327.out 1).trans rfl
          have hfz41_0 := blk_frozen BK327.out 0
          have hfz41_1 := blk_frozen BK327.out 1
          go_wp2
          go_meet
          case rel => exact ⟨_, ((a2_0 == 3)), (by first | rfl | (simp; done) | (simp [*]; done)), H', ⟨by have := HK1.out; have := HJ14.out; first | omega | exact Nat.le_refl _⟩, ⟨by (with_reducible repeat (first | refine blk_drewN ?_ _ | refine blk_drew ?_ | refine blk_alloc ?_ _)); exact BK326.out⟩, ⟨by (with_reducible repeat (first | refine blk_drewN ?_ _ | refine blk_drew ?_ | refine blk_alloc ?_ _)); exact BK327.out⟩, ⟨by (with_reducible repeat (first | refine blk_drewN ?_ _ | refine blk_drew ?_ | refine blk_alloc ?_ _)); exact BK328.out⟩, ⟨by repeat (first | (with_reducible first | exact HB.out | apply bal | apply pbd | apply bd1 | refine bst ?_ GE326.out | refine bst ?_ GE327.out | refine bst ?_ GE328.out) | exact HB.out)⟩⟩
        case rest =>
         clear HC32
         try clear c1
         try clear c2
         try clear p2
         try clear c3
         try clear p3
         try clear q3
         try clear hx3
         try clear c4
         try clear p6
         try clear c9
         try clear c9b0
         try clear c10
         try clear c12
         try clear c12b0
         try clear c14
         try clear c17
         try clear c17b0
         try clear c17b1
         try clear c18
         try clear c19
         try clear c21
         try clear c22
         try clear c24
         try clear c26
         try clear c29
         try clear c30
         try clear c33
         try clear c33b0
         try clear c33b1
         try clear p33
         try clear q33
         try clear hx33
         try clear c34
         try clear c35
         try clear c37
         try clear c38
         try clear c40
         try clear hcz20_0
         try clear hcz20_1
         try clear hcz23_0
         try clear hcz23_1
         try clear hcz25_0
         try clear hcz25_1
         try clear hcz31_0
         try clear hcz31_1
         try clear hcz36_0
         try clear hcz36_1
         try clear hcz39_0
         try clear hcz39_1
         try clear hcz41_0
         try clear hcz41_1
         try clear hfz20_0
         try clear hfz20_1
         try clear hfz23_0
         try clear hfz23_1
         try clear hfz25_0
         try clear hfz25_1
         try clear hfz31_0
         try clear hfz31_1
         try clear hfz36_0
         try clear hfz36_1
         try clear hfz39_0
         try clear hfz39_1
         try clear hfz41_0
         try clear hfz41_1
         try clear hx332_0
         try clear p2
         try clear p3
         try clear p332
         try clear p6
         try clear q3
         try clear q332
         obtain ⟨kq, x11_31, rfl, HA, HJ31, BK326, BK327, BK328, HB⟩ := hcut
         cases kq with
         | zero => exact absurd HA.out (by simp [r8_two.j2])
         | succ kj31 =>
          have H := HA.out
          clear HA
          simp only [r8_two.j2] at H
          by_cases c42 : a0.toList = ([38, 38] : List UInt8)
          ·rw [if_pos c42] at H
           have c42b0 : (a0.toList == ([38, 38] : List UInt8)) = true := beq_iff_eq.mpr c42
           have c42b1 : (a0.toList != ([38, 38] : List UInt8)) = false := bne_eq_false_iff_eq.mpr c42
           clear c42
           replace H := Option.bind_eq_some_iff.mp H
           obtain ⟨t335, A430, H⟩ := H
           replace H : (if t335 = true then ((r8_True.f a2_0 a2_1).bind fun t336 => ((r8_Truth.f t336).bind fun bt337 => (some (bt337.1, bt337.2, true)))) else ((r8_Truth.f false).bind fun bt339 => (some (bt339.1, bt339.2, true)))) = some (r1, r2, r3) := H
           have A43 := Sd.mk A430
           clear A430
           by_cases c44 : t335 = true
           ·subst c44
            have H1 : ((r8_True.f a2_0 a2_1).bind fun t336 => ((r8_Truth.f t336).bind fun bt337 => (some (bt337.1, bt337.2, true)))) = some (r1, r2, r3) := by rw [if_pos rfl] at H; exact H
            clear H
            have H := H1
            clear H1
            replace H := Option.bind_eq_some_iff.mp H
            obtain ⟨t336, A450, H⟩ := H
            replace H : ((r8_Truth.f t336).bind fun bt337 => (some (bt337.1, bt337.2, true))) = some (r1, r2, r3) := H
            have A45 := Sd.mk A450
            clear A450
            replace H := Option.bind_eq_some_iff.mp H
            obtain ⟨⟨t337, t338⟩, A460, H⟩ := H
            replace H : (some (t337, t338, true)) = some (r1, r2, r3) := H
            have A46 := Sd.mk A460
            clear A460
            simp only [Option.some.injEq, Prod.mk.injEq] at H
            obtain ⟨rfl, rfl, rfl⟩ := H
            have hnb47 := NB326_327.out
            have hnc47 := NB327_326.out
            have hnb48 := NB326_328.out
            have hnc48 := NB328_326.out
            have hcz49_0 : wc.cell? ⟨gb326, 0, none⟩ = some (.int .i64 a1_0) := (blk_cell BK326.out 0).trans rfl
            have hcz49_1 : wc.cell? ⟨gb326, 1, none⟩ = some (.int .i64 a1_1) := (blk_cell BK326.out 1).trans rfl
            have hfz49_0 := blk_frozen BK326.out 0
            have hfz49_1 := blk_frozen BK326.out 1
            go_wp2_with (first | ((with_reducible refine gate_callee (f := 15) rfl ?_); refine goesL_ (some 52) rfl rfl Tryz.func15 (by kernel_rfl) rfl #[.agg #[.int .i64 a1_0, .int .i64 a1_1]] rfl (by (try simp only [List.map_toArray, List.map_cons, List.map_nil]); first | done | rfl | (simp only [List.length_drop, List.length_take]; rfl)) ?_; (with_reducible refine (r8_True.calls a1_0 a1_1 true _ A43.out).mono ?_); rintro e w50 ⟨rfl, hb⟩; refine ⟨_, rfl, ?_⟩; have n0_ := Sd.mk (blk_below (g := gb326) (o := .cells #[.int .i64 a1_0, .int .i64 a1_1] 25 (0, 0)) (by exact blkF BK326.out) hb); have n1_ := Sd.mk (blk_below (g := gb327) (o := .cells #[.int .i64 a2_0, .int .i64 a2_1] 25 (0, 0)) (by exact blkF BK327.out) hb); have n2_ := Sd.mk (blk_below (g := gb328) (o := .cells #[.int .i64 0, .int .i64 0] 25 (0, 0)) (by exact blkF BK328.out) hb); have n3_ := Sd.mk (below_step (by repeat (first | (with_reducible first | exact HB.out | apply bal | apply pbd | apply bd1 | refine bst ?_ GE326.out | refine bst ?_ GE327.out | refine bst ?_ GE328.out) | exact HB.out)) hb); clear BK326; clear BK327; clear BK328; clear HB; have BK326 := n0_; have BK327 := n1_; have BK328 := n2_; have HB := n3_; clear n0_ n1_ n2_ n3_; (try clear hb); (try clear hb2); (try clear hk); (try clear hi); have hnb51 := NB327_328.out; have hnc51 := NB328_327.out; have hcz52_0 : w50.cell? ⟨gb327, 0, none⟩ = some (.int .i64 a2_0) := (blk_cell BK327.out 0).trans rfl; have hcz52_1 : w50.cell? ⟨gb327, 1, none⟩ = some (.int .i64 a2_1) := (blk_cell BK327.out 1).trans rfl; have hfz52_0 := blk_frozen BK327.out 0; have hfz52_1 := blk_frozen BK327.out 1) | (go_at_call 15; (with_reducible refine (r8_True.calls a2_0 a2_1 t336 _ A45.out).mono ?_); rintro e w53 ⟨rfl, hb⟩; have n0_ := Sd.mk (blk_below (g := gb326) (o := .cells #[.int .i64 a1_0, .int .i64 a1_1] 25 (0, 0)) (by exact blkF BK326.out) hb); have n1_ := Sd.mk (blk_below (g := gb327) (o := .cells #[.int .i64 a2_0, .int .i64 a2_1] 25 (0, 0)) (by exact blkF BK327.out) hb); have n2_ := Sd.mk (blk_below (g := gb328) (o := .cells #[.int .i64 0, .int .i64 0] 25 (0, 0)) (by exact blkF BK328.out) hb); have n3_ := Sd.mk (below_step (by repeat (first | (with_reducible first | exact HB.out | apply bal | apply pbd | apply bd1 | refine bst ?_ GE326.out | refine bst ?_ GE327.out | refine bst ?_ GE328.out) | exact HB.out)) hb); clear BK326; clear BK327; clear BK328; clear HB; have BK326 := n0_; have BK327 := n1_; have BK328 := n2_; have HB := n3_; clear n0_ n1_ n2_ n3_; (try clear hb); (try clear hb2); (try clear hk); (try clear hi)) | ((with_reducible refine gate_callee (f := 22) rfl ?_); refine goesL_ (some 57) rfl rfl Tryz.func22 (by kernel_rfl) rfl #[.bool t336] rfl (by (try simp only [List.map_toArray, List.map_cons, List.map_nil]); first | done | rfl | (simp only [List.length_drop, List.length_take]; rfl)) ?_; (with_reducible refine (r8_Truth.calls t336 t337 t338 _ A46.out).mono ?_); rintro e w54 ⟨rfl, hb⟩; refine ⟨_, rfl, ?_⟩; have n0_ := Sd.mk (blk_below (g := gb326) (o := .cells #[.int .i64 a1_0, .int .i64 a1_1] 25 (0, 0)) (by exact blkF BK326.out) hb); have n1_ := Sd.mk (blk_below (g := gb327) (o := .cells #[.int .i64 a2_0, .int .i64 a2_1] 25 (0, 0)) (by exact blkF BK327.out) hb); have n2_ := Sd.mk (blk_below (g := gb328) (o := .cells #[.int .i64 0, .int .i64 0] 25 (0, 0)) (by exact blkF BK328.out) hb); have n3_ := Sd.mk (below_step (by repeat (first | (with_reducible first | exact HB.out | apply bal | apply pbd | apply bd1 | refine bst ?_ GE326.out | refine bst ?_ GE327.out | refine bst ?_ GE328.out) | exact HB.out)) hb); clear BK326; clear BK327; clear BK328; clear HB; have BK326 := n0_; have BK327 := n1_; have BK328 := n2_; have HB := n3_; clear n0_ n1_ n2_ n3_; (try clear hb); (try clear hb2); (try clear hk); (try clear hi); have hcz55_0 : w54.cell? ⟨gb328, 0, none⟩ = some (.int .i64 0) := (blk_cell BK328.out 0).trans rfl; have hcz55_1 : w54.cell? ⟨gb328, 1, none⟩ = some (.int .i64 0) := (blk_cell BK328.out 1).trans rfl; have hfz55_0 := blk_frozen BK328.out 0; have hfz55_1 := blk_frozen BK328.out 1))
            refine bodyPost_ret (results_ct rfl _ _ gb328 25 #[.int .i64 t337, .int .i64 t338] (0, 0) _ rfl (by (with_reducible repeat (first | refine blk_drewN ?_ _ | refine blk_drew ?_ | refine blk_alloc ?_ _)); refine blk_put (cs := #[.int .i64 t337, .int .i64 0]) ?_ 1 _ rfl; (with_reducible repeat (first | refine blk_drewN ?_ _ | refine blk_drew ?_ | refine blk_alloc ?_ _)); refine blk_put (cs := #[.int .i64 0, .int .i64 0]) ?_ 0 _ rfl; (with_reducible repeat (first | refine blk_drewN ?_ _ | refine blk_drew ?_ | refine blk_alloc ?_ _)); exact BK328.out) Tryz.underlying25 rfl (by kernel_rfl)) rfl ?_
            exact ⟨by first | rfl | (simp [errW_none, errW_some] <;> rfl) | (simp [*, errW_none, errW_some] <;> rfl), by repeat (first | (with_reducible first | exact HB.out | apply bal | apply pbd | apply bd1 | refine bst ?_ GE326.out | refine bst ?_ GE327.out | refine bst ?_ GE328.out) | exact HB.out)⟩
           ·replace c44 := Bool.eq_false_iff.mpr c44
            subst c44
            have H1 : ((r8_Truth.f false).bind fun bt339 => (some (bt339.1, bt339.2, true))) = some (r1, r2, r3) := by rw [if_neg (show ¬ (false = true) by decide)] at H; exact H
            clear H
            have H := H1
            clear H1
            replace H := Option.bind_eq_some_iff.mp H
            obtain ⟨⟨t339, t340⟩, A560, H⟩ := H
            replace H : (some (t339, t340, true)) = some (r1, r2, r3) := H
            have A56 := Sd.mk A560
            clear A560
            simp only [Option.some.injEq, Prod.mk.injEq] at H
            obtain ⟨rfl, rfl, rfl⟩ := H
            have hnb57 := NB326_327.out
            have hnc57 := NB327_326.out
            have hnb58 := NB326_328.out
            have hnc58 := NB328_326.out
            have hcz59_0 : wc.cell? ⟨gb326, 0, none⟩ = some (.int .i64 a1_0) := (blk_cell BK326.out 0).trans rfl
            have hcz59_1 : wc.cell? ⟨gb326, 1, none⟩ = some (.int .i64 a1_1) := (blk_cell BK326.out 1).trans rfl
            have hfz59_0 := blk_frozen BK326.out 0
            have hfz59_1 := blk_frozen BK326.out 1
            go_wp2_with (first | ((with_reducible refine gate_callee (f := 15) rfl ?_); refine goesL_ (some 52) rfl rfl Tryz.func15 (by kernel_rfl) rfl #[.agg #[.int .i64 a1_0, .int .i64 a1_1]] rfl (by (try simp only [List.map_toArray, List.map_cons, List.map_nil]); first | done | rfl | (simp only [List.length_drop, List.length_take]; rfl)) ?_; (with_reducible refine (r8_True.calls a1_0 a1_1 false _ A43.out).mono ?_); rintro e w60 ⟨rfl, hb⟩; refine ⟨_, rfl, ?_⟩; have n0_ := Sd.mk (blk_below (g := gb326) (o := .cells #[.int .i64 a1_0, .int .i64 a1_1] 25 (0, 0)) (by exact blkF BK326.out) hb); have n1_ := Sd.mk (blk_below (g := gb327) (o := .cells #[.int .i64 a2_0, .int .i64 a2_1] 25 (0, 0)) (by exact blkF BK327.out) hb); have n2_ := Sd.mk (blk_below (g := gb328) (o := .cells #[.int .i64 0, .int .i64 0] 25 (0, 0)) (by exact blkF BK328.out) hb); have n3_ := Sd.mk (below_step (by repeat (first | (with_reducible first | exact HB.out | apply bal | apply pbd | apply bd1 | refine bst ?_ GE326.out | refine bst ?_ GE327.out | refine bst ?_ GE328.out) | exact HB.out)) hb); clear BK326; clear BK327; clear BK328; clear HB; have BK326 := n0_; have BK327 := n1_; have BK328 := n2_; have HB := n3_; clear n0_ n1_ n2_ n3_; (try clear hb); (try clear hb2); (try clear hk); (try clear hi)) | ((with_reducible refine gate_callee (f := 22) rfl ?_); refine goesL_ (some 57) rfl rfl Tryz.func22 (by kernel_rfl) rfl #[.bool false] rfl (by (try simp only [List.map_toArray, List.map_cons, List.map_nil]); first | done | rfl | (simp only [List.length_drop, List.length_take]; rfl)) ?_; (with_reducible refine (r8_Truth.calls false t339 t340 _ A56.out).mono ?_); rintro e w61 ⟨rfl, hb⟩; refine ⟨_, rfl, ?_⟩; have n0_ := Sd.mk (blk_below (g := gb326) (o := .cells #[.int .i64 a1_0, .int .i64 a1_1] 25 (0, 0)) (by exact blkF BK326.out) hb); have n1_ := Sd.mk (blk_below (g := gb327) (o := .cells #[.int .i64 a2_0, .int .i64 a2_1] 25 (0, 0)) (by exact blkF BK327.out) hb); have n2_ := Sd.mk (blk_below (g := gb328) (o := .cells #[.int .i64 0, .int .i64 0] 25 (0, 0)) (by exact blkF BK328.out) hb); have n3_ := Sd.mk (below_step (by repeat (first | (with_reducible first | exact HB.out | apply bal | apply pbd | apply bd1 | refine bst ?_ GE326.out | refine bst ?_ GE327.out | refine bst ?_ GE328.out) | exact HB.out)) hb); clear BK326; clear BK327; clear BK328; clear HB; have BK326 := n0_; have BK327 := n1_; have BK328 := n2_; have HB := n3_; clear n0_ n1_ n2_ n3_; (try clear hb); (try clear hb2); (try clear hk); (try clear hi); have hnb62 := NB328_327.out; have hnc62 := NB327_328.out; have hcz63_0 : w61.cell? ⟨gb328, 0, none⟩ = some (.int .i64 0) := (blk_cell BK328.out 0).trans rfl; have hcz63_1 : w61.cell? ⟨gb328, 1, none⟩ = some (.int .i64 0) := (blk_cell BK328.out 1).trans rfl; have hfz63_0 := blk_frozen BK328.out 0; have hfz63_1 := blk_frozen BK328.out 1))
            refine bodyPost_ret (results_ct rfl _ _ gb328 25 #[.int .i64 t339, .int .i64 t340] (0, 0) _ rfl (by (with_reducible repeat (first | refine blk_drewN ?_ _ | refine blk_drew ?_ | refine blk_alloc ?_ _)); refine blk_put (cs := #[.int .i64 t339, .int .i64 0]) ?_ 1 _ rfl; (with_reducible repeat (first | refine blk_drewN ?_ _ | refine blk_drew ?_ | refine blk_alloc ?_ _)); refine blk_put (cs := #[.int .i64 0, .int .i64 0]) ?_ 0 _ rfl; (with_reducible repeat (first | refine blk_drewN ?_ _ | refine blk_drew ?_ | refine blk_alloc ?_ _)); exact BK328.out) Tryz.underlying25 rfl (by kernel_rfl)) rfl ?_
            exact ⟨by first | rfl | (simp [errW_none, errW_some] <;> rfl) | (simp [*, errW_none, errW_some] <;> rfl), by repeat (first | (with_reducible first | exact HB.out | apply bal | apply pbd | apply bd1 | refine bst ?_ GE326.out | refine bst ?_ GE327.out | refine bst ?_ GE328.out) | exact HB.out)⟩
          ·rw [if_neg c42] at H
           have c42b0 : (a0.toList == ([38, 38] : List UInt8)) = false := beq_eq_false_iff_ne.mpr c42
           have c42b1 : (a0.toList != ([38, 38] : List UInt8)) = true := bne_iff_ne.mpr c42
           by_cases c64 : a0.toList = ([124, 124] : List UInt8)
           ·rw [if_pos c64] at H
            have c64b0 : (a0.toList == ([124, 124] : List UInt8)) = true := beq_iff_eq.mpr c64
            have c64b1 : (a0.toList != ([124, 124] : List UInt8)) = false := bne_eq_false_iff_eq.mpr c64
            clear c64
            replace H := Option.bind_eq_some_iff.mp H
            obtain ⟨t341, A650, H⟩ := H
            replace H : (if t341 = true then ((r8_Truth.f true).bind fun bt342 => (some (bt342.1, bt342.2, true))) else ((r8_True.f a2_0 a2_1).bind fun t344 => ((r8_Truth.f t344).bind fun bt345 => (some (bt345.1, bt345.2, true))))) = some (r1, r2, r3) := H
            have A65 := Sd.mk A650
            clear A650
            by_cases c66 : t341 = true
            ·subst c66
             have H1 : ((r8_Truth.f true).bind fun bt342 => (some (bt342.1, bt342.2, true))) = some (r1, r2, r3) := by rw [if_pos rfl] at H; exact H
             clear H
             have H := H1
             clear H1
             replace H := Option.bind_eq_some_iff.mp H
             obtain ⟨⟨t342, t343⟩, A670, H⟩ := H
             replace H : (some (t342, t343, true)) = some (r1, r2, r3) := H
             have A67 := Sd.mk A670
             clear A670
             simp only [Option.some.injEq, Prod.mk.injEq] at H
             obtain ⟨rfl, rfl, rfl⟩ := H
             have hnb68 := NB326_327.out
             have hnc68 := NB327_326.out
             have hnb69 := NB326_328.out
             have hnc69 := NB328_326.out
             have hcz70_0 : wc.cell? ⟨gb326, 0, none⟩ = some (.int .i64 a1_0) := (blk_cell BK326.out 0).trans rfl
             have hcz70_1 : wc.cell? ⟨gb326, 1, none⟩ = some (.int .i64 a1_1) := (blk_cell BK326.out 1).trans rfl
             have hfz70_0 := blk_frozen BK326.out 0
             have hfz70_1 := blk_frozen BK326.out 1
             go_wp2_with (first | ((with_reducible refine gate_callee (f := 15) rfl ?_); refine goesL_ (some 61) rfl rfl Tryz.func15 (by kernel_rfl) rfl #[.agg #[.int .i64 a1_0, .int .i64 a1_1]] rfl (by (try simp only [List.map_toArray, List.map_cons, List.map_nil]); first | done | rfl | (simp only [List.length_drop, List.length_take]; rfl)) ?_; (with_reducible refine (r8_True.calls a1_0 a1_1 true _ A65.out).mono ?_); rintro e w71 ⟨rfl, hb⟩; refine ⟨_, rfl, ?_⟩; have n0_ := Sd.mk (blk_below (g := gb326) (o := .cells #[.int .i64 a1_0, .int .i64 a1_1] 25 (0, 0)) (by exact blkF BK326.out) hb); have n1_ := Sd.mk (blk_below (g := gb327) (o := .cells #[.int .i64 a2_0, .int .i64 a2_1] 25 (0, 0)) (by exact blkF BK327.out) hb); have n2_ := Sd.mk (blk_below (g := gb328) (o := .cells #[.int .i64 0, .int .i64 0] 25 (0, 0)) (by exact blkF BK328.out) hb); have n3_ := Sd.mk (below_step (by repeat (first | (with_reducible first | exact HB.out | apply bal | apply pbd | apply bd1 | refine bst ?_ GE326.out | refine bst ?_ GE327.out | refine bst ?_ GE328.out) | exact HB.out)) hb); clear BK326; clear BK327; clear BK328; clear HB; have BK326 := n0_; have BK327 := n1_; have BK328 := n2_; have HB := n3_; clear n0_ n1_ n2_ n3_; (try clear hb); (try clear hb2); (try clear hk); (try clear hi)) | ((with_reducible refine gate_callee (f := 22) rfl ?_); refine goesL_ (some 66) rfl rfl Tryz.func22 (by kernel_rfl) rfl #[.bool true] rfl (by (try simp only [List.map_toArray, List.map_cons, List.map_nil]); first | done | rfl | (simp only [List.length_drop, List.length_take]; rfl)) ?_; (with_reducible refine (r8_Truth.calls true t342 t343 _ A67.out).mono ?_); rintro e w72 ⟨rfl, hb⟩; refine ⟨_, rfl, ?_⟩; have n0_ := Sd.mk (blk_below (g := gb326) (o := .cells #[.int .i64 a1_0, .int .i64 a1_1] 25 (0, 0)) (by exact blkF BK326.out) hb); have n1_ := Sd.mk (blk_below (g := gb327) (o := .cells #[.int .i64 a2_0, .int .i64 a2_1] 25 (0, 0)) (by exact blkF BK327.out) hb); have n2_ := Sd.mk (blk_below (g := gb328) (o := .cells #[.int .i64 0, .int .i64 0] 25 (0, 0)) (by exact blkF BK328.out) hb); have n3_ := Sd.mk (below_step (by repeat (first | (with_reducible first | exact HB.out | apply bal | apply pbd | apply bd1 | refine bst ?_ GE326.out | refine bst ?_ GE327.out | refine bst ?_ GE328.out) | exact HB.out)) hb); clear BK326; clear BK327; clear BK328; clear HB; have BK326 := n0_; have BK327 := n1_; have BK328 := n2_; have HB := n3_; clear n0_ n1_ n2_ n3_; (try clear hb); (try clear hb2); (try clear hk); (try clear hi); have hnb73 := NB328_327.out; have hnc73 := NB327_328.out; have hcz74_0 : w72.cell? ⟨gb328, 0, none⟩ = some (.int .i64 0) := (blk_cell BK328.out 0).trans rfl; have hcz74_1 : w72.cell? ⟨gb328, 1, none⟩ = some (.int .i64 0) := (blk_cell BK328.out 1).trans rfl; have hfz74_0 := blk_frozen BK328.out 0; have hfz74_1 := blk_frozen BK328.out 1))
             refine bodyPost_ret (results_ct rfl _ _ gb328 25 #[.int .i64 t342, .int .i64 t343] (0, 0) _ rfl (by (with_reducible repeat (first | refine blk_drewN ?_ _ | refine blk_drew ?_ | refine blk_alloc ?_ _)); refine blk_put (cs := #[.int .i64 t342, .int .i64 0]) ?_ 1 _ rfl; (with_reducible repeat (first | refine blk_drewN ?_ _ | refine blk_drew ?_ | refine blk_alloc ?_ _)); refine blk_put (cs := #[.int .i64 0, .int .i64 0]) ?_ 0 _ rfl; (with_reducible repeat (first | refine blk_drewN ?_ _ | refine blk_drew ?_ | refine blk_alloc ?_ _)); exact BK328.out) Tryz.underlying25 rfl (by kernel_rfl)) rfl ?_
             exact ⟨by first | rfl | (simp [errW_none, errW_some] <;> rfl) | (simp [*, errW_none, errW_some] <;> rfl), by repeat (first | (with_reducible first | exact HB.out | apply bal | apply pbd | apply bd1 | refine bst ?_ GE326.out | refine bst ?_ GE327.out | refine bst ?_ GE328.out) | exact HB.out)⟩
            ·replace c66 := Bool.eq_false_iff.mpr c66
             subst c66
             have H1 : ((r8_True.f a2_0 a2_1).bind fun t344 => ((r8_Truth.f t344).bind fun bt345 => (some (bt345.1, bt345.2, true)))) = some (r1, r2, r3) := by rw [if_neg (show ¬ (false = true) by decide)] at H; exact H
             clear H
             have H := H1
             clear H1
             replace H := Option.bind_eq_some_iff.mp H
             obtain ⟨t344, A750, H⟩ := H
             replace H : ((r8_Truth.f t344).bind fun bt345 => (some (bt345.1, bt345.2, true))) = some (r1, r2, r3) := H
             have A75 := Sd.mk A750
             clear A750
             replace H := Option.bind_eq_some_iff.mp H
             obtain ⟨⟨t345, t346⟩, A760, H⟩ := H
             replace H : (some (t345, t346, true)) = some (r1, r2, r3) := H
             have A76 := Sd.mk A760
             clear A760
             simp only [Option.some.injEq, Prod.mk.injEq] at H
             obtain ⟨rfl, rfl, rfl⟩ := H
             have hnb77 := NB326_327.out
             have hnc77 := NB327_326.out
             have hnb78 := NB326_328.out
             have hnc78 := NB328_326.out
             have hcz79_0 : wc.cell? ⟨gb326, 0, none⟩ = some (.int .i64 a1_0) := (blk_cell BK326.out 0).trans rfl
             have hcz79_1 : wc.cell? ⟨gb326, 1, none⟩ = some (.int .i64 a1_1) := (blk_cell BK326.out 1).trans rfl
             have hfz79_0 := blk_frozen BK326.out 0
             have hfz79_1 := blk_frozen BK326.out 1
             go_wp2_with (first | ((with_reducible refine gate_callee (f := 15) rfl ?_); refine goesL_ (some 61) rfl rfl Tryz.func15 (by kernel_rfl) rfl #[.agg #[.int .i64 a1_0, .int .i64 a1_1]] rfl (by (try simp only [List.map_toArray, List.map_cons, List.map_nil]); first | done | rfl | (simp only [List.length_drop, List.length_take]; rfl)) ?_; (with_reducible refine (r8_True.calls a1_0 a1_1 false _ A65.out).mono ?_); rintro e w80 ⟨rfl, hb⟩; refine ⟨_, rfl, ?_⟩; have n0_ := Sd.mk (blk_below (g := gb326) (o := .cells #[.int .i64 a1_0, .int .i64 a1_1] 25 (0, 0)) (by exact blkF BK326.out) hb); have n1_ := Sd.mk (blk_below (g := gb327) (o := .cells #[.int .i64 a2_0, .int .i64 a2_1] 25 (0, 0)) (by exact blkF BK327.out) hb); have n2_ := Sd.mk (blk_below (g := gb328) (o := .cells #[.int .i64 0, .int .i64 0] 25 (0, 0)) (by exact blkF BK328.out) hb); have n3_ := Sd.mk (below_step (by repeat (first | (with_reducible first | exact HB.out | apply bal | apply pbd | apply bd1 | refine bst ?_ GE326.out | refine bst ?_ GE327.out | refine bst ?_ GE328.out) | exact HB.out)) hb); clear BK326; clear BK327; clear BK328; clear HB; have BK326 := n0_; have BK327 := n1_; have BK328 := n2_; have HB := n3_; clear n0_ n1_ n2_ n3_; (try clear hb); (try clear hb2); (try clear hk); (try clear hi); have hnb81 := NB327_328.out; have hnc81 := NB328_327.out; have hcz82_0 : w80.cell? ⟨gb327, 0, none⟩ = some (.int .i64 a2_0) := (blk_cell BK327.out 0).trans rfl; have hcz82_1 : w80.cell? ⟨gb327, 1, none⟩ = some (.int .i64 a2_1) := (blk_cell BK327.out 1).trans rfl; have hfz82_0 := blk_frozen BK327.out 0; have hfz82_1 := blk_frozen BK327.out 1) | (go_at_call 15; (with_reducible refine (r8_True.calls a2_0 a2_1 t344 _ A75.out).mono ?_); rintro e w83 ⟨rfl, hb⟩; have n0_ := Sd.mk (blk_below (g := gb326) (o := .cells #[.int .i64 a1_0, .int .i64 a1_1] 25 (0, 0)) (by exact blkF BK326.out) hb); have n1_ := Sd.mk (blk_below (g := gb327) (o := .cells #[.int .i64 a2_0, .int .i64 a2_1] 25 (0, 0)) (by exact blkF BK327.out) hb); have n2_ := Sd.mk (blk_below (g := gb328) (o := .cells #[.int .i64 0, .int .i64 0] 25 (0, 0)) (by exact blkF BK328.out) hb); have n3_ := Sd.mk (below_step (by repeat (first | (with_reducible first | exact HB.out | apply bal | apply pbd | apply bd1 | refine bst ?_ GE326.out | refine bst ?_ GE327.out | refine bst ?_ GE328.out) | exact HB.out)) hb); clear BK326; clear BK327; clear BK328; clear HB; have BK326 := n0_; have BK327 := n1_; have BK328 := n2_; have HB := n3_; clear n0_ n1_ n2_ n3_; (try clear hb); (try clear hb2); (try clear hk); (try clear hi)) | ((with_reducible refine gate_callee (f := 22) rfl ?_); refine goesL_ (some 66) rfl rfl Tryz.func22 (by kernel_rfl) rfl #[.bool t344] rfl (by (try simp only [List.map_toArray, List.map_cons, List.map_nil]); first | done | rfl | (simp only [List.length_drop, List.length_take]; rfl)) ?_; (with_reducible refine (r8_Truth.calls t344 t345 t346 _ A76.out).mono ?_); rintro e w84 ⟨rfl, hb⟩; refine ⟨_, rfl, ?_⟩; have n0_ := Sd.mk (blk_below (g := gb326) (o := .cells #[.int .i64 a1_0, .int .i64 a1_1] 25 (0, 0)) (by exact blkF BK326.out) hb); have n1_ := Sd.mk (blk_below (g := gb327) (o := .cells #[.int .i64 a2_0, .int .i64 a2_1] 25 (0, 0)) (by exact blkF BK327.out) hb); have n2_ := Sd.mk (blk_below (g := gb328) (o := .cells #[.int .i64 0, .int .i64 0] 25 (0, 0)) (by exact blkF BK328.out) hb); have n3_ := Sd.mk (below_step (by repeat (first | (with_reducible first | exact HB.out | apply bal | apply pbd | apply bd1 | refine bst ?_ GE326.out | refine bst ?_ GE327.out | refine bst ?_ GE328.out) | exact HB.out)) hb); clear BK326; clear BK327; clear BK328; clear HB; have BK326 := n0_; have BK327 := n1_; have BK328 := n2_; have HB := n3_; clear n0_ n1_ n2_ n3_; (try clear hb); (try clear hb2); (try clear hk); (try clear hi); have hcz85_0 : w84.cell? ⟨gb328, 0, none⟩ = some (.int .i64 0) := (blk_cell BK328.out 0).trans rfl; have hcz85_1 : w84.cell? ⟨gb328, 1, none⟩ = some (.int .i64 0) := (blk_cell BK328.out 1).trans rfl; have hfz85_0 := blk_frozen BK328.out 0; have hfz85_1 := blk_frozen BK328.out 1))
             refine bodyPost_ret (results_ct rfl _ _ gb328 25 #[.int .i64 t345, .int .i64 t346] (0, 0) _ rfl (by (with_reducible repeat (first | refine blk_drewN ?_ _ | refine blk_drew ?_ | refine blk_alloc ?_ _)); refine blk_put (cs := #[.int .i64 t345, .int .i64 0]) ?_ 1 _ rfl; (with_reducible repeat (first | refine blk_drewN ?_ _ | refine blk_drew ?_ | refine blk_alloc ?_ _)); refine blk_put (cs := #[.int .i64 0, .int .i64 0]) ?_ 0 _ rfl; (with_reducible repeat (first | refine blk_drewN ?_ _ | refine blk_drew ?_ | refine blk_alloc ?_ _)); exact BK328.out) Tryz.underlying25 rfl (by kernel_rfl)) rfl ?_
             exact ⟨by first | rfl | (simp [errW_none, errW_some] <;> rfl) | (simp [*, errW_none, errW_some] <;> rfl), by repeat (first | (with_reducible first | exact HB.out | apply bal | apply pbd | apply bd1 | refine bst ?_ GE326.out | refine bst ?_ GE327.out | refine bst ?_ GE328.out) | exact HB.out)⟩
           ·rw [if_neg c64] at H
            have c64b0 : (a0.toList == ([124, 124] : List UInt8)) = false := beq_eq_false_iff_ne.mpr c64
            have c64b1 : (a0.toList != ([124, 124] : List UInt8)) = true := bne_iff_ne.mpr c64
            by_cases c86 : a0.toList = ([61, 61] : List UInt8)
            ·rw [if_pos c86] at H
             have c86b0 : (a0.toList == ([61, 61] : List UInt8)) = true := beq_iff_eq.mpr c86
             have c86b1 : (a0.toList != ([61, 61] : List UInt8)) = false := bne_eq_false_iff_eq.mpr c86
             clear c86
             by_cases c87 : x11_31 = true
             ·subst c87
              have H1 : ((r8_Truth.f false).bind fun bt347 => (some (bt347.1, bt347.2, true))) = some (r1, r2, r3) := by rw [if_pos rfl] at H; exact H
              clear H
              have H := H1
              clear H1
              replace H := Option.bind_eq_some_iff.mp H
              obtain ⟨⟨t347, t348⟩, A880, H⟩ := H
              replace H : (some (t347, t348, true)) = some (r1, r2, r3) := H
              have A88 := Sd.mk A880
              clear A880
              simp only [Option.some.injEq, Prod.mk.injEq] at H
              obtain ⟨rfl, rfl, rfl⟩ := H
              go_wp2_with (first | ((with_reducible refine gate_callee (f := 22) rfl ?_); refine goesL_ (some 76) rfl rfl Tryz.func22 (by kernel_rfl) rfl #[.bool false] rfl (by (try simp only [List.map_toArray, List.map_cons, List.map_nil]); first | done | rfl | (simp only [List.length_drop, List.length_take]; rfl)) ?_; (with_reducible refine (r8_Truth.calls false t347 t348 _ A88.out).mono ?_); rintro e w89 ⟨rfl, hb⟩; refine ⟨_, rfl, ?_⟩; have n0_ := Sd.mk (blk_below (g := gb326) (o := .cells #[.int .i64 a1_0, .int .i64 a1_1] 25 (0, 0)) (by exact blkF BK326.out) hb); have n1_ := Sd.mk (blk_below (g := gb327) (o := .cells #[.int .i64 a2_0, .int .i64 a2_1] 25 (0, 0)) (by exact blkF BK327.out) hb); have n2_ := Sd.mk (blk_below (g := gb328) (o := .cells #[.int .i64 0, .int .i64 0] 25 (0, 0)) (by exact blkF BK328.out) hb); have n3_ := Sd.mk (below_step (by repeat (first | (with_reducible first | exact HB.out | apply bal | apply pbd | apply bd1 | refine bst ?_ GE326.out | refine bst ?_ GE327.out | refine bst ?_ GE328.out) | exact HB.out)) hb); clear BK326; clear BK327; clear BK328; clear HB; have BK326 := n0_; have BK327 := n1_; have BK328 := n2_; have HB := n3_; clear n0_ n1_ n2_ n3_; (try clear hb); (try clear hb2); (try clear hk); (try clear hi); have hnb90 := NB328_326.out; have hnc90 := NB326_328.out; have hnb91 := NB328_327.out; have hnc91 := NB327_328.out; have hcz92_0 : w89.cell? ⟨gb328, 0, none⟩ = some (.int .i64 0) := (blk_cell BK328.out 0).trans rfl; have hcz92_1 : w89.cell? ⟨gb328, 1, none⟩ = some (.int .i64 0) := (blk_cell BK328.out 1).trans rfl; have hfz92_0 := blk_frozen BK328.out 0; have hfz92_1 := blk_frozen BK328.out 1))
              refine bodyPost_ret (results_ct rfl _ _ gb328 25 #[.int .i64 t347, .int .i64 t348] (0, 0) _ rfl (by (with_reducible repeat (first | refine blk_drewN ?_ _ | refine blk_drew ?_ | refine blk_alloc ?_ _)); refine blk_put (cs := #[.int .i64 t347, .int .i64 0]) ?_ 1 _ rfl; (with_reducible repeat (first | refine blk_drewN ?_ _ | refine blk_drew ?_ | refine blk_alloc ?_ _)); refine blk_put (cs := #[.int .i64 0, .int .i64 0]) ?_ 0 _ rfl; (with_reducible repeat (first | refine blk_drewN ?_ _ | refine blk_drew ?_ | refine blk_alloc ?_ _)); exact BK328.out) Tryz.underlying25 rfl (by kernel_rfl)) rfl ?_
              exact ⟨by first | rfl | (simp [errW_none, errW_some] <;> rfl) | (simp [*, errW_none, errW_some] <;> rfl), by repeat (first | (with_reducible first | exact HB.out | apply bal | apply pbd | apply bd1 | refine bst ?_ GE326.out | refine bst ?_ GE327.out | refine bst ?_ GE328.out) | exact HB.out)⟩
             ·replace c87 := Bool.eq_false_iff.mpr c87
              subst c87
              have H1 : ((r8_Truth.f (a1_0 == a2_0 && (a1_1 == a2_1))).bind fun bt349 => (some (bt349.1, bt349.2, true))) = some (r1, r2, r3) := by rw [if_neg (show ¬ (false = true) by decide)] at H; exact H
              clear H
              have H := H1
              clear H1
              replace H := Option.bind_eq_some_iff.mp H
              obtain ⟨⟨t349, t350⟩, A930, H⟩ := H
              replace H : (some (t349, t350, true)) = some (r1, r2, r3) := H
              have A93 := Sd.mk A930
              clear A930
              simp only [Option.some.injEq, Prod.mk.injEq] at H
              obtain ⟨rfl, rfl, rfl⟩ := H
              have hnb94 := NB326_327.out
              have hnc94 := NB327_326.out
              have hnb95 := NB326_328.out
              have hnc95 := NB328_326.out
              have hcz96_0 : wc.cell? ⟨gb326, 0, none⟩ = some (.int .i64 a1_0) := (blk_cell BK326.out 0).trans rfl
              have hcz96_1 : wc.cell? ⟨gb326, 1, none⟩ = some (.int .i64 a1_1) := (blk_cell BK326.out 1).trans rfl
              have hfz96_0 := blk_frozen BK326.out 0
              have hfz96_1 := blk_frozen BK326.out 1
              have hnb97 := NB327_328.out
              have hnc97 := NB328_327.out
              have hcz98_0 : wc.cell? ⟨gb327, 0, none⟩ = some (.int .i64 a2_0) := (blk_cell BK327.out 0).trans rfl
              have hcz98_1 : wc.cell? ⟨gb327, 1, none⟩ = some (.int .i64 a2_1) := (blk_cell BK327.out 1).trans rfl
              have hfz98_0 := blk_frozen BK327.out 0
              have hfz98_1 := blk_frozen BK327.out 1
              go_wp2_with (first | ((with_reducible refine gate_callee (f := 22) rfl ?_); refine goesL_ (some 76) rfl rfl Tryz.func22 (by kernel_rfl) rfl #[.bool (a1_0 == a2_0 && (a1_1 == a2_1))] rfl (by (try simp only [List.map_toArray, List.map_cons, List.map_nil]); first | done | rfl | (simp only [List.length_drop, List.length_take]; rfl)) ?_; (with_reducible refine (r8_Truth.calls (a1_0 == a2_0 && (a1_1 == a2_1)) t349 t350 _ A93.out).mono ?_); rintro e w99 ⟨rfl, hb⟩; refine ⟨_, rfl, ?_⟩; have n0_ := Sd.mk (blk_below (g := gb326) (o := .cells #[.int .i64 a1_0, .int .i64 a1_1] 25 (0, 0)) (by exact blkF BK326.out) hb); have n1_ := Sd.mk (blk_below (g := gb327) (o := .cells #[.int .i64 a2_0, .int .i64 a2_1] 25 (0, 0)) (by exact blkF BK327.out) hb); have n2_ := Sd.mk (blk_below (g := gb328) (o := .cells #[.int .i64 0, .int .i64 0] 25 (0, 0)) (by exact blkF BK328.out) hb); have n3_ := Sd.mk (below_step (by repeat (first | (with_reducible first | exact HB.out | apply bal | apply pbd | apply bd1 | refine bst ?_ GE326.out | refine bst ?_ GE327.out | refine bst ?_ GE328.out) | exact HB.out)) hb); clear BK326; clear BK327; clear BK328; clear HB; have BK326 := n0_; have BK327 := n1_; have BK328 := n2_; have HB := n3_; clear n0_ n1_ n2_ n3_; (try clear hb); (try clear hb2); (try clear hk); (try clear hi); have hcz100_0 : w99.cell? ⟨gb328, 0, none⟩ = some (.int .i64 0) := (blk_cell BK328.out 0).trans rfl; have hcz100_1 : w99.cell? ⟨gb328, 1, none⟩ = some (.int .i64 0) := (blk_cell BK328.out 1).trans rfl; have hfz100_0 := blk_frozen BK328.out 0; have hfz100_1 := blk_frozen BK328.out 1))
              refine bodyPost_ret (results_ct rfl _ _ gb328 25 #[.int .i64 t349, .int .i64 t350] (0, 0) _ rfl (by (with_reducible repeat (first | refine blk_drewN ?_ _ | refine blk_drew ?_ | refine blk_alloc ?_ _)); refine blk_put (cs := #[.int .i64 t349, .int .i64 0]) ?_ 1 _ rfl; (with_reducible repeat (first | refine blk_drewN ?_ _ | refine blk_drew ?_ | refine blk_alloc ?_ _)); refine blk_put (cs := #[.int .i64 0, .int .i64 0]) ?_ 0 _ rfl; (with_reducible repeat (first | refine blk_drewN ?_ _ | refine blk_drew ?_ | refine blk_alloc ?_ _)); exact BK328.out) Tryz.underlying25 rfl (by kernel_rfl)) rfl ?_
              exact ⟨by first | rfl | (simp [errW_none, errW_some] <;> rfl) | (simp [*, errW_none, errW_some] <;> rfl), by repeat (first | (with_reducible first | exact HB.out | apply bal | apply pbd | apply bd1 | refine bst ?_ GE326.out | refine bst ?_ GE327.out | refine bst ?_ GE328.out) | exact HB.out)⟩
            ·rw [if_neg c86] at H
             have c86b0 : (a0.toList == ([61, 61] : List UInt8)) = false := beq_eq_false_iff_ne.mpr c86
             have c86b1 : (a0.toList != ([61, 61] : List UInt8)) = true := bne_iff_ne.mpr c86
             by_cases c101 : a0.toList = ([33, 61] : List UInt8)
             ·rw [if_pos c101] at H
              have c101b0 : (a0.toList == ([33, 61] : List UInt8)) = true := beq_iff_eq.mpr c101
              have c101b1 : (a0.toList != ([33, 61] : List UInt8)) = false := bne_eq_false_iff_eq.mpr c101
              clear c101
              by_cases c102 : x11_31 = true
              ·subst c102
               have H1 : ((r8_Truth.f true).bind fun bt351 => (some (bt351.1, bt351.2, true))) = some (r1, r2, r3) := by rw [if_pos rfl] at H; exact H
               clear H
               have H := H1
               clear H1
               replace H := Option.bind_eq_some_iff.mp H
               obtain ⟨⟨t351, t352⟩, A1030, H⟩ := H
               replace H : (some (t351, t352, true)) = some (r1, r2, r3) := H
               have A103 := Sd.mk A1030
               clear A1030
               simp only [Option.some.injEq, Prod.mk.injEq] at H
               obtain ⟨rfl, rfl, rfl⟩ := H
               go_wp2_with (first | ((with_reducible refine gate_callee (f := 22) rfl ?_); refine goesL_ (some 85) rfl rfl Tryz.func22 (by kernel_rfl) rfl #[.bool true] rfl (by (try simp only [List.map_toArray, List.map_cons, List.map_nil]); first | done | rfl | (simp only [List.length_drop, List.length_take]; rfl)) ?_; (with_reducible refine (r8_Truth.calls true t351 t352 _ A103.out).mono ?_); rintro e w104 ⟨rfl, hb⟩; refine ⟨_, rfl, ?_⟩; have n0_ := Sd.mk (blk_below (g := gb326) (o := .cells #[.int .i64 a1_0, .int .i64 a1_1] 25 (0, 0)) (by exact blkF BK326.out) hb); have n1_ := Sd.mk (blk_below (g := gb327) (o := .cells #[.int .i64 a2_0, .int .i64 a2_1] 25 (0, 0)) (by exact blkF BK327.out) hb); have n2_ := Sd.mk (blk_below (g := gb328) (o := .cells #[.int .i64 0, .int .i64 0] 25 (0, 0)) (by exact blkF BK328.out) hb); have n3_ := Sd.mk (below_step (by repeat (first | (with_reducible first | exact HB.out | apply bal | apply pbd | apply bd1 | refine bst ?_ GE326.out | refine bst ?_ GE327.out | refine bst ?_ GE328.out) | exact HB.out)) hb); clear BK326; clear BK327; clear BK328; clear HB; have BK326 := n0_; have BK327 := n1_; have BK328 := n2_; have HB := n3_; clear n0_ n1_ n2_ n3_; (try clear hb); (try clear hb2); (try clear hk); (try clear hi); have hnb105 := NB328_326.out; have hnc105 := NB326_328.out; have hnb106 := NB328_327.out; have hnc106 := NB327_328.out; have hcz107_0 : w104.cell? ⟨gb328, 0, none⟩ = some (.int .i64 0) := (blk_cell BK328.out 0).trans rfl; have hcz107_1 : w104.cell? ⟨gb328, 1, none⟩ = some (.int .i64 0) := (blk_cell BK328.out 1).trans rfl; have hfz107_0 := blk_frozen BK328.out 0; have hfz107_1 := blk_frozen BK328.out 1))
               refine bodyPost_ret (results_ct rfl _ _ gb328 25 #[.int .i64 t351, .int .i64 t352] (0, 0) _ rfl (by (with_reducible repeat (first | refine blk_drewN ?_ _ | refine blk_drew ?_ | refine blk_alloc ?_ _)); refine blk_put (cs := #[.int .i64 t351, .int .i64 0]) ?_ 1 _ rfl; (with_reducible repeat (first | refine blk_drewN ?_ _ | refine blk_drew ?_ | refine blk_alloc ?_ _)); refine blk_put (cs := #[.int .i64 0, .int .i64 0]) ?_ 0 _ rfl; (with_reducible repeat (first | refine blk_drewN ?_ _ | refine blk_drew ?_ | refine blk_alloc ?_ _)); exact BK328.out) Tryz.underlying25 rfl (by kernel_rfl)) rfl ?_
               exact ⟨by first | rfl | (simp [errW_none, errW_some] <;> rfl) | (simp [*, errW_none, errW_some] <;> rfl), by repeat (first | (with_reducible first | exact HB.out | apply bal | apply pbd | apply bd1 | refine bst ?_ GE326.out | refine bst ?_ GE327.out | refine bst ?_ GE328.out) | exact HB.out)⟩
              ·replace c102 := Bool.eq_false_iff.mpr c102
               subst c102
               have H1 : ((r8_Truth.f (!(a1_0 == a2_0) || (!(a1_1 == a2_1)))).bind fun bt353 => (some (bt353.1, bt353.2, true))) = some (r1, r2, r3) := by rw [if_neg (show ¬ (false = true) by decide)] at H; exact H
               clear H
               have H := H1
               clear H1
               replace H := Option.bind_eq_some_iff.mp H
               obtain ⟨⟨t353, t354⟩, A1080, H⟩ := H
               replace H : (some (t353, t354, true)) = some (r1, r2, r3) := H
               have A108 := Sd.mk A1080
               clear A1080
               simp only [Option.some.injEq, Prod.mk.injEq] at H
               obtain ⟨rfl, rfl, rfl⟩ := H
               have hnb109 := NB326_327.out
               have hnc109 := NB327_326.out
               have hnb110 := NB326_328.out
               have hnc110 := NB328_326.out
               have hcz111_0 : wc.cell? ⟨gb326, 0, none⟩ = some (.int .i64 a1_0) := (blk_cell BK326.out 0).trans rfl
               have hcz111_1 : wc.cell? ⟨gb326, 1, none⟩ = some (.int .i64 a1_1) := (blk_cell BK326.out 1).trans rfl
               have hfz111_0 := blk_frozen BK326.out 0
               have hfz111_1 := blk_frozen BK326.out 1
               have hnb112 := NB327_328.out
               have hnc112 := NB328_327.out
               have hcz113_0 : wc.cell? ⟨gb327, 0, none⟩ = some (.int .i64 a2_0) := (blk_cell BK327.out 0).trans rfl
               have hcz113_1 : wc.cell? ⟨gb327, 1, none⟩ = some (.int .i64 a2_1) := (blk_cell BK327.out 1).trans rfl
               have hfz113_0 := blk_frozen BK327.out 0
               have hfz113_1 := blk_frozen BK327.out 1
               go_wp2_with (first | ((with_reducible refine gate_callee (f := 22) rfl ?_); refine goesL_ (some 85) rfl rfl Tryz.func22 (by kernel_rfl) rfl #[.bool (!(a1_0 == a2_0) || (!(a1_1 == a2_1)))] rfl (by (try simp only [List.map_toArray, List.map_cons, List.map_nil]); first | done | rfl | (simp only [List.length_drop, List.length_take]; rfl)) ?_; (with_reducible refine (r8_Truth.calls (!(a1_0 == a2_0) || (!(a1_1 == a2_1))) t353 t354 _ A108.out).mono ?_); rintro e w114 ⟨rfl, hb⟩; refine ⟨_, rfl, ?_⟩; have n0_ := Sd.mk (blk_below (g := gb326) (o := .cells #[.int .i64 a1_0, .int .i64 a1_1] 25 (0, 0)) (by exact blkF BK326.out) hb); have n1_ := Sd.mk (blk_below (g := gb327) (o := .cells #[.int .i64 a2_0, .int .i64 a2_1] 25 (0, 0)) (by exact blkF BK327.out) hb); have n2_ := Sd.mk (blk_below (g := gb328) (o := .cells #[.int .i64 0, .int .i64 0] 25 (0, 0)) (by exact blkF BK328.out) hb); have n3_ := Sd.mk (below_step (by repeat (first | (with_reducible first | exact HB.out | apply bal | apply pbd | apply bd1 | refine bst ?_ GE326.out | refine bst ?_ GE327.out | refine bst ?_ GE328.out) | exact HB.out)) hb); clear BK326; clear BK327; clear BK328; clear HB; have BK326 := n0_; have BK327 := n1_; have BK328 := n2_; have HB := n3_; clear n0_ n1_ n2_ n3_; (try clear hb); (try clear hb2); (try clear hk); (try clear hi); have hcz115_0 : w114.cell? ⟨gb328, 0, none⟩ = some (.int .i64 0) := (blk_cell BK328.out 0).trans rfl; have hcz115_1 : w114.cell? ⟨gb328, 1, none⟩ = some (.int .i64 0) := (blk_cell BK328.out 1).trans rfl; have hfz115_0 := blk_frozen BK328.out 0; have hfz115_1 := blk_frozen BK328.out 1))
               refine bodyPost_ret (results_ct rfl _ _ gb328 25 #[.int .i64 t353, .int .i64 t354] (0, 0) _ rfl (by (with_reducible repeat (first | refine blk_drewN ?_ _ | refine blk_drew ?_ | refine blk_alloc ?_ _)); refine blk_put (cs := #[.int .i64 t353, .int .i64 0]) ?_ 1 _ rfl; (with_reducible repeat (first | refine blk_drewN ?_ _ | refine blk_drew ?_ | refine blk_alloc ?_ _)); refine blk_put (cs := #[.int .i64 0, .int .i64 0]) ?_ 0 _ rfl; (with_reducible repeat (first | refine blk_drewN ?_ _ | refine blk_drew ?_ | refine blk_alloc ?_ _)); exact BK328.out) Tryz.underlying25 rfl (by kernel_rfl)) rfl ?_
               exact ⟨by first | rfl | (simp [errW_none, errW_some] <;> rfl) | (simp [*, errW_none, errW_some] <;> rfl), by repeat (first | (with_reducible first | exact HB.out | apply bal | apply pbd | apply bd1 | refine bst ?_ GE326.out | refine bst ?_ GE327.out | refine bst ?_ GE328.out) | exact HB.out)⟩
             ·rw [if_neg c101] at H
              have c101b0 : (a0.toList == ([33, 61] : List UInt8)) = false := beq_eq_false_iff_ne.mpr c101
              have c101b1 : (a0.toList != ([33, 61] : List UInt8)) = true := bne_iff_ne.mpr c101
              by_cases c116 : a0.toList = ([60] : List UInt8)
              ·rw [if_pos c116] at H
               have c116b0 : (a0.toList == ([60] : List UInt8)) = true := beq_iff_eq.mpr c116
               have c116b1 : (a0.toList != ([60] : List UInt8)) = false := bne_eq_false_iff_eq.mpr c116
               clear c116
               by_cases c117 : x11_31 = true
               ·subst c117
                have H1 : ((r8_Truth.f false).bind fun bt355 => (some (bt355.1, bt355.2, true))) = some (r1, r2, r3) := by rw [if_pos rfl] at H; exact H
                clear H
                have H := H1
                clear H1
                replace H := Option.bind_eq_some_iff.mp H
                obtain ⟨⟨t355, t356⟩, A1180, H⟩ := H
                replace H : (some (t355, t356, true)) = some (r1, r2, r3) := H
                have A118 := Sd.mk A1180
                clear A1180
                simp only [Option.some.injEq, Prod.mk.injEq] at H
                obtain ⟨rfl, rfl, rfl⟩ := H
                go_wp2_with (first | ((with_reducible refine gate_callee (f := 22) rfl ?_); refine goesL_ (some 95) rfl rfl Tryz.func22 (by kernel_rfl) rfl #[.bool false] rfl (by (try simp only [List.map_toArray, List.map_cons, List.map_nil]); first | done | rfl | (simp only [List.length_drop, List.length_take]; rfl)) ?_; (with_reducible refine (r8_Truth.calls false t355 t356 _ A118.out).mono ?_); rintro e w119 ⟨rfl, hb⟩; refine ⟨_, rfl, ?_⟩; have n0_ := Sd.mk (blk_below (g := gb326) (o := .cells #[.int .i64 a1_0, .int .i64 a1_1] 25 (0, 0)) (by exact blkF BK326.out) hb); have n1_ := Sd.mk (blk_below (g := gb327) (o := .cells #[.int .i64 a2_0, .int .i64 a2_1] 25 (0, 0)) (by exact blkF BK327.out) hb); have n2_ := Sd.mk (blk_below (g := gb328) (o := .cells #[.int .i64 0, .int .i64 0] 25 (0, 0)) (by exact blkF BK328.out) hb); have n3_ := Sd.mk (below_step (by repeat (first | (with_reducible first | exact HB.out | apply bal | apply pbd | apply bd1 | refine bst ?_ GE326.out | refine bst ?_ GE327.out | refine bst ?_ GE328.out) | exact HB.out)) hb); clear BK326; clear BK327; clear BK328; clear HB; have BK326 := n0_; have BK327 := n1_; have BK328 := n2_; have HB := n3_; clear n0_ n1_ n2_ n3_; (try clear hb); (try clear hb2); (try clear hk); (try clear hi); have hnb120 := NB328_326.out; have hnc120 := NB326_328.out; have hnb121 := NB328_327.out; have hnc121 := NB327_328.out; have hcz122_0 : w119.cell? ⟨gb328, 0, none⟩ = some (.int .i64 0) := (blk_cell BK328.out 0).trans rfl; have hcz122_1 : w119.cell? ⟨gb328, 1, none⟩ = some (.int .i64 0) := (blk_cell BK328.out 1).trans rfl; have hfz122_0 := blk_frozen BK328.out 0; have hfz122_1 := blk_frozen BK328.out 1))
                refine bodyPost_ret (results_ct rfl _ _ gb328 25 #[.int .i64 t355, .int .i64 t356] (0, 0) _ rfl (by (with_reducible repeat (first | refine blk_drewN ?_ _ | refine blk_drew ?_ | refine blk_alloc ?_ _)); refine blk_put (cs := #[.int .i64 t355, .int .i64 0]) ?_ 1 _ rfl; (with_reducible repeat (first | refine blk_drewN ?_ _ | refine blk_drew ?_ | refine blk_alloc ?_ _)); refine blk_put (cs := #[.int .i64 0, .int .i64 0]) ?_ 0 _ rfl; (with_reducible repeat (first | refine blk_drewN ?_ _ | refine blk_drew ?_ | refine blk_alloc ?_ _)); exact BK328.out) Tryz.underlying25 rfl (by kernel_rfl)) rfl ?_
                exact ⟨by first | rfl | (simp [errW_none, errW_some] <;> rfl) | (simp [*, errW_none, errW_some] <;> rfl), by repeat (first | (with_reducible first | exact HB.out | apply bal | apply pbd | apply bd1 | refine bst ?_ GE326.out | refine bst ?_ GE327.out | refine bst ?_ GE328.out) | exact HB.out)⟩
               ·replace c117 := Bool.eq_false_iff.mpr c117
                subst c117
                have H1 : ((r8_Less.f kj31 a1_0 a1_1 a2_0 a2_1).bind fun t357 => ((r8_Truth.f t357).bind fun bt358 => (some (bt358.1, bt358.2, true)))) = some (r1, r2, r3) := by rw [if_neg (show ¬ (false = true) by decide)] at H; exact H
                clear H
                have H := H1
                clear H1
                replace H := Option.bind_eq_some_iff.mp H
                obtain ⟨t357, A1230, H⟩ := H
                replace H : ((r8_Truth.f t357).bind fun bt358 => (some (bt358.1, bt358.2, true))) = some (r1, r2, r3) := H
                have A123 := Sd.mk A1230
                clear A1230
                replace H := Option.bind_eq_some_iff.mp H
                obtain ⟨⟨t358, t359⟩, A1240, H⟩ := H
                replace H : (some (t358, t359, true)) = some (r1, r2, r3) := H
                have A124 := Sd.mk A1240
                clear A1240
                simp only [Option.some.injEq, Prod.mk.injEq] at H
                obtain ⟨rfl, rfl, rfl⟩ := H
                have hnb125 := NB326_327.out
                have hnc125 := NB327_326.out
                have hnb126 := NB326_328.out
                have hnc126 := NB328_326.out
                have hcz127_0 : wc.cell? ⟨gb326, 0, none⟩ = some (.int .i64 a1_0) := (blk_cell BK326.out 0).trans rfl
                have hcz127_1 : wc.cell? ⟨gb326, 1, none⟩ = some (.int .i64 a1_1) := (blk_cell BK326.out 1).trans rfl
                have hfz127_0 := blk_frozen BK326.out 0
                have hfz127_1 := blk_frozen BK326.out 1
                have hnb128 := NB327_328.out
                have hnc128 := NB328_327.out
                have hcz129_0 : wc.cell? ⟨gb327, 0, none⟩ = some (.int .i64 a2_0) := (blk_cell BK327.out 0).trans rfl
                have hcz129_1 : wc.cell? ⟨gb327, 1, none⟩ = some (.int .i64 a2_1) := (blk_cell BK327.out 1).trans rfl
                have hfz129_0 := blk_frozen BK327.out 0
                have hfz129_1 := blk_frozen BK327.out 1
                go_wp2_with (first | (go_at_call 77; (with_reducible refine (r8_Less.calls kj31 a1_0 a1_1 a2_0 a2_1 t357 _ A123.out).mono ?_); rintro e w130 ⟨rfl, hb⟩; have n0_ := Sd.mk (blk_below (g := gb326) (o := .cells #[.int .i64 a1_0, .int .i64 a1_1] 25 (0, 0)) (by exact blkF BK326.out) hb); have n1_ := Sd.mk (blk_below (g := gb327) (o := .cells #[.int .i64 a2_0, .int .i64 a2_1] 25 (0, 0)) (by exact blkF BK327.out) hb); have n2_ := Sd.mk (blk_below (g := gb328) (o := .cells #[.int .i64 0, .int .i64 0] 25 (0, 0)) (by exact blkF BK328.out) hb); have n3_ := Sd.mk (below_step (by repeat (first | (with_reducible first | exact HB.out | apply bal | apply pbd | apply bd1 | refine bst ?_ GE326.out | refine bst ?_ GE327.out | refine bst ?_ GE328.out) | exact HB.out)) hb); clear BK326; clear BK327; clear BK328; clear HB; have BK326 := n0_; have BK327 := n1_; have BK328 := n2_; have HB := n3_; clear n0_ n1_ n2_ n3_; (try clear hb); (try clear hb2); (try clear hk); (try clear hi)) | ((with_reducible refine gate_callee (f := 22) rfl ?_); refine goesL_ (some 95) rfl rfl Tryz.func22 (by kernel_rfl) rfl #[.bool t357] rfl (by (try simp only [List.map_toArray, List.map_cons, List.map_nil]); first | done | rfl | (simp only [List.length_drop, List.length_take]; rfl)) ?_; (with_reducible refine (r8_Truth.calls t357 t358 t359 _ A124.out).mono ?_); rintro e w131 ⟨rfl, hb⟩; refine ⟨_, rfl, ?_⟩; have n0_ := Sd.mk (blk_below (g := gb326) (o := .cells #[.int .i64 a1_0, .int .i64 a1_1] 25 (0, 0)) (by exact blkF BK326.out) hb); have n1_ := Sd.mk (blk_below (g := gb327) (o := .cells #[.int .i64 a2_0, .int .i64 a2_1] 25 (0, 0)) (by exact blkF BK327.out) hb); have n2_ := Sd.mk (blk_below (g := gb328) (o := .cells #[.int .i64 0, .int .i64 0] 25 (0, 0)) (by exact blkF BK328.out) hb); have n3_ := Sd.mk (below_step (by repeat (first | (with_reducible first | exact HB.out | apply bal | apply pbd | apply bd1 | refine bst ?_ GE326.out | refine bst ?_ GE327.out | refine bst ?_ GE328.out) | exact HB.out)) hb); clear BK326; clear BK327; clear BK328; clear HB; have BK326 := n0_; have BK327 := n1_; have BK328 := n2_; have HB := n3_; clear n0_ n1_ n2_ n3_; (try clear hb); (try clear hb2); (try clear hk); (try clear hi); have hcz132_0 : w131.cell? ⟨gb328, 0, none⟩ = some (.int .i64 0) := (blk_cell BK328.out 0).trans rfl; have hcz132_1 : w131.cell? ⟨gb328, 1, none⟩ = some (.int .i64 0) := (blk_cell BK328.out 1).trans rfl; have hfz132_0 := blk_frozen BK328.out 0; have hfz132_1 := blk_frozen BK328.out 1))
                refine bodyPost_ret (results_ct rfl _ _ gb328 25 #[.int .i64 t358, .int .i64 t359] (0, 0) _ rfl (by (with_reducible repeat (first | refine blk_drewN ?_ _ | refine blk_drew ?_ | refine blk_alloc ?_ _)); refine blk_put (cs := #[.int .i64 t358, .int .i64 0]) ?_ 1 _ rfl; (with_reducible repeat (first | refine blk_drewN ?_ _ | refine blk_drew ?_ | refine blk_alloc ?_ _)); refine blk_put (cs := #[.int .i64 0, .int .i64 0]) ?_ 0 _ rfl; (with_reducible repeat (first | refine blk_drewN ?_ _ | refine blk_drew ?_ | refine blk_alloc ?_ _)); exact BK328.out) Tryz.underlying25 rfl (by kernel_rfl)) rfl ?_
                exact ⟨by first | rfl | (simp [errW_none, errW_some] <;> rfl) | (simp [*, errW_none, errW_some] <;> rfl), by repeat (first | (with_reducible first | exact HB.out | apply bal | apply pbd | apply bd1 | refine bst ?_ GE326.out | refine bst ?_ GE327.out | refine bst ?_ GE328.out) | exact HB.out)⟩
              ·rw [if_neg c116] at H
               have c116b0 : (a0.toList == ([60] : List UInt8)) = false := beq_eq_false_iff_ne.mpr c116
               have c116b1 : (a0.toList != ([60] : List UInt8)) = true := bne_iff_ne.mpr c116
               by_cases c133 : a0.toList = ([60, 61] : List UInt8)
               ·rw [if_pos c133] at H
                have c133b0 : (a0.toList == ([60, 61] : List UInt8)) = true := beq_iff_eq.mpr c133
                have c133b1 : (a0.toList != ([60, 61] : List UInt8)) = false := bne_eq_false_iff_eq.mpr c133
                clear c133
                by_cases c134 : x11_31 = true
                ·subst c134
                 have H1 : ((r8_Truth.f false).bind fun bt360 => (some (bt360.1, bt360.2, true))) = some (r1, r2, r3) := by rw [if_pos rfl] at H; exact H
                 clear H
                 have H := H1
                 clear H1
                 replace H := Option.bind_eq_some_iff.mp H
                 obtain ⟨⟨t360, t361⟩, A1350, H⟩ := H
                 replace H : (some (t360, t361, true)) = some (r1, r2, r3) := H
                 have A135 := Sd.mk A1350
                 clear A1350
                 simp only [Option.some.injEq, Prod.mk.injEq] at H
                 obtain ⟨rfl, rfl, rfl⟩ := H
                 go_wp2_with (first | ((with_reducible refine gate_callee (f := 22) rfl ?_); refine goesL_ (some 106) rfl rfl Tryz.func22 (by kernel_rfl) rfl #[.bool false] rfl (by (try simp only [List.map_toArray, List.map_cons, List.map_nil]); first | done | rfl | (simp only [List.length_drop, List.length_take]; rfl)) ?_; (with_reducible refine (r8_Truth.calls false t360 t361 _ A135.out).mono ?_); rintro e w136 ⟨rfl, hb⟩; refine ⟨_, rfl, ?_⟩; have n0_ := Sd.mk (blk_below (g := gb326) (o := .cells #[.int .i64 a1_0, .int .i64 a1_1] 25 (0, 0)) (by exact blkF BK326.out) hb); have n1_ := Sd.mk (blk_below (g := gb327) (o := .cells #[.int .i64 a2_0, .int .i64 a2_1] 25 (0, 0)) (by exact blkF BK327.out) hb); have n2_ := Sd.mk (blk_below (g := gb328) (o := .cells #[.int .i64 0, .int .i64 0] 25 (0, 0)) (by exact blkF BK328.out) hb); have n3_ := Sd.mk (below_step (by repeat (first | (with_reducible first | exact HB.out | apply bal | apply pbd | apply bd1 | refine bst ?_ GE326.out | refine bst ?_ GE327.out | refine bst ?_ GE328.out) | exact HB.out)) hb); clear BK326; clear BK327; clear BK328; clear HB; have BK326 := n0_; have BK327 := n1_; have BK328 := n2_; have HB := n3_; clear n0_ n1_ n2_ n3_; (try clear hb); (try clear hb2); (try clear hk); (try clear hi); have hnb137 := NB328_326.out; have hnc137 := NB326_328.out; have hnb138 := NB328_327.out; have hnc138 := NB327_328.out; have hcz139_0 : w136.cell? ⟨gb328, 0, none⟩ = some (.int .i64 0) := (blk_cell BK328.out 0).trans rfl; have hcz139_1 : w136.cell? ⟨gb328, 1, none⟩ = some (.int .i64 0) := (blk_cell BK328.out 1).trans rfl; have hfz139_0 := blk_frozen BK328.out 0; have hfz139_1 := blk_frozen BK328.out 1))
                 refine bodyPost_ret (results_ct rfl _ _ gb328 25 #[.int .i64 t360, .int .i64 t361] (0, 0) _ rfl (by (with_reducible repeat (first | refine blk_drewN ?_ _ | refine blk_drew ?_ | refine blk_alloc ?_ _)); refine blk_put (cs := #[.int .i64 t360, .int .i64 0]) ?_ 1 _ rfl; (with_reducible repeat (first | refine blk_drewN ?_ _ | refine blk_drew ?_ | refine blk_alloc ?_ _)); refine blk_put (cs := #[.int .i64 0, .int .i64 0]) ?_ 0 _ rfl; (with_reducible repeat (first | refine blk_drewN ?_ _ | refine blk_drew ?_ | refine blk_alloc ?_ _)); exact BK328.out) Tryz.underlying25 rfl (by kernel_rfl)) rfl ?_
                 exact ⟨by first | rfl | (simp [errW_none, errW_some] <;> rfl) | (simp [*, errW_none, errW_some] <;> rfl), by repeat (first | (with_reducible first | exact HB.out | apply bal | apply pbd | apply bd1 | refine bst ?_ GE326.out | refine bst ?_ GE327.out | refine bst ?_ GE328.out) | exact HB.out)⟩
                ·replace c134 := Bool.eq_false_iff.mpr c134
                 subst c134
                 have H1 : ((r8_Less.f kj31 a2_0 a2_1 a1_0 a1_1).bind fun t362 => ((r8_Truth.f (!t362)).bind fun bt363 => (some (bt363.1, bt363.2, true)))) = some (r1, r2, r3) := by rw [if_neg (show ¬ (false = true) by decide)] at H; exact H
                 clear H
                 have H := H1
                 clear H1
                 replace H := Option.bind_eq_some_iff.mp H
                 obtain ⟨t362, A1400, H⟩ := H
                 replace H : ((r8_Truth.f (!t362)).bind fun bt363 => (some (bt363.1, bt363.2, true))) = some (r1, r2, r3) := H
                 have A140 := Sd.mk A1400
                 clear A1400
                 replace H := Option.bind_eq_some_iff.mp H
                 obtain ⟨⟨t363, t364⟩, A1410, H⟩ := H
                 replace H : (some (t363, t364, true)) = some (r1, r2, r3) := H
                 have A141 := Sd.mk A1410
                 clear A1410
                 simp only [Option.some.injEq, Prod.mk.injEq] at H
                 obtain ⟨rfl, rfl, rfl⟩ := H
                 have hnb142 := NB327_326.out
                 have hnc142 := NB326_327.out
                 have hnb143 := NB327_328.out
                 have hnc143 := NB328_327.out
                 have hcz144_0 : wc.cell? ⟨gb327, 0, none⟩ = some (.int .i64 a2_0) := (blk_cell BK327.out 0).trans rfl
                 have hcz144_1 : wc.cell? ⟨gb327, 1, none⟩ = some (.int .i64 a2_1) := (blk_cell BK327.out 1).trans rfl
                 have hfz144_0 := blk_frozen BK327.out 0
                 have hfz144_1 := blk_frozen BK327.out 1
                 have hnb145 := NB326_328.out
                 have hnc145 := NB328_326.out
                 have hcz146_0 : wc.cell? ⟨gb326, 0, none⟩ = some (.int .i64 a1_0) := (blk_cell BK326.out 0).trans rfl
                 have hcz146_1 : wc.cell? ⟨gb326, 1, none⟩ = some (.int .i64 a1_1) := (blk_cell BK326.out 1).trans rfl
                 have hfz146_0 := blk_frozen BK326.out 0
                 have hfz146_1 := blk_frozen BK326.out 1
                 go_wp2_with (first | (go_at_call 77; (with_reducible refine (r8_Less.calls kj31 a2_0 a2_1 a1_0 a1_1 t362 _ A140.out).mono ?_); rintro e w147 ⟨rfl, hb⟩; have n0_ := Sd.mk (blk_below (g := gb326) (o := .cells #[.int .i64 a1_0, .int .i64 a1_1] 25 (0, 0)) (by exact blkF BK326.out) hb); have n1_ := Sd.mk (blk_below (g := gb327) (o := .cells #[.int .i64 a2_0, .int .i64 a2_1] 25 (0, 0)) (by exact blkF BK327.out) hb); have n2_ := Sd.mk (blk_below (g := gb328) (o := .cells #[.int .i64 0, .int .i64 0] 25 (0, 0)) (by exact blkF BK328.out) hb); have n3_ := Sd.mk (below_step (by repeat (first | (with_reducible first | exact HB.out | apply bal | apply pbd | apply bd1 | refine bst ?_ GE326.out | refine bst ?_ GE327.out | refine bst ?_ GE328.out) | exact HB.out)) hb); clear BK326; clear BK327; clear BK328; clear HB; have BK326 := n0_; have BK327 := n1_; have BK328 := n2_; have HB := n3_; clear n0_ n1_ n2_ n3_; (try clear hb); (try clear hb2); (try clear hk); (try clear hi)) | ((with_reducible refine gate_callee (f := 22) rfl ?_); refine goesL_ (some 106) rfl rfl Tryz.func22 (by kernel_rfl) rfl #[.bool (!t362)] rfl (by (try simp only [List.map_toArray, List.map_cons, List.map_nil]); first | done | rfl | (simp only [List.length_drop, List.length_take]; rfl)) ?_; (with_reducible refine (r8_Truth.calls (!t362) t363 t364 _ A141.out).mono ?_); rintro e w148 ⟨rfl, hb⟩; refine ⟨_, rfl, ?_⟩; have n0_ := Sd.mk (blk_below (g := gb326) (o := .cells #[.int .i64 a1_0, .int .i64 a1_1] 25 (0, 0)) (by exact blkF BK326.out) hb); have n1_ := Sd.mk (blk_below (g := gb327) (o := .cells #[.int .i64 a2_0, .int .i64 a2_1] 25 (0, 0)) (by exact blkF BK327.out) hb); have n2_ := Sd.mk (blk_below (g := gb328) (o := .cells #[.int .i64 0, .int .i64 0] 25 (0, 0)) (by exact blkF BK328.out) hb); have n3_ := Sd.mk (below_step (by repeat (first | (with_reducible first | exact HB.out | apply bal | apply pbd | apply bd1 | refine bst ?_ GE326.out | refine bst ?_ GE327.out | refine bst ?_ GE328.out) | exact HB.out)) hb); clear BK326; clear BK327; clear BK328; clear HB; have BK326 := n0_; have BK327 := n1_; have BK328 := n2_; have HB := n3_; clear n0_ n1_ n2_ n3_; (try clear hb); (try clear hb2); (try clear hk); (try clear hi); have hcz149_0 : w148.cell? ⟨gb328, 0, none⟩ = some (.int .i64 0) := (blk_cell BK328.out 0).trans rfl; have hcz149_1 : w148.cell? ⟨gb328, 1, none⟩ = some (.int .i64 0) := (blk_cell BK328.out 1).trans rfl; have hfz149_0 := blk_frozen BK328.out 0; have hfz149_1 := blk_frozen BK328.out 1))
                 refine bodyPost_ret (results_ct rfl _ _ gb328 25 #[.int .i64 t363, .int .i64 t364] (0, 0) _ rfl (by (with_reducible repeat (first | refine blk_drewN ?_ _ | refine blk_drew ?_ | refine blk_alloc ?_ _)); refine blk_put (cs := #[.int .i64 t363, .int .i64 0]) ?_ 1 _ rfl; (with_reducible repeat (first | refine blk_drewN ?_ _ | refine blk_drew ?_ | refine blk_alloc ?_ _)); refine blk_put (cs := #[.int .i64 0, .int .i64 0]) ?_ 0 _ rfl; (with_reducible repeat (first | refine blk_drewN ?_ _ | refine blk_drew ?_ | refine blk_alloc ?_ _)); exact BK328.out) Tryz.underlying25 rfl (by kernel_rfl)) rfl ?_
                 exact ⟨by first | rfl | (simp [errW_none, errW_some] <;> rfl) | (simp [*, errW_none, errW_some] <;> rfl), by repeat (first | (with_reducible first | exact HB.out | apply bal | apply pbd | apply bd1 | refine bst ?_ GE326.out | refine bst ?_ GE327.out | refine bst ?_ GE328.out) | exact HB.out)⟩
               ·rw [if_neg c133] at H
                have c133b0 : (a0.toList == ([60, 61] : List UInt8)) = false := beq_eq_false_iff_ne.mpr c133
                have c133b1 : (a0.toList != ([60, 61] : List UInt8)) = true := bne_iff_ne.mpr c133
                by_cases c150 : a0.toList = ([62] : List UInt8)
                ·rw [if_pos c150] at H
                 have c150b0 : (a0.toList == ([62] : List UInt8)) = true := beq_iff_eq.mpr c150
                 have c150b1 : (a0.toList != ([62] : List UInt8)) = false := bne_eq_false_iff_eq.mpr c150
                 clear c150
                 by_cases c151 : x11_31 = true
                 ·subst c151
                  have H1 : ((r8_Truth.f false).bind fun bt365 => (some (bt365.1, bt365.2, true))) = some (r1, r2, r3) := by rw [if_pos rfl] at H; exact H
                  clear H
                  have H := H1
                  clear H1
                  replace H := Option.bind_eq_some_iff.mp H
                  obtain ⟨⟨t365, t366⟩, A1520, H⟩ := H
                  replace H : (some (t365, t366, true)) = some (r1, r2, r3) := H
                  have A152 := Sd.mk A1520
                  clear A1520
                  simp only [Option.some.injEq, Prod.mk.injEq] at H
                  obtain ⟨rfl, rfl, rfl⟩ := H
                  go_wp2_with (first | ((with_reducible refine gate_callee (f := 22) rfl ?_); refine goesL_ (some 116) rfl rfl Tryz.func22 (by kernel_rfl) rfl #[.bool false] rfl (by (try simp only [List.map_toArray, List.map_cons, List.map_nil]); first | done | rfl | (simp only [List.length_drop, List.length_take]; rfl)) ?_; (with_reducible refine (r8_Truth.calls false t365 t366 _ A152.out).mono ?_); rintro e w153 ⟨rfl, hb⟩; refine ⟨_, rfl, ?_⟩; have n0_ := Sd.mk (blk_below (g := gb326) (o := .cells #[.int .i64 a1_0, .int .i64 a1_1] 25 (0, 0)) (by exact blkF BK326.out) hb); have n1_ := Sd.mk (blk_below (g := gb327) (o := .cells #[.int .i64 a2_0, .int .i64 a2_1] 25 (0, 0)) (by exact blkF BK327.out) hb); have n2_ := Sd.mk (blk_below (g := gb328) (o := .cells #[.int .i64 0, .int .i64 0] 25 (0, 0)) (by exact blkF BK328.out) hb); have n3_ := Sd.mk (below_step (by repeat (first | (with_reducible first | exact HB.out | apply bal | apply pbd | apply bd1 | refine bst ?_ GE326.out | refine bst ?_ GE327.out | refine bst ?_ GE328.out) | exact HB.out)) hb); clear BK326; clear BK327; clear BK328; clear HB; have BK326 := n0_; have BK327 := n1_; have BK328 := n2_; have HB := n3_; clear n0_ n1_ n2_ n3_; (try clear hb); (try clear hb2); (try clear hk); (try clear hi); have hnb154 := NB328_326.out; have hnc154 := NB326_328.out; have hnb155 := NB328_327.out; have hnc155 := NB327_328.out; have hcz156_0 : w153.cell? ⟨gb328, 0, none⟩ = some (.int .i64 0) := (blk_cell BK328.out 0).trans rfl; have hcz156_1 : w153.cell? ⟨gb328, 1, none⟩ = some (.int .i64 0) := (blk_cell BK328.out 1).trans rfl; have hfz156_0 := blk_frozen BK328.out 0; have hfz156_1 := blk_frozen BK328.out 1))
                  refine bodyPost_ret (results_ct rfl _ _ gb328 25 #[.int .i64 t365, .int .i64 t366] (0, 0) _ rfl (by (with_reducible repeat (first | refine blk_drewN ?_ _ | refine blk_drew ?_ | refine blk_alloc ?_ _)); refine blk_put (cs := #[.int .i64 t365, .int .i64 0]) ?_ 1 _ rfl; (with_reducible repeat (first | refine blk_drewN ?_ _ | refine blk_drew ?_ | refine blk_alloc ?_ _)); refine blk_put (cs := #[.int .i64 0, .int .i64 0]) ?_ 0 _ rfl; (with_reducible repeat (first | refine blk_drewN ?_ _ | refine blk_drew ?_ | refine blk_alloc ?_ _)); exact BK328.out) Tryz.underlying25 rfl (by kernel_rfl)) rfl ?_
                  exact ⟨by first | rfl | (simp [errW_none, errW_some] <;> rfl) | (simp [*, errW_none, errW_some] <;> rfl), by repeat (first | (with_reducible first | exact HB.out | apply bal | apply pbd | apply bd1 | refine bst ?_ GE326.out | refine bst ?_ GE327.out | refine bst ?_ GE328.out) | exact HB.out)⟩
                 ·replace c151 := Bool.eq_false_iff.mpr c151
                  subst c151
                  have H1 : ((r8_Less.f kj31 a2_0 a2_1 a1_0 a1_1).bind fun t367 => ((r8_Truth.f t367).bind fun bt368 => (some (bt368.1, bt368.2, true)))) = some (r1, r2, r3) := by rw [if_neg (show ¬ (false = true) by decide)] at H; exact H
                  clear H
                  have H := H1
                  clear H1
                  replace H := Option.bind_eq_some_iff.mp H
                  obtain ⟨t367, A1570, H⟩ := H
                  replace H : ((r8_Truth.f t367).bind fun bt368 => (some (bt368.1, bt368.2, true))) = some (r1, r2, r3) := H
                  have A157 := Sd.mk A1570
                  clear A1570
                  replace H := Option.bind_eq_some_iff.mp H
                  obtain ⟨⟨t368, t369⟩, A1580, H⟩ := H
                  replace H : (some (t368, t369, true)) = some (r1, r2, r3) := H
                  have A158 := Sd.mk A1580
                  clear A1580
                  simp only [Option.some.injEq, Prod.mk.injEq] at H
                  obtain ⟨rfl, rfl, rfl⟩ := H
                  have hnb159 := NB327_326.out
                  have hnc159 := NB326_327.out
                  have hnb160 := NB327_328.out
                  have hnc160 := NB328_327.out
                  have hcz161_0 : wc.cell? ⟨gb327, 0, none⟩ = some (.int .i64 a2_0) := (blk_cell BK327.out 0).trans rfl
                  have hcz161_1 : wc.cell? ⟨gb327, 1, none⟩ = some (.int .i64 a2_1) := (blk_cell BK327.out 1).trans rfl
                  have hfz161_0 := blk_frozen BK327.out 0
                  have hfz161_1 := blk_frozen BK327.out 1
                  have hnb162 := NB326_328.out
                  have hnc162 := NB328_326.out
                  have hcz163_0 : wc.cell? ⟨gb326, 0, none⟩ = some (.int .i64 a1_0) := (blk_cell BK326.out 0).trans rfl
                  have hcz163_1 : wc.cell? ⟨gb326, 1, none⟩ = some (.int .i64 a1_1) := (blk_cell BK326.out 1).trans rfl
                  have hfz163_0 := blk_frozen BK326.out 0
                  have hfz163_1 := blk_frozen BK326.out 1
                  go_wp2_with (first | (go_at_call 77; (with_reducible refine (r8_Less.calls kj31 a2_0 a2_1 a1_0 a1_1 t367 _ A157.out).mono ?_); rintro e w164 ⟨rfl, hb⟩; have n0_ := Sd.mk (blk_below (g := gb326) (o := .cells #[.int .i64 a1_0, .int .i64 a1_1] 25 (0, 0)) (by exact blkF BK326.out) hb); have n1_ := Sd.mk (blk_below (g := gb327) (o := .cells #[.int .i64 a2_0, .int .i64 a2_1] 25 (0, 0)) (by exact blkF BK327.out) hb); have n2_ := Sd.mk (blk_below (g := gb328) (o := .cells #[.int .i64 0, .int .i64 0] 25 (0, 0)) (by exact blkF BK328.out) hb); have n3_ := Sd.mk (below_step (by repeat (first | (with_reducible first | exact HB.out | apply bal | apply pbd | apply bd1 | refine bst ?_ GE326.out | refine bst ?_ GE327.out | refine bst ?_ GE328.out) | exact HB.out)) hb); clear BK326; clear BK327; clear BK328; clear HB; have BK326 := n0_; have BK327 := n1_; have BK328 := n2_; have HB := n3_; clear n0_ n1_ n2_ n3_; (try clear hb); (try clear hb2); (try clear hk); (try clear hi)) | ((with_reducible refine gate_callee (f := 22) rfl ?_); refine goesL_ (some 116) rfl rfl Tryz.func22 (by kernel_rfl) rfl #[.bool t367] rfl (by (try simp only [List.map_toArray, List.map_cons, List.map_nil]); first | done | rfl | (simp only [List.length_drop, List.length_take]; rfl)) ?_; (with_reducible refine (r8_Truth.calls t367 t368 t369 _ A158.out).mono ?_); rintro e w165 ⟨rfl, hb⟩; refine ⟨_, rfl, ?_⟩; have n0_ := Sd.mk (blk_below (g := gb326) (o := .cells #[.int .i64 a1_0, .int .i64 a1_1] 25 (0, 0)) (by exact blkF BK326.out) hb); have n1_ := Sd.mk (blk_below (g := gb327) (o := .cells #[.int .i64 a2_0, .int .i64 a2_1] 25 (0, 0)) (by exact blkF BK327.out) hb); have n2_ := Sd.mk (blk_below (g := gb328) (o := .cells #[.int .i64 0, .int .i64 0] 25 (0, 0)) (by exact blkF BK328.out) hb); have n3_ := Sd.mk (below_step (by repeat (first | (with_reducible first | exact HB.out | apply bal | apply pbd | apply bd1 | refine bst ?_ GE326.out | refine bst ?_ GE327.out | refine bst ?_ GE328.out) | exact HB.out)) hb); clear BK326; clear BK327; clear BK328; clear HB; have BK326 := n0_; have BK327 := n1_; have BK328 := n2_; have HB := n3_; clear n0_ n1_ n2_ n3_; (try clear hb); (try clear hb2); (try clear hk); (try clear hi); have hcz166_0 : w165.cell? ⟨gb328, 0, none⟩ = some (.int .i64 0) := (blk_cell BK328.out 0).trans rfl; have hcz166_1 : w165.cell? ⟨gb328, 1, none⟩ = some (.int .i64 0) := (blk_cell BK328.out 1).trans rfl; have hfz166_0 := blk_frozen BK328.out 0; have hfz166_1 := blk_frozen BK328.out 1))
                  refine bodyPost_ret (results_ct rfl _ _ gb328 25 #[.int .i64 t368, .int .i64 t369] (0, 0) _ rfl (by (with_reducible repeat (first | refine blk_drewN ?_ _ | refine blk_drew ?_ | refine blk_alloc ?_ _)); refine blk_put (cs := #[.int .i64 t368, .int .i64 0]) ?_ 1 _ rfl; (with_reducible repeat (first | refine blk_drewN ?_ _ | refine blk_drew ?_ | refine blk_alloc ?_ _)); refine blk_put (cs := #[.int .i64 0, .int .i64 0]) ?_ 0 _ rfl; (with_reducible repeat (first | refine blk_drewN ?_ _ | refine blk_drew ?_ | refine blk_alloc ?_ _)); exact BK328.out) Tryz.underlying25 rfl (by kernel_rfl)) rfl ?_
                  exact ⟨by first | rfl | (simp [errW_none, errW_some] <;> rfl) | (simp [*, errW_none, errW_some] <;> rfl), by repeat (first | (with_reducible first | exact HB.out | apply bal | apply pbd | apply bd1 | refine bst ?_ GE326.out | refine bst ?_ GE327.out | refine bst ?_ GE328.out) | exact HB.out)⟩
                ·rw [if_neg c150] at H
                 have c150b0 : (a0.toList == ([62] : List UInt8)) = false := beq_eq_false_iff_ne.mpr c150
                 have c150b1 : (a0.toList != ([62] : List UInt8)) = true := bne_iff_ne.mpr c150
                 by_cases c167 : a0.toList = ([62, 61] : List UInt8)
                 ·rw [if_pos c167] at H
                  have c167b0 : (a0.toList == ([62, 61] : List UInt8)) = true := beq_iff_eq.mpr c167
                  have c167b1 : (a0.toList != ([62, 61] : List UInt8)) = false := bne_eq_false_iff_eq.mpr c167
                  clear c167
                  by_cases c168 : x11_31 = true
                  ·subst c168
                   have H1 : ((r8_Truth.f false).bind fun bt370 => (some (bt370.1, bt370.2, true))) = some (r1, r2, r3) := by rw [if_pos rfl] at H; exact H
                   clear H
                   have H := H1
                   clear H1
                   replace H := Option.bind_eq_some_iff.mp H
                   obtain ⟨⟨t370, t371⟩, A1690, H⟩ := H
                   replace H : (some (t370, t371, true)) = some (r1, r2, r3) := H
                   have A169 := Sd.mk A1690
                   clear A1690
                   simp only [Option.some.injEq, Prod.mk.injEq] at H
                   obtain ⟨rfl, rfl, rfl⟩ := H
                   go_wp2_with (first | ((with_reducible refine gate_callee (f := 22) rfl ?_); refine goesL_ (some 127) rfl rfl Tryz.func22 (by kernel_rfl) rfl #[.bool false] rfl (by (try simp only [List.map_toArray, List.map_cons, List.map_nil]); first | done | rfl | (simp only [List.length_drop, List.length_take]; rfl)) ?_; (with_reducible refine (r8_Truth.calls false t370 t371 _ A169.out).mono ?_); rintro e w170 ⟨rfl, hb⟩; refine ⟨_, rfl, ?_⟩; have n0_ := Sd.mk (blk_below (g := gb326) (o := .cells #[.int .i64 a1_0, .int .i64 a1_1] 25 (0, 0)) (by exact blkF BK326.out) hb); have n1_ := Sd.mk (blk_below (g := gb327) (o := .cells #[.int .i64 a2_0, .int .i64 a2_1] 25 (0, 0)) (by exact blkF BK327.out) hb); have n2_ := Sd.mk (blk_below (g := gb328) (o := .cells #[.int .i64 0, .int .i64 0] 25 (0, 0)) (by exact blkF BK328.out) hb); have n3_ := Sd.mk (below_step (by repeat (first | (with_reducible first | exact HB.out | apply bal | apply pbd | apply bd1 | refine bst ?_ GE326.out | refine bst ?_ GE327.out | refine bst ?_ GE328.out) | exact HB.out)) hb); clear BK326; clear BK327; clear BK328; clear HB; have BK326 := n0_; have BK327 := n1_; have BK328 := n2_; have HB := n3_; clear n0_ n1_ n2_ n3_; (try clear hb); (try clear hb2); (try clear hk); (try clear hi); have hnb171 := NB328_326.out; have hnc171 := NB326_328.out; have hnb172 := NB328_327.out; have hnc172 := NB327_328.out; have hcz173_0 : w170.cell? ⟨gb328, 0, none⟩ = some (.int .i64 0) := (blk_cell BK328.out 0).trans rfl; have hcz173_1 : w170.cell? ⟨gb328, 1, none⟩ = some (.int .i64 0) := (blk_cell BK328.out 1).trans rfl; have hfz173_0 := blk_frozen BK328.out 0; have hfz173_1 := blk_frozen BK328.out 1))
                   refine bodyPost_ret (results_ct rfl _ _ gb328 25 #[.int .i64 t370, .int .i64 t371] (0, 0) _ rfl (by (with_reducible repeat (first | refine blk_drewN ?_ _ | refine blk_drew ?_ | refine blk_alloc ?_ _)); refine blk_put (cs := #[.int .i64 t370, .int .i64 0]) ?_ 1 _ rfl; (with_reducible repeat (first | refine blk_drewN ?_ _ | refine blk_drew ?_ | refine blk_alloc ?_ _)); refine blk_put (cs := #[.int .i64 0, .int .i64 0]) ?_ 0 _ rfl; (with_reducible repeat (first | refine blk_drewN ?_ _ | refine blk_drew ?_ | refine blk_alloc ?_ _)); exact BK328.out) Tryz.underlying25 rfl (by kernel_rfl)) rfl ?_
                   exact ⟨by first | rfl | (simp [errW_none, errW_some] <;> rfl) | (simp [*, errW_none, errW_some] <;> rfl), by repeat (first | (with_reducible first | exact HB.out | apply bal | apply pbd | apply bd1 | refine bst ?_ GE326.out | refine bst ?_ GE327.out | refine bst ?_ GE328.out) | exact HB.out)⟩
                  ·replace c168 := Bool.eq_false_iff.mpr c168
                   subst c168
                   have H1 : ((r8_Less.f kj31 a1_0 a1_1 a2_0 a2_1).bind fun t372 => ((r8_Truth.f (!t372)).bind fun bt373 => (some (bt373.1, bt373.2, true)))) = some (r1, r2, r3) := by rw [if_neg (show ¬ (false = true) by decide)] at H; exact H
                   clear H
                   have H := H1
                   clear H1
                   replace H := Option.bind_eq_some_iff.mp H
                   obtain ⟨t372, A1740, H⟩ := H
                   replace H : ((r8_Truth.f (!t372)).bind fun bt373 => (some (bt373.1, bt373.2, true))) = some (r1, r2, r3) := H
                   have A174 := Sd.mk A1740
                   clear A1740
                   replace H := Option.bind_eq_some_iff.mp H
                   obtain ⟨⟨t373, t374⟩, A1750, H⟩ := H
                   replace H : (some (t373, t374, true)) = some (r1, r2, r3) := H
                   have A175 := Sd.mk A1750
                   clear A1750
                   simp only [Option.some.injEq, Prod.mk.injEq] at H
                   obtain ⟨rfl, rfl, rfl⟩ := H
                   have hnb176 := NB326_327.out
                   have hnc176 := NB327_326.out
                   have hnb177 := NB326_328.out
                   have hnc177 := NB328_326.out
                   have hcz178_0 : wc.cell? ⟨gb326, 0, none⟩ = some (.int .i64 a1_0) := (blk_cell BK326.out 0).trans rfl
                   have hcz178_1 : wc.cell? ⟨gb326, 1, none⟩ = some (.int .i64 a1_1) := (blk_cell BK326.out 1).trans rfl
                   have hfz178_0 := blk_frozen BK326.out 0
                   have hfz178_1 := blk_frozen BK326.out 1
                   have hnb179 := NB327_328.out
                   have hnc179 := NB328_327.out
                   have hcz180_0 : wc.cell? ⟨gb327, 0, none⟩ = some (.int .i64 a2_0) := (blk_cell BK327.out 0).trans rfl
                   have hcz180_1 : wc.cell? ⟨gb327, 1, none⟩ = some (.int .i64 a2_1) := (blk_cell BK327.out 1).trans rfl
                   have hfz180_0 := blk_frozen BK327.out 0
                   have hfz180_1 := blk_frozen BK327.out 1
                   go_wp2_with (first | (go_at_call 77; (with_reducible refine (r8_Less.calls kj31 a1_0 a1_1 a2_0 a2_1 t372 _ A174.out).mono ?_); rintro e w181 ⟨rfl, hb⟩; have n0_ := Sd.mk (blk_below (g := gb326) (o := .cells #[.int .i64 a1_0, .int .i64 a1_1] 25 (0, 0)) (by exact blkF BK326.out) hb); have n1_ := Sd.mk (blk_below (g := gb327) (o := .cells #[.int .i64 a2_0, .int .i64 a2_1] 25 (0, 0)) (by exact blkF BK327.out) hb); have n2_ := Sd.mk (blk_below (g := gb328) (o := .cells #[.int .i64 0, .int .i64 0] 25 (0, 0)) (by exact blkF BK328.out) hb); have n3_ := Sd.mk (below_step (by repeat (first | (with_reducible first | exact HB.out | apply bal | apply pbd | apply bd1 | refine bst ?_ GE326.out | refine bst ?_ GE327.out | refine bst ?_ GE328.out) | exact HB.out)) hb); clear BK326; clear BK327; clear BK328; clear HB; have BK326 := n0_; have BK327 := n1_; have BK328 := n2_; have HB := n3_; clear n0_ n1_ n2_ n3_; (try clear hb); (try clear hb2); (try clear hk); (try clear hi)) | ((with_reducible refine gate_callee (f := 22) rfl ?_); refine goesL_ (some 127) rfl rfl Tryz.func22 (by kernel_rfl) rfl #[.bool (!t372)] rfl (by (try simp only [List.map_toArray, List.map_cons, List.map_nil]); first | done | rfl | (simp only [List.length_drop, List.length_take]; rfl)) ?_; (with_reducible refine (r8_Truth.calls (!t372) t373 t374 _ A175.out).mono ?_); rintro e w182 ⟨rfl, hb⟩; refine ⟨_, rfl, ?_⟩; have n0_ := Sd.mk (blk_below (g := gb326) (o := .cells #[.int .i64 a1_0, .int .i64 a1_1] 25 (0, 0)) (by exact blkF BK326.out) hb); have n1_ := Sd.mk (blk_below (g := gb327) (o := .cells #[.int .i64 a2_0, .int .i64 a2_1] 25 (0, 0)) (by exact blkF BK327.out) hb); have n2_ := Sd.mk (blk_below (g := gb328) (o := .cells #[.int .i64 0, .int .i64 0] 25 (0, 0)) (by exact blkF BK328.out) hb); have n3_ := Sd.mk (below_step (by repeat (first | (with_reducible first | exact HB.out | apply bal | apply pbd | apply bd1 | refine bst ?_ GE326.out | refine bst ?_ GE327.out | refine bst ?_ GE328.out) | exact HB.out)) hb); clear BK326; clear BK327; clear BK328; clear HB; have BK326 := n0_; have BK327 := n1_; have BK328 := n2_; have HB := n3_; clear n0_ n1_ n2_ n3_; (try clear hb); (try clear hb2); (try clear hk); (try clear hi); have hcz183_0 : w182.cell? ⟨gb328, 0, none⟩ = some (.int .i64 0) := (blk_cell BK328.out 0).trans rfl; have hcz183_1 : w182.cell? ⟨gb328, 1, none⟩ = some (.int .i64 0) := (blk_cell BK328.out 1).trans rfl; have hfz183_0 := blk_frozen BK328.out 0; have hfz183_1 := blk_frozen BK328.out 1))
                   refine bodyPost_ret (results_ct rfl _ _ gb328 25 #[.int .i64 t373, .int .i64 t374] (0, 0) _ rfl (by (with_reducible repeat (first | refine blk_drewN ?_ _ | refine blk_drew ?_ | refine blk_alloc ?_ _)); refine blk_put (cs := #[.int .i64 t373, .int .i64 0]) ?_ 1 _ rfl; (with_reducible repeat (first | refine blk_drewN ?_ _ | refine blk_drew ?_ | refine blk_alloc ?_ _)); refine blk_put (cs := #[.int .i64 0, .int .i64 0]) ?_ 0 _ rfl; (with_reducible repeat (first | refine blk_drewN ?_ _ | refine blk_drew ?_ | refine blk_alloc ?_ _)); exact BK328.out) Tryz.underlying25 rfl (by kernel_rfl)) rfl ?_
                   exact ⟨by first | rfl | (simp [errW_none, errW_some] <;> rfl) | (simp [*, errW_none, errW_some] <;> rfl), by repeat (first | (with_reducible first | exact HB.out | apply bal | apply pbd | apply bd1 | refine bst ?_ GE326.out | refine bst ?_ GE327.out | refine bst ?_ GE328.out) | exact HB.out)⟩
                 ·rw [if_neg c167] at H
                  have c167b0 : (a0.toList == ([62, 61] : List UInt8)) = false := beq_eq_false_iff_ne.mpr c167
                  have c167b1 : (a0.toList != ([62, 61] : List UInt8)) = true := bne_iff_ne.mpr c167
                  by_cases c184 : x11_31 = true
                  ·subst c184
                   have H1 : ((r8_NaN.f).bind fun bt375 => (some (bt375.1, bt375.2, true))) = some (r1, r2, r3) := by rw [if_pos rfl] at H; exact H
                   clear H
                   have H := H1
                   clear H1
                   replace H := Option.bind_eq_some_iff.mp H
                   obtain ⟨⟨t375, t376⟩, A1850, H⟩ := H
                   replace H : (some (t375, t376, true)) = some (r1, r2, r3) := H
                   have A185 := Sd.mk A1850
                   clear A1850
                   simp only [Option.some.injEq, Prod.mk.injEq] at H
                   obtain ⟨rfl, rfl, rfl⟩ := H
                   go_wp2_with (first | ((with_reducible refine gate_callee (f := 26) rfl ?_); refine goesL_ (some 129) rfl rfl Tryz.func26 (by kernel_rfl) rfl #[] rfl (by (try simp only [List.map_toArray, List.map_cons, List.map_nil]); first | done | rfl | (simp only [List.length_drop, List.length_take]; rfl)) ?_; (with_reducible refine (r8_NaN.calls  t375 t376 _ A185.out).mono ?_); rintro e w186 ⟨rfl, hb⟩; refine ⟨_, rfl, ?_⟩; have n0_ := Sd.mk (blk_below (g := gb326) (o := .cells #[.int .i64 a1_0, .int .i64 a1_1] 25 (0, 0)) (by exact blkF BK326.out) hb); have n1_ := Sd.mk (blk_below (g := gb327) (o := .cells #[.int .i64 a2_0, .int .i64 a2_1] 25 (0, 0)) (by exact blkF BK327.out) hb); have n2_ := Sd.mk (blk_below (g := gb328) (o := .cells #[.int .i64 0, .int .i64 0] 25 (0, 0)) (by exact blkF BK328.out) hb); have n3_ := Sd.mk (below_step (by repeat (first | (with_reducible first | exact HB.out | apply bal | apply pbd | apply bd1 | refine bst ?_ GE326.out | refine bst ?_ GE327.out | refine bst ?_ GE328.out) | exact HB.out)) hb); clear BK326; clear BK327; clear BK328; clear HB; have BK326 := n0_; have BK327 := n1_; have BK328 := n2_; have HB := n3_; clear n0_ n1_ n2_ n3_; (try clear hb); (try clear hb2); (try clear hk); (try clear hi); have hnb187 := NB328_326.out; have hnc187 := NB326_328.out; have hnb188 := NB328_327.out; have hnc188 := NB327_328.out; have hcz189_0 : w186.cell? ⟨gb328, 0, none⟩ = some (.int .i64 0) := (blk_cell BK328.out 0).trans rfl; have hcz189_1 : w186.cell? ⟨gb328, 1, none⟩ = some (.int .i64 0) := (blk_cell BK328.out 1).trans rfl; have hfz189_0 := blk_frozen BK328.out 0; have hfz189_1 := blk_frozen BK328.out 1))
                   refine bodyPost_ret (results_ct rfl _ _ gb328 25 #[.int .i64 t375, .int .i64 t376] (0, 0) _ rfl (by (with_reducible repeat (first | refine blk_drewN ?_ _ | refine blk_drew ?_ | refine blk_alloc ?_ _)); refine blk_put (cs := #[.int .i64 t375, .int .i64 0]) ?_ 1 _ rfl; (with_reducible repeat (first | refine blk_drewN ?_ _ | refine blk_drew ?_ | refine blk_alloc ?_ _)); refine blk_put (cs := #[.int .i64 0, .int .i64 0]) ?_ 0 _ rfl; (with_reducible repeat (first | refine blk_drewN ?_ _ | refine blk_drew ?_ | refine blk_alloc ?_ _)); exact BK328.out) Tryz.underlying25 rfl (by kernel_rfl)) rfl ?_
                   exact ⟨by first | rfl | (simp [errW_none, errW_some] <;> rfl) | (simp [*, errW_none, errW_some] <;> rfl), by repeat (first | (with_reducible first | exact HB.out | apply bal | apply pbd | apply bd1 | refine bst ?_ GE326.out | refine bst ?_ GE327.out | refine bst ?_ GE328.out) | exact HB.out)⟩
                  ·replace c184 := Bool.eq_false_iff.mpr c184
                   subst c184
                   have H1 : (if a0.toList = ([43] : List UInt8) then ((r8_add.f kj31 a1_0 a1_1 a2_0 a2_1).bind fun bt377 => (some (bt377.1, bt377.2, true))) else (if a0.toList = ([45] : List UInt8) then ((r8_turned.f a2_0 a2_1).bind fun bt379 => ((r8_add.f kj31 a1_0 a1_1 bt379.1 bt379.2).bind fun bt381 => (some (bt381.1, bt381.2, true)))) else (if a0.toList = ([42] : List UInt8) then ((r8_times.f kj31 a1_0 a1_1 a2_0 a2_1).bind fun bt383 => (some (bt383.1, bt383.2, true))) else ((r8_over.f kj31 a1_0 a1_1 a2_0 a2_1).bind fun bt385 => (some (bt385.1, bt385.2, true)))))) = some (r1, r2, r3) := by rw [if_neg (show ¬ (false = true) by decide)] at H; exact H
                   clear H
                   have H := H1
                   clear H1
                   by_cases c190 : a0.toList = ([43] : List UInt8)
                   ·rw [if_pos c190] at H
                    have c190b0 : (a0.toList == ([43] : List UInt8)) = true := beq_iff_eq.mpr c190
                    have c190b1 : (a0.toList != ([43] : List UInt8)) = false := bne_eq_false_iff_eq.mpr c190
                    clear c190
                    replace H := Option.bind_eq_some_iff.mp H
                    obtain ⟨⟨t377, t378⟩, A1910, H⟩ := H
                    replace H : (some (t377, t378, true)) = some (r1, r2, r3) := H
                    have A191 := Sd.mk A1910
                    clear A1910
                    simp only [Option.some.injEq, Prod.mk.injEq] at H
                    obtain ⟨rfl, rfl, rfl⟩ := H
                    have hnb192 := NB326_327.out
                    have hnc192 := NB327_326.out
                    have hnb193 := NB326_328.out
                    have hnc193 := NB328_326.out
                    have hcz194_0 : wc.cell? ⟨gb326, 0, none⟩ = some (.int .i64 a1_0) := (blk_cell BK326.out 0).trans rfl
                    have hcz194_1 : wc.cell? ⟨gb326, 1, none⟩ = some (.int .i64 a1_1) := (blk_cell BK326.out 1).trans rfl
                    have hfz194_0 := blk_frozen BK326.out 0
                    have hfz194_1 := blk_frozen BK326.out 1
                    have hnb195 := NB327_328.out
                    have hnc195 := NB328_327.out
                    have hcz196_0 : wc.cell? ⟨gb327, 0, none⟩ = some (.int .i64 a2_0) := (blk_cell BK327.out 0).trans rfl
                    have hcz196_1 : wc.cell? ⟨gb327, 1, none⟩ = some (.int .i64 a2_1) := (blk_cell BK327.out 1).trans rfl
                    have hfz196_0 := blk_frozen BK327.out 0
                    have hfz196_1 := blk_frozen BK327.out 1
                    go_wp2_with (first | ((with_reducible refine gate_callee (f := 78) rfl ?_); refine goesL_ (some 135) rfl rfl Tryz.func78 (by kernel_rfl) rfl #[.agg #[.int .i64 a1_0, .int .i64 a1_1], .agg #[.int .i64 a2_0, .int .i64 a2_1]] rfl (by (try simp only [List.map_toArray, List.map_cons, List.map_nil]); first | done | rfl | (simp only [List.length_drop, List.length_take]; rfl)) ?_; (with_reducible refine (r8_add.calls kj31 a1_0 a1_1 a2_0 a2_1 t377 t378 _ A191.out).mono ?_); rintro e w197 ⟨rfl, hb⟩; refine ⟨_, rfl, ?_⟩; have n0_ := Sd.mk (blk_below (g := gb326) (o := .cells #[.int .i64 a1_0, .int .i64 a1_1] 25 (0, 0)) (by exact blkF BK326.out) hb); have n1_ := Sd.mk (blk_below (g := gb327) (o := .cells #[.int .i64 a2_0, .int .i64 a2_1] 25 (0, 0)) (by exact blkF BK327.out) hb); have n2_ := Sd.mk (blk_below (g := gb328) (o := .cells #[.int .i64 0, .int .i64 0] 25 (0, 0)) (by exact blkF BK328.out) hb); have n3_ := Sd.mk (below_step (by repeat (first | (with_reducible first | exact HB.out | apply bal | apply pbd | apply bd1 | refine bst ?_ GE326.out | refine bst ?_ GE327.out | refine bst ?_ GE328.out) | exact HB.out)) hb); clear BK326; clear BK327; clear BK328; clear HB; have BK326 := n0_; have BK327 := n1_; have BK328 := n2_; have HB := n3_; clear n0_ n1_ n2_ n3_; (try clear hb); (try clear hb2); (try clear hk); (try clear hi); have hcz198_0 : w197.cell? ⟨gb328, 0, none⟩ = some (.int .i64 0) := (blk_cell BK328.out 0).trans rfl; have hcz198_1 : w197.cell? ⟨gb328, 1, none⟩ = some (.int .i64 0) := (blk_cell BK328.out 1).trans rfl; have hfz198_0 := blk_frozen BK328.out 0; have hfz198_1 := blk_frozen BK328.out 1))
                    refine bodyPost_ret (results_ct rfl _ _ gb328 25 #[.int .i64 t377, .int .i64 t378] (0, 0) _ rfl (by (with_reducible repeat (first | refine blk_drewN ?_ _ | refine blk_drew ?_ | refine blk_alloc ?_ _)); refine blk_put (cs := #[.int .i64 t377, .int .i64 0]) ?_ 1 _ rfl; (with_reducible repeat (first | refine blk_drewN ?_ _ | refine blk_drew ?_ | refine blk_alloc ?_ _)); refine blk_put (cs := #[.int .i64 0, .int .i64 0]) ?_ 0 _ rfl; (with_reducible repeat (first | refine blk_drewN ?_ _ | refine blk_drew ?_ | refine blk_alloc ?_ _)); exact BK328.out) Tryz.underlying25 rfl (by kernel_rfl)) rfl ?_
                    exact ⟨by first | rfl | (simp [errW_none, errW_some] <;> rfl) | (simp [*, errW_none, errW_some] <;> rfl), by repeat (first | (with_reducible first | exact HB.out | apply bal | apply pbd | apply bd1 | refine bst ?_ GE326.out | refine bst ?_ GE327.out | refine bst ?_ GE328.out) | exact HB.out)⟩
                   ·rw [if_neg c190] at H
                    have c190b0 : (a0.toList == ([43] : List UInt8)) = false := beq_eq_false_iff_ne.mpr c190
                    have c190b1 : (a0.toList != ([43] : List UInt8)) = true := bne_iff_ne.mpr c190
                    by_cases c199 : a0.toList = ([45] : List UInt8)
                    ·rw [if_pos c199] at H
                     have c199b0 : (a0.toList == ([45] : List UInt8)) = true := beq_iff_eq.mpr c199
                     have c199b1 : (a0.toList != ([45] : List UInt8)) = false := bne_eq_false_iff_eq.mpr c199
                     clear c199
                     replace H := Option.bind_eq_some_iff.mp H
                     obtain ⟨⟨t379, t380⟩, A2000, H⟩ := H
                     replace H : ((r8_add.f kj31 a1_0 a1_1 t379 t380).bind fun bt381 => (some (bt381.1, bt381.2, true))) = some (r1, r2, r3) := H
                     have A200 := Sd.mk A2000
                     clear A2000
                     replace H := Option.bind_eq_some_iff.mp H
                     obtain ⟨⟨t381, t382⟩, A2010, H⟩ := H
                     replace H : (some (t381, t382, true)) = some (r1, r2, r3) := H
                     have A201 := Sd.mk A2010
                     clear A2010
                     simp only [Option.some.injEq, Prod.mk.injEq] at H
                     obtain ⟨rfl, rfl, rfl⟩ := H
                     try go_wp2
                     have n0_ := Sd.mk (blk_drew BK326.out)
                     have n1_ := Sd.mk (blk_drew BK327.out)
                     have n2_ := Sd.mk (blk_drew BK328.out)
                     have n3_ := Sd.mk (bd1 HB.out)
                     clear BK326
                     clear BK327
                     clear BK328
                     clear HB
                     have BK326 := n0_
                     have BK327 := n1_
                     have BK328 := n2_
                     have HB := n3_
                     clear n0_ n1_ n2_ n3_
                     refine start_ (n := 6) (S := fun w' => w'.cell? ⟨gb326, 0, none⟩ = some (.int .i64 a1_0) ∧ w'.cell? ⟨gb326, 1, none⟩ = some (.int .i64 a1_1) ∧ w'.cell? ⟨gb327, 0, none⟩ = some (.int .i64 a2_0) ∧ w'.cell? ⟨gb327, 1, none⟩ = some (.int .i64 a2_1)) (ds := []) #[false, false, false, false, false, false] (by kernel_rfl) rfl rfl ⟨(blk_cell BK326.out 0).trans rfl, (blk_cell BK326.out 1).trans rfl, (blk_cell BK327.out 0).trans rfl, (blk_cell BK327.out 1).trans rfl⟩ (fun hHeld => ?_)
                     generalize wc.drew = w202 at BK326 BK327 BK328 HB hHeld ⊢
                     refine take_ (i := 0) (N := some 138) (v := ?_) (a' := ?_) #[true, false, false, false, false, false] rfl rfl (by kernel_rfl) (fun _ _ _ h => h) (Or.inl ⟨by rfl, ?_⟩) hHeld ?_ ?_
                     rotate_left
                     ·rintro w' ⟨s0, s1, s2, s3⟩
                      go_simp
                      with_reducible rfl
                     rotate_left
                     ·simp only [Act.put, List.setIfInBounds_toArray, List.set_cons_zero, List.set_cons_succ, i64_w, i32_w]
                      rfl
                     refine take_ (i := 1) (N := some 139) (v := ?_) (a' := ?_) #[true, true, false, false, false, false] rfl rfl (by kernel_rfl) (fun _ _ _ h => h) (Or.inl ⟨by rfl, ?_⟩) hHeld ?_ ?_
                     rotate_left
                     ·rintro w' ⟨s0, s1, s2, s3⟩
                      go_simp
                      with_reducible rfl
                     rotate_left
                     ·simp only [Act.put, List.setIfInBounds_toArray, List.set_cons_zero, List.set_cons_succ, i64_w, i32_w]
                      rfl
                     refine one_ (i := 2) (N := some 140) #[true, true, true, false, false, false] rfl rfl (by kernel_rfl) (by decide) (fun K hK => ?_)
                     refine goes_ Tryz.func76 (by kernel_rfl) rfl #[.agg #[.int .i64 a2_0, .int .i64 a2_1]] (by rfl) rfl rfl (by (try simp only [List.map_toArray, List.map_cons, List.map_nil]); first | done | rfl | (simp only [List.length_drop, List.length_take]; rfl)) ?_
                     with_reducible refine (r8_turned.calls a2_0 a2_1 t379 t380 _ A200.out).mono ?_
                     rintro e w203 ⟨rfl, hb⟩
                     refine ⟨_, rfl, ?_⟩
                     have n0_ := Sd.mk (blk_below (g := gb326) (o := .cells #[.int .i64 a1_0, .int .i64 a1_1] 25 (0, 0)) (by exact blkF BK326.out) hb)
                     have n1_ := Sd.mk (blk_below (g := gb327) (o := .cells #[.int .i64 a2_0, .int .i64 a2_1] 25 (0, 0)) (by exact blkF BK327.out) hb)
                     have n2_ := Sd.mk (blk_below (g := gb328) (o := .cells #[.int .i64 0, .int .i64 0] 25 (0, 0)) (by exact blkF BK328.out) hb)
                     have n3_ := Sd.mk (below_step (by repeat (first | (with_reducible first | exact HB.out | apply bal | apply pbd | apply bd1 | refine bst ?_ GE326.out | refine bst ?_ GE327.out | refine bst ?_ GE328.out) | exact HB.out)) hb)
                     clear BK326
                     clear BK327
                     clear BK328
                     clear HB
                     have BK326 := n0_
                     have BK327 := n1_
                     have BK328 := n2_
                     have HB := n3_
                     clear n0_ n1_ n2_ n3_
                     (try clear hb)
                     (try clear hb2)
                     (try clear hk)
                     (try clear hi)
                     refine hK.out _ _ ⟨(blk_cell BK326.out 0).trans rfl, (blk_cell BK326.out 1).trans rfl, (blk_cell BK327.out 0).trans rfl, (blk_cell BK327.out 1).trans rfl⟩ (fun hHeld => ?_)
                     clear hK K
                     refine norm_ (a' := ?_) ?_ ?_
                     rotate_left
                     ·show Act.put _ (some 140) _ = _
                      simp only [Act.put, List.setIfInBounds_toArray, List.set_cons_zero, List.set_cons_succ, i64_w, i32_w]
                      rfl
                     refine one_ (i := 3) (N := some 141) #[true, true, true, true, false, false] rfl rfl (by kernel_rfl) (by decide) (fun K hK => ?_)
                     refine goes_ Tryz.func78 (by kernel_rfl) rfl #[.agg #[.int .i64 a1_0, .int .i64 a1_1], .agg #[.int .i64 t379, .int .i64 t380]] (by rfl) rfl rfl (by (try simp only [List.map_toArray, List.map_cons, List.map_nil]); first | done | rfl | (simp only [List.length_drop, List.length_take]; rfl)) ?_
                     with_reducible refine (r8_add.calls kj31 a1_0 a1_1 t379 t380 t381 t382 _ A201.out).mono ?_
                     rintro e w204 ⟨rfl, hb⟩
                     refine ⟨_, rfl, ?_⟩
                     have n0_ := Sd.mk (blk_below (g := gb326) (o := .cells #[.int .i64 a1_0, .int .i64 a1_1] 25 (0, 0)) (by exact blkF BK326.out) hb)
                     have n1_ := Sd.mk (blk_below (g := gb327) (o := .cells #[.int .i64 a2_0, .int .i64 a2_1] 25 (0, 0)) (by exact blkF BK327.out) hb)
                     have n2_ := Sd.mk (blk_below (g := gb328) (o := .cells #[.int .i64 0, .int .i64 0] 25 (0, 0)) (by exact blkF BK328.out) hb)
                     have n3_ := Sd.mk (below_step (by repeat (first | (with_reducible first | exact HB.out | apply bal | apply pbd | apply bd1 | refine bst ?_ GE326.out | refine bst ?_ GE327.out | refine bst ?_ GE328.out) | exact HB.out)) hb)
                     clear BK326
                     clear BK327
                     clear BK328
                     clear HB
                     have BK326 := n0_
                     have BK327 := n1_
                     have BK328 := n2_
                     have HB := n3_
                     clear n0_ n1_ n2_ n3_
                     (try clear hb)
                     (try clear hb2)
                     (try clear hk)
                     (try clear hi)
                     refine hK.out _ _ ⟨(blk_cell BK326.out 0).trans rfl, (blk_cell BK326.out 1).trans rfl, (blk_cell BK327.out 0).trans rfl, (blk_cell BK327.out 1).trans rfl⟩ (fun hHeld => ?_)
                     clear hK K
                     refine norm_ (a' := ?_) ?_ ?_
                     rotate_left
                     ·show Act.put _ (some 141) _ = _
                      simp only [Act.put, List.setIfInBounds_toArray, List.set_cons_zero, List.set_cons_succ, i64_w, i32_w]
                      rfl
                     refine one_ (i := 4) (N := none) #[true, true, true, true, true, false] rfl rfl (by kernel_rfl) (by decide) (fun K hK => ?_)
                     have hs205 : w204.cell? ⟨gb328, 0, none⟩ = some (.int .i64 0) := (blk_cell BK328.out 0).trans rfl
                     have hfs205 := blk_frozen BK328.out 0
                     have hns205_0 := NB326_328.out
                     have hns205_1 := NB327_328.out
                     have hms205_0 := NB328_326.out
                     have hms205_1 := NB328_327.out
                     have hs206 : w204.cell? ⟨gb328, 1, none⟩ = some (.int .i64 0) := (blk_cell BK328.out 1).trans rfl
                     have hfs206 := blk_frozen BK328.out 1
                     have hns206_0 := NB326_328.out
                     have hns206_1 := NB327_328.out
                     have hms206_0 := NB328_326.out
                     have hms206_1 := NB328_327.out
                     refine skip_ (w1 := ?_) (by rfl) rfl ?_ ?_
                     rotate_left
                     ·go_simp
                      rfl
                     refine hK.out _ _ ⟨((cell_far (p := ⟨gb328, _, none⟩) NB326_328.out _).trans (((cell_far (p := ⟨gb328, _, none⟩) NB326_328.out _).trans (hHeld.1)))), ((cell_far (p := ⟨gb328, _, none⟩) NB326_328.out _).trans (((cell_far (p := ⟨gb328, _, none⟩) NB326_328.out _).trans (hHeld.2.1)))), ((cell_far (p := ⟨gb328, _, none⟩) NB327_328.out _).trans (((cell_far (p := ⟨gb328, _, none⟩) NB327_328.out _).trans (hHeld.2.2.1)))), ((cell_far (p := ⟨gb328, _, none⟩) NB327_328.out _).trans (((cell_far (p := ⟨gb328, _, none⟩) NB327_328.out _).trans (hHeld.2.2.2))))⟩ (fun hHeld => ?_)
                     clear hK K
                     refine pure_ (i := 5) (N := some 7) (v := ?_) (a' := ?_) #[true, true, true, true, true, true] rfl rfl (by kernel_rfl) (fun _ _ _ h => h) (Or.inl ⟨by rfl, ?_⟩) ?_ ?_
                     rotate_left
                     ·intro w'
                      go_simp
                      with_reducible rfl
                     rotate_left
                     ·simp only [Act.put, List.setIfInBounds_toArray, List.set_cons_zero, List.set_cons_succ, i64_w, i32_w]
                      rfl
                     refine done_ (by kernel_rfl) ?_
                     try go_wp2
                     refine bodyPost_ret (results_ct rfl _ _ gb328 25 #[.int .i64 t381, .int .i64 t382] (0, 0) _ rfl (by (with_reducible repeat (first | refine blk_drewN ?_ _ | refine blk_drew ?_ | refine blk_alloc ?_ _)); refine blk_put (cs := #[.int .i64 t381, .int .i64 0]) ?_ 1 _ rfl; (with_reducible repeat (first | refine blk_drewN ?_ _ | refine blk_drew ?_ | refine blk_alloc ?_ _)); refine blk_put (cs := #[.int .i64 0, .int .i64 0]) ?_ 0 _ rfl; (with_reducible repeat (first | refine blk_drewN ?_ _ | refine blk_drew ?_ | refine blk_alloc ?_ _)); exact BK328.out) Tryz.underlying25 rfl (by kernel_rfl)) rfl ?_
                     exact ⟨by first | rfl | (simp [errW_none, errW_some] <;> rfl) | (simp [*, errW_none, errW_some] <;> rfl), by repeat (first | (with_reducible first | exact HB.out | apply bal | apply pbd | apply bd1 | refine bst ?_ GE326.out | refine bst ?_ GE327.out | refine bst ?_ GE328.out) | exact HB.out)⟩
                    ·rw [if_neg c199] at H
                     have c199b0 : (a0.toList == ([45] : List UInt8)) = false := beq_eq_false_iff_ne.mpr c199
                     have c199b1 : (a0.toList != ([45] : List UInt8)) = true := bne_iff_ne.mpr c199
                     by_cases c207 : a0.toList = ([42] : List UInt8)
                     ·rw [if_pos c207] at H
                      have c207b0 : (a0.toList == ([42] : List UInt8)) = true := beq_iff_eq.mpr c207
                      have c207b1 : (a0.toList != ([42] : List UInt8)) = false := bne_eq_false_iff_eq.mpr c207
                      clear c207
                      replace H := Option.bind_eq_some_iff.mp H
                      obtain ⟨⟨t383, t384⟩, A2080, H⟩ := H
                      replace H : (some (t383, t384, true)) = some (r1, r2, r3) := H
                      have A208 := Sd.mk A2080
                      clear A2080
                      simp only [Option.some.injEq, Prod.mk.injEq] at H
                      obtain ⟨rfl, rfl, rfl⟩ := H
                      have hnb209 := NB326_327.out
                      have hnc209 := NB327_326.out
                      have hnb210 := NB326_328.out
                      have hnc210 := NB328_326.out
                      have hcz211_0 : wc.cell? ⟨gb326, 0, none⟩ = some (.int .i64 a1_0) := (blk_cell BK326.out 0).trans rfl
                      have hcz211_1 : wc.cell? ⟨gb326, 1, none⟩ = some (.int .i64 a1_1) := (blk_cell BK326.out 1).trans rfl
                      have hfz211_0 := blk_frozen BK326.out 0
                      have hfz211_1 := blk_frozen BK326.out 1
                      have hnb212 := NB327_328.out
                      have hnc212 := NB328_327.out
                      have hcz213_0 : wc.cell? ⟨gb327, 0, none⟩ = some (.int .i64 a2_0) := (blk_cell BK327.out 0).trans rfl
                      have hcz213_1 : wc.cell? ⟨gb327, 1, none⟩ = some (.int .i64 a2_1) := (blk_cell BK327.out 1).trans rfl
                      have hfz213_0 := blk_frozen BK327.out 0
                      have hfz213_1 := blk_frozen BK327.out 1
                      go_wp2_with (first | ((with_reducible refine gate_callee (f := 79) rfl ?_); refine goesL_ (some 146) rfl rfl Tryz.func79 (by kernel_rfl) rfl #[.agg #[.int .i64 a1_0, .int .i64 a1_1], .agg #[.int .i64 a2_0, .int .i64 a2_1]] rfl (by (try simp only [List.map_toArray, List.map_cons, List.map_nil]); first | done | rfl | (simp only [List.length_drop, List.length_take]; rfl)) ?_; (with_reducible refine (r8_times.calls kj31 a1_0 a1_1 a2_0 a2_1 t383 t384 _ A208.out).mono ?_); rintro e w214 ⟨rfl, hb⟩; refine ⟨_, rfl, ?_⟩; have n0_ := Sd.mk (blk_below (g := gb326) (o := .cells #[.int .i64 a1_0, .int .i64 a1_1] 25 (0, 0)) (by exact blkF BK326.out) hb); have n1_ := Sd.mk (blk_below (g := gb327) (o := .cells #[.int .i64 a2_0, .int .i64 a2_1] 25 (0, 0)) (by exact blkF BK327.out) hb); have n2_ := Sd.mk (blk_below (g := gb328) (o := .cells #[.int .i64 0, .int .i64 0] 25 (0, 0)) (by exact blkF BK328.out) hb); have n3_ := Sd.mk (below_step (by repeat (first | (with_reducible first | exact HB.out | apply bal | apply pbd | apply bd1 | refine bst ?_ GE326.out | refine bst ?_ GE327.out | refine bst ?_ GE328.out) | exact HB.out)) hb); clear BK326; clear BK327; clear BK328; clear HB; have BK326 := n0_; have BK327 := n1_; have BK328 := n2_; have HB := n3_; clear n0_ n1_ n2_ n3_; (try clear hb); (try clear hb2); (try clear hk); (try clear hi); have hcz215_0 : w214.cell? ⟨gb328, 0, none⟩ = some (.int .i64 0) := (blk_cell BK328.out 0).trans rfl; have hcz215_1 : w214.cell? ⟨gb328, 1, none⟩ = some (.int .i64 0) := (blk_cell BK328.out 1).trans rfl; have hfz215_0 := blk_frozen BK328.out 0; have hfz215_1 := blk_frozen BK328.out 1))
                      refine bodyPost_ret (results_ct rfl _ _ gb328 25 #[.int .i64 t383, .int .i64 t384] (0, 0) _ rfl (by (with_reducible repeat (first | refine blk_drewN ?_ _ | refine blk_drew ?_ | refine blk_alloc ?_ _)); refine blk_put (cs := #[.int .i64 t383, .int .i64 0]) ?_ 1 _ rfl; (with_reducible repeat (first | refine blk_drewN ?_ _ | refine blk_drew ?_ | refine blk_alloc ?_ _)); refine blk_put (cs := #[.int .i64 0, .int .i64 0]) ?_ 0 _ rfl; (with_reducible repeat (first | refine blk_drewN ?_ _ | refine blk_drew ?_ | refine blk_alloc ?_ _)); exact BK328.out) Tryz.underlying25 rfl (by kernel_rfl)) rfl ?_
                      exact ⟨by first | rfl | (simp [errW_none, errW_some] <;> rfl) | (simp [*, errW_none, errW_some] <;> rfl), by repeat (first | (with_reducible first | exact HB.out | apply bal | apply pbd | apply bd1 | refine bst ?_ GE326.out | refine bst ?_ GE327.out | refine bst ?_ GE328.out) | exact HB.out)⟩
                     ·rw [if_neg c207] at H
                      have c207b0 : (a0.toList == ([42] : List UInt8)) = false := beq_eq_false_iff_ne.mpr c207
                      have c207b1 : (a0.toList != ([42] : List UInt8)) = true := bne_iff_ne.mpr c207
                      replace H := Option.bind_eq_some_iff.mp H
                      obtain ⟨⟨t385, t386⟩, A2160, H⟩ := H
                      replace H : (some (t385, t386, true)) = some (r1, r2, r3) := H
                      have A216 := Sd.mk A2160
                      clear A2160
                      simp only [Option.some.injEq, Prod.mk.injEq] at H
                      obtain ⟨rfl, rfl, rfl⟩ := H
                      have hnb217 := NB326_327.out
                      have hnc217 := NB327_326.out
                      have hnb218 := NB326_328.out
                      have hnc218 := NB328_326.out
                      have hcz219_0 : wc.cell? ⟨gb326, 0, none⟩ = some (.int .i64 a1_0) := (blk_cell BK326.out 0).trans rfl
                      have hcz219_1 : wc.cell? ⟨gb326, 1, none⟩ = some (.int .i64 a1_1) := (blk_cell BK326.out 1).trans rfl
                      have hfz219_0 := blk_frozen BK326.out 0
                      have hfz219_1 := blk_frozen BK326.out 1
                      have hnb220 := NB327_328.out
                      have hnc220 := NB328_327.out
                      have hcz221_0 : wc.cell? ⟨gb327, 0, none⟩ = some (.int .i64 a2_0) := (blk_cell BK327.out 0).trans rfl
                      have hcz221_1 : wc.cell? ⟨gb327, 1, none⟩ = some (.int .i64 a2_1) := (blk_cell BK327.out 1).trans rfl
                      have hfz221_0 := blk_frozen BK327.out 0
                      have hfz221_1 := blk_frozen BK327.out 1
                      go_wp2_with (first | ((with_reducible refine gate_callee (f := 80) rfl ?_); refine goesL_ (some 149) rfl rfl Tryz.func80 (by kernel_rfl) rfl #[.agg #[.int .i64 a1_0, .int .i64 a1_1], .agg #[.int .i64 a2_0, .int .i64 a2_1]] rfl (by (try simp only [List.map_toArray, List.map_cons, List.map_nil]); first | done | rfl | (simp only [List.length_drop, List.length_take]; rfl)) ?_; (with_reducible refine (r8_over.calls kj31 a1_0 a1_1 a2_0 a2_1 t385 t386 _ A216.out).mono ?_); rintro e w222 ⟨rfl, hb⟩; refine ⟨_, rfl, ?_⟩; have n0_ := Sd.mk (blk_below (g := gb326) (o := .cells #[.int .i64 a1_0, .int .i64 a1_1] 25 (0, 0)) (by exact blkF BK326.out) hb); have n1_ := Sd.mk (blk_below (g := gb327) (o := .cells #[.int .i64 a2_0, .int .i64 a2_1] 25 (0, 0)) (by exact blkF BK327.out) hb); have n2_ := Sd.mk (blk_below (g := gb328) (o := .cells #[.int .i64 0, .int .i64 0] 25 (0, 0)) (by exact blkF BK328.out) hb); have n3_ := Sd.mk (below_step (by repeat (first | (with_reducible first | exact HB.out | apply bal | apply pbd | apply bd1 | refine bst ?_ GE326.out | refine bst ?_ GE327.out | refine bst ?_ GE328.out) | exact HB.out)) hb); clear BK326; clear BK327; clear BK328; clear HB; have BK326 := n0_; have BK327 := n1_; have BK328 := n2_; have HB := n3_; clear n0_ n1_ n2_ n3_; (try clear hb); (try clear hb2); (try clear hk); (try clear hi); have hcz223_0 : w222.cell? ⟨gb328, 0, none⟩ = some (.int .i64 0) := (blk_cell BK328.out 0).trans rfl; have hcz223_1 : w222.cell? ⟨gb328, 1, none⟩ = some (.int .i64 0) := (blk_cell BK328.out 1).trans rfl; have hfz223_0 := blk_frozen BK328.out 0; have hfz223_1 := blk_frozen BK328.out 1))
                      refine bodyPost_ret (results_ct rfl _ _ gb328 25 #[.int .i64 t385, .int .i64 t386] (0, 0) _ rfl (by (with_reducible repeat (first | refine blk_drewN ?_ _ | refine blk_drew ?_ | refine blk_alloc ?_ _)); refine blk_put (cs := #[.int .i64 t385, .int .i64 0]) ?_ 1 _ rfl; (with_reducible repeat (first | refine blk_drewN ?_ _ | refine blk_drew ?_ | refine blk_alloc ?_ _)); refine blk_put (cs := #[.int .i64 0, .int .i64 0]) ?_ 0 _ rfl; (with_reducible repeat (first | refine blk_drewN ?_ _ | refine blk_drew ?_ | refine blk_alloc ?_ _)); exact BK328.out) Tryz.underlying25 rfl (by kernel_rfl)) rfl ?_
                      exact ⟨by first | rfl | (simp [errW_none, errW_some] <;> rfl) | (simp [*, errW_none, errW_some] <;> rfl), by repeat (first | (with_reducible first | exact HB.out | apply bal | apply pbd | apply bd1 | refine bst ?_ GE326.out | refine bst ?_ GE327.out | refine bst ?_ GE328.out) | exact HB.out)⟩
    ·replace c14 := Bool.eq_false_iff.mpr c14
     subst c14
     have H1 : (some (0, 0, false)) = some (r1, r2, r3) := by rw [if_neg (show ¬ (false = true) by decide)] at H; exact H
     clear H
     have H := H1
     clear H1
     simp only [Option.some.injEq, Prod.mk.injEq] at H
     obtain ⟨rfl, rfl, rfl⟩ := H
     obtain ⟨Ao224, co224, eo224⟩ := Kd.R_slice HO_9.out
     subst eo224
     have hnb225 := NB328_326.out
     have hnc225 := NB326_328.out
     have hnb226 := NB328_327.out
     have hnc226 := NB327_328.out
     have hcz227_0 : wr.cell? ⟨gb328, 0, none⟩ = some (.int .i64 0) := (blk_cell BK328.out 0).trans rfl
     have hcz227_1 : wr.cell? ⟨gb328, 1, none⟩ = some (.int .i64 0) := (blk_cell BK328.out 1).trans rfl
     have hfz227_0 := blk_frozen BK328.out 0
     have hfz227_1 := blk_frozen BK328.out 1
     go_wp2
     refine bodyPost_ret (results_ct rfl _ _ gb328 25 #[.int .i64 0, .int .i64 0] (0, 0) _ rfl (by (with_reducible repeat (first | refine blk_drewN ?_ _ | refine blk_drew ?_ | refine blk_alloc ?_ _)); refine blk_put (cs := #[.int .i64 0, .int .i64 0]) ?_ 1 _ rfl; (with_reducible repeat (first | refine blk_drewN ?_ _ | refine blk_drew ?_ | refine blk_alloc ?_ _)); refine blk_put (cs := #[.int .i64 0, .int .i64 0]) ?_ 0 _ rfl; (with_reducible repeat (first | refine blk_drewN ?_ _ | refine blk_drew ?_ | refine blk_alloc ?_ _)); exact BK328.out) Tryz.underlying25 rfl (by kernel_rfl)) rfl ?_
     exact ⟨by first | rfl | (simp [errW_none, errW_some] <;> rfl) | (simp [*, errW_none, errW_some] <;> rfl), by repeat (first | (with_reducible first | exact HB.out | apply bal | apply pbd | apply bd1 | refine bst ?_ GE326.out | refine bst ?_ GE327.out | refine bst ?_ GE328.out) | exact HB.out)⟩
end Go.Proofs.YtcmiehddjgfjaaaGreatDoor.A
